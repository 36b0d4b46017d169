/- Plain laws and walks, each by its own conditions. -/
import Derived.Test.YtobgigcdpiikaaaGreatDoorUc29
import Derived.Deep.Slices
import Derived.ProofKit
set_option linter.unusedSimpArgs false
set_option linter.unusedVariables false
set_option maxRecDepth 100000
set_option maxHeartbeats 16000000
namespace Go.Proofs.YtobgigcdpiikaaaGreatDoor
section
open BigFrame Go.RowKit Go.Phx Go.Shelf
attribute [local go_sem] Oper.semAt_some
def LiW(w:World) (g b3 b4:Nat) (l:Lt) (wx:World):Prop :=
 Blk wx g 33 (ltA l)∧Blk wx (g+1) 79 #[.bool false,.string ⟨#[]⟩,.slice none 0 0]∧Blk wx b3 28 (hdA l.b)∧Blk wx b4 30 (exA l.x)∧Below w.heap.size w wx
theorem hlight_calls(l:Lt) (h1:l.b.slot<18446744073709551616) (h2:l.b.prop<18446744073709551616) (h3:l.x.num<18446744073709551616) (hc:l.br.l.length≤1000) (w:World) (R:Txts w l.br.addr l.br.l):Calls Tryz.prog 27 #[ltV l] w (ItP w (ltI l)):=by
 have n1:=fun W (hB:Below w.heap.size w W)=>htexts_calls l.br.addr l.br.cap l.br.l hc W (R.below hB)
 have n2:=fun s W=>text_calls s W
 have n3:=fun A n c W=>list_calls A n c W
 have n4:=fun W=>hnumber_calls l.b.slot h1 W
 have n5:=fun W=>hnumber_calls l.b.prop h2 W
 have n6:=fun W=>hnumber_calls l.x.num h3 W
 have K0:=Z ((Blk.new0 w 33 (ltA l)).alloc (.cells #[.bool false,.string ⟨#[]⟩,.slice none 0 0] 79))
 have K1:=Z (Blk.new1 w (.cells (ltA l) 33) 79 #[.bool false,.string ⟨#[]⟩,.slice none 0 0])
 have HB:Below w.heap.size w ((w.alloc (.cells (ltA l) 33)).alloc (.cells #[.bool false,.string ⟨#[]⟩,.slice none 0 0] 79)):=bel
 replace n1:=Z n1
 replace n2:=Z n2
 replace n3:=Z n3
 replace n4:=Z n4
 replace n5:=Z n5
 replace n6:=Z n6
 clear h1 h2 h3
 go_enter Tryz.func27, Tryz.ntmps27
 go_wp2_with fail
 obtain⟨W,hW⟩:∃ W,(w.alloc (.cells (ltA l) 33)).alloc (.cells #[.bool false,.string ⟨#[]⟩,.slice none 0 0] 79)=W:=⟨_,rfl⟩
 have hsz:W.heap.size=w.heap.size+2:=by rw[←hW];simp
 rw[hW]at K0 K1 HB ⊢
 clear hW
 obtain⟨g,hg⟩:∃ g,w.heap.size=g:=⟨_,rfl⟩
 rw[hg]at K0 K1 hsz ⊢
 have HG:=Z hg
 clear hg
 (obtain⟨k0,f0,l0,m0⟩:=rl_ K0;obtain⟨k1,f1,l1,m1⟩:=rl_ K1)
 go_cut [3,4] (fun s3 s4 wx=>∃ b3 b4,s3=.pointer (some ⟨b3,0,none⟩)∧s4=.pointer (some ⟨b4,0,none⟩)∧LiW w g b3 b4 l wx)
 case first =>
  have hwf:∀ f,Fence.wide.fn f:=fun _=>trivial
  refine(wpIn_wide (n:=9)).1 ?_
  refine wpIn_round_held (fun w'=>Below W.heap.size W w') (fun j=>true) U ?_
  have hS0:(fun w'=>Below W.heap.size W w') W.drew:=(Below.refl _ _).drew
  refine S_tg 0 (.pointer (some ⟨g,0,none⟩)) rfl hS0 ?_
  refine S_tk 1 (hdV (l.b)) rfl hS0 (fun w' hw=>exec_load rfl U (ldLt_b (l) (K0.out.below hw))) ?_
  refine S_tg 2 (.pointer (some ⟨g,5,none⟩)) rfl hS0 ?_
  refine S_tk 3 (exV (l.x)) rfl hS0 (fun w' hw=>exec_load rfl U (ldLt_x (l) (K0.out.below hw))) ?_
  refine S_list [4,5] U (by decide) ⟨?_,?_,trivial⟩
  ·show wpOpIn _ _ _ _ _ 4 _ _ _
   obtain⟨x3n1,hbx⟩:∃ x,W.drew.heap.size=x:=⟨_,rfl⟩
   have hbx2:=hbx
   (try simp[go_sem]at hbx2)
   have hb3:W.heap.size≤x3n1:=by rw[←hbx];exact hS0.size
   have KA3:=Blk.new0 W.drew 28 (hdA Hd.zero)
   rw[hbx]at KA3
   replace KA3:=Z KA3
   replace hS0:Below _ _ (W.drew.alloc (.cells (hdA Hd.zero) 28)):=hS0.alloc hS0.size _
   refine op_go (nd:=fun j=>true) (S:=fun w'=>Below W.heap.size W w') (i:=4) (fun _=>trivial) U rfl U (.pointer (some ⟨x3n1,0,none⟩)) (W.drew.alloc (.cells (hdA Hd.zero) 28)) (by first|(go_simp;done)|(go_simp;rfl)|(go_simp;exact⟨hbx2,rfl⟩)) (fun _=>hS0) ?_
   clear hbx hbx2
   obtain⟨x4n2,hbx⟩:∃ x,(W.drew.alloc (.cells (hdA Hd.zero) 28)).heap.size=x:=⟨_,rfl⟩
   have hbx2:=hbx
   (try simp[go_sem]at hbx2)
   have hA3_4:x3n1<x4n2:=by rw[←hbx];exact KA3.out.lt
   have hb4:W.heap.size≤x4n2:=by rw[←hbx];exact hS0.size
   replace KA3:=Z (KA3.out.alloc (.cells (exA Ex.zero) 30))
   have KA4:=Blk.new0 (W.drew.alloc (.cells (hdA Hd.zero) 28)) 30 (exA Ex.zero)
   rw[hbx]at KA4
   replace KA4:=Z KA4
   replace hS0:Below _ _ ((W.drew.alloc (.cells (hdA Hd.zero) 28)).alloc (.cells (exA Ex.zero) 30)):=hS0.alloc hS0.size _
   refine S_go 5 (fun _=>trivial) U U rfl U (.pointer (some ⟨x4n2,0,none⟩)) ((W.drew.alloc (.cells (hdA Hd.zero) 28)).alloc (.cells (exA Ex.zero) 30)) (by first|(go_simp;done)|(go_simp;rfl)|(go_simp;exact⟨hbx2,rfl⟩)) (fun _=>hS0) ?_
   clear hbx hbx2
   have hS1:(fun w'=>Below W.heap.size W w') (setRow ((W.drew.alloc (.cells (hdA Hd.zero) 28)).alloc (.cells (exA Ex.zero) 30)) (x3n1) 28 (hdA l.b)):=Below.row hS0 hb3 hS0.size
   refine S_store 6 (fun _=>trivial) U U rfl U (setRow ((W.drew.alloc (.cells (hdA Hd.zero) 28)).alloc (.cells (exA Ex.zero) 30)) (x3n1) 28 (hdA l.b)) (exec_store _ _ rfl U U (stHd Hd.zero KA3.out l.b)) (fun _=>hS1) ?_
   clear hS0
   have hS0:=hS1
   clear hS1
   replace KA4:=Z (Blk.rowOver (g':=x3n1) (t' := 28) (cs':=hdA l.b) (by first|assumption|exact Nat.ne_of_lt (by assumption)|exact Nat.ne_of_gt (by assumption)|omega) KA4.out)
   replace KA3:=Z (Blk.row (t := 28) (cs:=hdA l.b) KA3.out.lt)
   have hS1:(fun w'=>Below W.heap.size W w') (setRow (setRow ((W.drew.alloc (.cells (hdA Hd.zero) 28)).alloc (.cells (exA Ex.zero) 30)) (x3n1) 28 (hdA l.b)) (x4n2) 30 (exA l.x)):=Below.row hS0 hb4 hS0.size
   refine S_store 7 (fun _=>trivial) U U rfl U (setRow (setRow ((W.drew.alloc (.cells (hdA Hd.zero) 28)).alloc (.cells (exA Ex.zero) 30)) (x3n1) 28 (hdA l.b)) (x4n2) 30 (exA l.x)) (exec_store _ _ rfl U U (stEx Ex.zero KA4.out l.x)) (fun _=>hS1) ?_
   clear hS0
   have hS0:=hS1
   clear hS1
   replace KA3:=Z (Blk.rowOver (g':=x4n2) (t' := 30) (cs':=exA l.x) (by first|assumption|exact Nat.ne_of_lt (by assumption)|exact Nat.ne_of_gt (by assumption)|omega) KA3.out)
   replace KA4:=Z (Blk.row (t := 30) (cs:=exA l.x) KA4.out.lt)
   refine⟨by kernel_rfl,rfl,?_⟩
   go_wp2_with fail
   go_meet
   case rel=>exact⟨_,_,rfl,rfl,K0.out.below hS0,K1.out.below hS0,KA3.out,KA4.out,Below.on hS0 HB⟩
  ·show wpOpIn _ _ _ _ _ 5 _ _ _
   obtain⟨x4n3,hbx⟩:∃ x,W.drew.heap.size=x:=⟨_,rfl⟩
   have hbx2:=hbx
   (try simp[go_sem]at hbx2)
   have hb4:W.heap.size≤x4n3:=by rw[←hbx];exact hS0.size
   have KA4:=Blk.new0 W.drew 30 (exA Ex.zero)
   rw[hbx]at KA4
   replace KA4:=Z KA4
   replace hS0:Below _ _ (W.drew.alloc (.cells (exA Ex.zero) 30)):=hS0.alloc hS0.size _
   refine op_go (nd:=fun j=>true) (S:=fun w'=>Below W.heap.size W w') (i:=5) (fun _=>trivial) U rfl U (.pointer (some ⟨x4n3,0,none⟩)) (W.drew.alloc (.cells (exA Ex.zero) 30)) (by first|(go_simp;done)|(go_simp;rfl)|(go_simp;exact⟨hbx2,rfl⟩)) (fun _=>hS0) ?_
   clear hbx hbx2
   obtain⟨x3n4,hbx⟩:∃ x,(W.drew.alloc (.cells (exA Ex.zero) 30)).heap.size=x:=⟨_,rfl⟩
   have hbx2:=hbx
   (try simp[go_sem]at hbx2)
   have hA4_3:x4n3<x3n4:=by rw[←hbx];exact KA4.out.lt
   have hb3:W.heap.size≤x3n4:=by rw[←hbx];exact hS0.size
   replace KA4:=Z (KA4.out.alloc (.cells (hdA Hd.zero) 28))
   have KA3:=Blk.new0 (W.drew.alloc (.cells (exA Ex.zero) 30)) 28 (hdA Hd.zero)
   rw[hbx]at KA3
   replace KA3:=Z KA3
   replace hS0:Below _ _ ((W.drew.alloc (.cells (exA Ex.zero) 30)).alloc (.cells (hdA Hd.zero) 28)):=hS0.alloc hS0.size _
   refine S_go 4 (fun _=>trivial) U U rfl U (.pointer (some ⟨x3n4,0,none⟩)) ((W.drew.alloc (.cells (exA Ex.zero) 30)).alloc (.cells (hdA Hd.zero) 28)) (by first|(go_simp;done)|(go_simp;rfl)|(go_simp;exact⟨hbx2,rfl⟩)) (fun _=>hS0) ?_
   clear hbx hbx2
   have hS1:(fun w'=>Below W.heap.size W w') (setRow ((W.drew.alloc (.cells (exA Ex.zero) 30)).alloc (.cells (hdA Hd.zero) 28)) (x3n4) 28 (hdA l.b)):=Below.row hS0 hb3 hS0.size
   refine S_store 6 (fun _=>trivial) U U rfl U (setRow ((W.drew.alloc (.cells (exA Ex.zero) 30)).alloc (.cells (hdA Hd.zero) 28)) (x3n4) 28 (hdA l.b)) (exec_store _ _ rfl U U (stHd Hd.zero KA3.out l.b)) (fun _=>hS1) ?_
   clear hS0
   have hS0:=hS1
   clear hS1
   replace KA4:=Z (Blk.rowOver (g':=x3n4) (t' := 28) (cs':=hdA l.b) (by first|assumption|exact Nat.ne_of_lt (by assumption)|exact Nat.ne_of_gt (by assumption)|omega) KA4.out)
   replace KA3:=Z (Blk.row (t := 28) (cs:=hdA l.b) KA3.out.lt)
   have hS1:(fun w'=>Below W.heap.size W w') (setRow (setRow ((W.drew.alloc (.cells (exA Ex.zero) 30)).alloc (.cells (hdA Hd.zero) 28)) (x3n4) 28 (hdA l.b)) (x4n3) 30 (exA l.x)):=Below.row hS0 hb4 hS0.size
   refine S_store 7 (fun _=>trivial) U U rfl U (setRow (setRow ((W.drew.alloc (.cells (exA Ex.zero) 30)).alloc (.cells (hdA Hd.zero) 28)) (x3n4) 28 (hdA l.b)) (x4n3) 30 (exA l.x)) (exec_store _ _ rfl U U (stEx Ex.zero KA4.out l.x)) (fun _=>hS1) ?_
   clear hS0
   have hS0:=hS1
   clear hS1
   replace KA3:=Z (Blk.rowOver (g':=x4n3) (t' := 30) (cs':=exA l.x) (by first|assumption|exact Nat.ne_of_lt (by assumption)|exact Nat.ne_of_gt (by assumption)|omega) KA3.out)
   replace KA4:=Z (Blk.row (t := 30) (cs:=exA l.x) KA4.out.lt)
   refine⟨by kernel_rfl,rfl,?_⟩
   go_wp2_with fail
   go_meet
   case rel=>exact⟨_,_,rfl,rfl,K0.out.below hS0,K1.out.below hS0,KA3.out,KA4.out,Below.on hS0 HB⟩
 case rest =>
  obtain⟨b3,b4,rfl,rfl,hW⟩:=hcut
  have j0:=Z hW.1
  have j1:=Z hW.2.1
  have j3:=Z hW.2.2.1
  have j4:=Z hW.2.2.2.1
  have HBn:=hW.2.2.2.2
  clear hW k0 f0 l0 m0 k1 f1 l1 m1 K0 K1 HB
  have K0:=j0;have K1:=j1;have K3:=j3;have K4:=j4;have HB:=HBn
  clear j0 j1 j3 j4 HBn hsz
  have hgw:w.heap.size≤g+1:=by have:=HG.out;omega
  have hB0:=Z HB
  have HB0:=Z HB.size
  (obtain⟨k0,f0,l0,m0⟩:=rl_ K0;obtain⟨k1,f1,l1,m1⟩:=rl_ K1;obtain⟨k3,f3,l3,m3⟩:=rl_ K3;obtain⟨k4,f4,l4,m4⟩:=rl_ K4)
  go_wp2_with fail
  have hwf:∀ f,Fence.wide.fn f:=fun _=>trivial
  refine(wpIn_wide (n:=9)).1 ?_
  refine wpIn_round_held (fun w'=>Below wc.heap.size wc w') (fun j => !decide (j∈[33])) U ?_
  have hS0:(fun w'=>Below wc.heap.size wc w') wc.drew:=(Below.refl _ _).drew
  have KA100:=Z (K1.out.drew)
  have HBt:=HB.drew
  refine S_tg 0 (.pointer (some ⟨b3,0,none⟩)) rfl hS0 ?_
  refine S_tk 1 (.int .u64 (l.b.slot:Int)) rfl hS0 (fun w' hw=>exec_load rfl U (run_load_cell (i:=0) (K3.out.below hw) rfl szU64 nrU64)) ?_
  refine S_tg 3 (.pointer (some ⟨b3,1,none⟩)) rfl hS0 ?_
  refine S_tk 4 (.int .u64 (l.b.prop:Int)) rfl hS0 (fun w' hw=>exec_load rfl U (run_load_cell (i:=1) (K3.out.below hw) rfl szU64 nrU64)) ?_
  refine S_tg 6 (.pointer (some ⟨b3,2,none⟩)) rfl hS0 ?_
  refine S_tk 7 (.string (bs l.b.parent)) rfl hS0 (fun w' hw=>exec_load rfl U (run_load_cell (i:=2) (K3.out.below hw) rfl szStr nrStr)) ?_
  refine S_tg 9 (.pointer (some ⟨b3,3,none⟩)) rfl hS0 ?_
  refine S_tk 10 (.string (bs l.b.state)) rfl hS0 (fun w' hw=>exec_load rfl U (run_load_cell (i:=3) (K3.out.below hw) rfl szStr nrStr)) ?_
  refine S_tg 12 (.pointer (some ⟨b3,4,none⟩)) rfl hS0 ?_
  refine S_tk 13 (.string (bs l.b.body)) rfl hS0 (fun w' hw=>exec_load rfl U (run_load_cell (i:=4) (K3.out.below hw) rfl szStr nrStr)) ?_
  refine S_tg 17 (.pointer (some ⟨b4,0,none⟩)) rfl hS0 ?_
  refine S_tk 18 (.string (bs l.x.acc)) rfl hS0 (fun w' hw=>exec_load rfl U (run_load_cell (i:=0) (K4.out.below hw) rfl szStr nrStr)) ?_
  refine S_tg 20 (.pointer (some ⟨b4,1,none⟩)) rfl hS0 ?_
  refine S_tk 21 (.string (bs l.x.rcp)) rfl hS0 (fun w' hw=>exec_load rfl U (run_load_cell (i:=1) (K4.out.below hw) rfl szStr nrStr)) ?_
  refine S_tg 23 (.pointer (some ⟨b4,2,none⟩)) rfl hS0 ?_
  refine S_tk 24 (.int .u64 (l.x.num:Int)) rfl hS0 (fun w' hw=>exec_load rfl U (run_load_cell (i:=2) (K4.out.below hw) rfl szU64 nrU64)) ?_
  refine S_tg 28 (.pointer (some ⟨g,8,none⟩)) rfl hS0 ?_
  refine S_tk 29 (.slice l.br.addr l.br.l.length l.br.cap) rfl hS0 (fun w' hw=>exec_load rfl U (run_load_cell (i:=8) (K0.out.below hw) rfl szRw nrRw)) ?_
  refine S_one 2 U rfl (fun K hK=>?_)
  go_simp
  gi_wp2_with(gi_at_call 30; refine(callsIn_wide.2 (n4.out _)).mono ?_;rintro e wch1 ⟨rfl,hN⟩)
  replace KA100:=hn_ KA100 hN
  replace HBt:=Below.on hN HBt
  replace hS0:=hS0.trans (hN.mono hS0.size)
  clear hN
  refine⟨(fun _=>hS0),?_⟩
  refine S_one 5 U rfl (fun K hK=>?_)
  go_simp
  gi_wp2_with(gi_at_call 30; refine(callsIn_wide.2 (n5.out _)).mono ?_;rintro e wch2 ⟨rfl,hN⟩)
  replace KA100:=hn_ KA100 hN
  replace HBt:=Below.on hN HBt
  replace hS0:=hS0.trans (hN.mono hS0.size)
  clear hN
  refine⟨(fun _=>hS0),?_⟩
  refine S_one 8 U rfl (fun K hK=>?_)
  go_simp
  gi_wp2_with(gi_at_call 31; refine(callsIn_wide.2 (n2.out _ _)).mono ?_;rintro e wch3 ⟨rfl,hN⟩)
  replace KA100:=hn_ KA100 hN
  replace HBt:=Below.on hN HBt
  replace hS0:=hS0.trans (hN.mono hS0.size)
  clear hN
  refine⟨(fun _=>hS0),?_⟩
  refine S_one 11 U rfl (fun K hK=>?_)
  go_simp
  gi_wp2_with(gi_at_call 31; refine(callsIn_wide.2 (n2.out _ _)).mono ?_;rintro e wch4 ⟨rfl,hN⟩)
  replace KA100:=hn_ KA100 hN
  replace HBt:=Below.on hN HBt
  replace hS0:=hS0.trans (hN.mono hS0.size)
  clear hN
  refine⟨(fun _=>hS0),?_⟩
  refine S_one 14 U rfl (fun K hK=>?_)
  go_simp
  gi_wp2_with(gi_at_call 31; refine(callsIn_wide.2 (n2.out _ _)).mono ?_;rintro e wch5 ⟨rfl,hN⟩)
  replace KA100:=hn_ KA100 hN
  replace HBt:=Below.on hN HBt
  replace hS0:=hS0.trans (hN.mono hS0.size)
  clear hN
  refine⟨(fun _=>hS0),?_⟩
  obtain⟨x24n6,hbx⟩:∃ x,wch5.heap.size=x:=⟨_,rfl⟩
  have hbx2:=hbx
  (try simp[go_sem]at hbx2)
  have hA100_24:(g+1)<x24n6:=by rw[←hbx];exact KA100.out.lt
  have hb24:wc.heap.size≤x24n6:=by rw[←hbx];exact hS0.size
  replace KA100:=Z (KA100.out.alloc (.cells #[.bool false,.string (bs (rlpN l.b.slot)),.slice none 0 0,.bool false,.string (bs (rlpN l.b.prop)),.slice none 0 0,.bool false,.string (bs l.b.parent),.slice none 0 0,.bool false,.string (bs l.b.state),.slice none 0 0,.bool false,.string (bs l.b.body),.slice none 0 0] 79))
  have KA24:=Blk.new0 wch5 79 #[.bool false,.string (bs (rlpN l.b.slot)),.slice none 0 0,.bool false,.string (bs (rlpN l.b.prop)),.slice none 0 0,.bool false,.string (bs l.b.parent),.slice none 0 0,.bool false,.string (bs l.b.state),.slice none 0 0,.bool false,.string (bs l.b.body),.slice none 0 0]
  rw[hbx]at KA24
  replace KA24:=Z KA24
  replace HBt:=HBt.alloc HBt.size (.cells #[.bool false,.string (bs (rlpN l.b.slot)),.slice none 0 0,.bool false,.string (bs (rlpN l.b.prop)),.slice none 0 0,.bool false,.string (bs l.b.parent),.slice none 0 0,.bool false,.string (bs l.b.state),.slice none 0 0,.bool false,.string (bs l.b.body),.slice none 0 0] 79)
  replace hS0:Below _ _ (wch5.alloc (.cells #[.bool false,.string (bs (rlpN l.b.slot)),.slice none 0 0,.bool false,.string (bs (rlpN l.b.prop)),.slice none 0 0,.bool false,.string (bs l.b.parent),.slice none 0 0,.bool false,.string (bs l.b.state),.slice none 0 0,.bool false,.string (bs l.b.body),.slice none 0 0] 79)):=hS0.alloc hS0.size _
  refine S_go 15 (fun _=>trivial) U U rfl U (.slice (some ⟨x24n6,0,none⟩) 5 5) (wch5.alloc (.cells #[.bool false,.string (bs (rlpN l.b.slot)),.slice none 0 0,.bool false,.string (bs (rlpN l.b.prop)),.slice none 0 0,.bool false,.string (bs l.b.parent),.slice none 0 0,.bool false,.string (bs l.b.state),.slice none 0 0,.bool false,.string (bs l.b.body),.slice none 0 0] 79)) (by first|(go_simp;done)|(go_simp;rfl)|(go_simp;exact⟨hbx2,rfl⟩)) (fun _=>hS0) ?_
  clear hbx hbx2
  refine S_one 16 U rfl (fun K hK=>?_)
  go_simp
  gi_wp2_with(gi_at_call 26; refine(callsIn_wide.2 (n3.out _ _ _ _)).mono ?_;rintro e wch7 ⟨rfl,hN⟩)
  replace KA100:=hn_ KA100 hN
  replace KA24:=hn_ KA24 hN
  replace HBt:=Below.on hN HBt
  replace hS0:=hS0.trans (hN.mono hS0.size)
  clear hN
  refine⟨(fun _=>hS0),?_⟩
  refine S_one 19 U rfl (fun K hK=>?_)
  go_simp
  gi_wp2_with(gi_at_call 31; refine(callsIn_wide.2 (n2.out _ _)).mono ?_;rintro e wch8 ⟨rfl,hN⟩)
  replace KA100:=hn_ KA100 hN
  replace KA24:=hn_ KA24 hN
  replace HBt:=Below.on hN HBt
  replace hS0:=hS0.trans (hN.mono hS0.size)
  clear hN
  refine⟨(fun _=>hS0),?_⟩
  refine S_one 22 U rfl (fun K hK=>?_)
  go_simp
  gi_wp2_with(gi_at_call 31; refine(callsIn_wide.2 (n2.out _ _)).mono ?_;rintro e wch9 ⟨rfl,hN⟩)
  replace KA100:=hn_ KA100 hN
  replace KA24:=hn_ KA24 hN
  replace HBt:=Below.on hN HBt
  replace hS0:=hS0.trans (hN.mono hS0.size)
  clear hN
  refine⟨(fun _=>hS0),?_⟩
  refine S_one 25 U rfl (fun K hK=>?_)
  go_simp
  gi_wp2_with(gi_at_call 30; refine(callsIn_wide.2 (n6.out _)).mono ?_;rintro e wch10 ⟨rfl,hN⟩)
  replace KA100:=hn_ KA100 hN
  replace KA24:=hn_ KA24 hN
  replace HBt:=Below.on hN HBt
  replace hS0:=hS0.trans (hN.mono hS0.size)
  clear hN
  refine⟨(fun _=>hS0),?_⟩
  obtain⟨x35n11,hbx⟩:∃ x,wch10.heap.size=x:=⟨_,rfl⟩
  have hbx2:=hbx
  (try simp[go_sem]at hbx2)
  have hA100_35:(g+1)<x35n11:=by rw[←hbx];exact KA100.out.lt
  have hA24_35:x24n6<x35n11:=by rw[←hbx];exact KA24.out.lt
  have hb35:wc.heap.size≤x35n11:=by rw[←hbx];exact hS0.size
  replace KA100:=Z (KA100.out.alloc (.cells #[.bool false,.string (bs l.x.acc),.slice none 0 0,.bool false,.string (bs l.x.rcp),.slice none 0 0,.bool false,.string (bs (rlpN l.x.num)),.slice none 0 0] 79))
  replace KA24:=Z (KA24.out.alloc (.cells #[.bool false,.string (bs l.x.acc),.slice none 0 0,.bool false,.string (bs l.x.rcp),.slice none 0 0,.bool false,.string (bs (rlpN l.x.num)),.slice none 0 0] 79))
  have KA35:=Blk.new0 wch10 79 #[.bool false,.string (bs l.x.acc),.slice none 0 0,.bool false,.string (bs l.x.rcp),.slice none 0 0,.bool false,.string (bs (rlpN l.x.num)),.slice none 0 0]
  rw[hbx]at KA35
  replace KA35:=Z KA35
  replace HBt:=HBt.alloc HBt.size (.cells #[.bool false,.string (bs l.x.acc),.slice none 0 0,.bool false,.string (bs l.x.rcp),.slice none 0 0,.bool false,.string (bs (rlpN l.x.num)),.slice none 0 0] 79)
  replace hS0:Below _ _ (wch10.alloc (.cells #[.bool false,.string (bs l.x.acc),.slice none 0 0,.bool false,.string (bs l.x.rcp),.slice none 0 0,.bool false,.string (bs (rlpN l.x.num)),.slice none 0 0] 79)):=hS0.alloc hS0.size _
  refine S_go 26 (fun _=>trivial) U U rfl U (.slice (some ⟨x35n11,0,none⟩) 3 3) (wch10.alloc (.cells #[.bool false,.string (bs l.x.acc),.slice none 0 0,.bool false,.string (bs l.x.rcp),.slice none 0 0,.bool false,.string (bs (rlpN l.x.num)),.slice none 0 0] 79)) (by first|(go_simp;done)|(go_simp;rfl)|(go_simp;exact⟨hbx2,rfl⟩)) (fun _=>hS0) ?_
  clear hbx hbx2
  refine S_one 27 U rfl (fun K hK=>?_)
  go_simp
  gi_wp2_with(gi_at_call 26; refine(callsIn_wide.2 (n3.out _ _ _ _)).mono ?_;rintro e wch12 ⟨rfl,hN⟩)
  replace KA100:=hn_ KA100 hN
  replace KA24:=hn_ KA24 hN
  replace KA35:=hn_ KA35 hN
  replace HBt:=Below.on hN HBt
  replace hS0:=hS0.trans (hN.mono hS0.size)
  clear hN
  refine⟨(fun _=>hS0),?_⟩
  refine S_one 30 U rfl (fun K hK=>?_)
  go_simp
  gi_wp2_with(gi_at_call 29; refine(callsIn_wide.2 (n1.out _ (Below.on hS0 hB0.out))).mono ?_;rintro e wch13 ⟨V39,rfl,hT,hN⟩)
  replace KA100:=hn_ KA100 hN
  replace KA24:=hn_ KA24 hN
  replace KA35:=hn_ KA35 hN
  have RX39:=Z (show RepS (fun b=>wc.heap.size≤b) wch13 (textsI l.br.l) V39 from RepS.weak hT fun b hb _=>Nat.le_trans hS0.size hb)
  clear hT
  replace HBt:=Below.on hN HBt
  replace hS0:=hS0.trans (hN.mono hS0.size)
  clear hN
  refine⟨(fun _=>hS0),?_⟩
  obtain⟨x40n14,hbx⟩:∃ x,wch13.heap.size=x:=⟨_,rfl⟩
  have hbx2:=hbx
  (try simp[go_sem]at hbx2)
  have hA100_40:(g+1)<x40n14:=by rw[←hbx];exact KA100.out.lt
  have hA24_40:x24n6<x40n14:=by rw[←hbx];exact KA24.out.lt
  have hA35_40:x35n11<x40n14:=by rw[←hbx];exact KA35.out.lt
  have hb40:wc.heap.size≤x40n14:=by rw[←hbx];exact hS0.size
  replace KA100:=Z (KA100.out.alloc (.cells #[.bool true,.string (bs []),.slice (some ⟨x24n6,0,none⟩) 5 5,.bool true,.string (bs []),.slice (some ⟨x35n11,0,none⟩) 3 3,.bool V39.f,.string (bs V39.t),.slice V39.A V39.n V39.c] 79))
  replace KA24:=Z (KA24.out.alloc (.cells #[.bool true,.string (bs []),.slice (some ⟨x24n6,0,none⟩) 5 5,.bool true,.string (bs []),.slice (some ⟨x35n11,0,none⟩) 3 3,.bool V39.f,.string (bs V39.t),.slice V39.A V39.n V39.c] 79))
  replace KA35:=Z (KA35.out.alloc (.cells #[.bool true,.string (bs []),.slice (some ⟨x24n6,0,none⟩) 5 5,.bool true,.string (bs []),.slice (some ⟨x35n11,0,none⟩) 3 3,.bool V39.f,.string (bs V39.t),.slice V39.A V39.n V39.c] 79))
  replace RX39:=Z (RepS.on RX39.out ((Below.refl _ _).alloc (Nat.le_refl _) (.cells #[.bool true,.string (bs []),.slice (some ⟨x24n6,0,none⟩) 5 5,.bool true,.string (bs []),.slice (some ⟨x35n11,0,none⟩) 3 3,.bool V39.f,.string (bs V39.t),.slice V39.A V39.n V39.c] 79)))
  have KA40:=Blk.new0 wch13 79 #[.bool true,.string (bs []),.slice (some ⟨x24n6,0,none⟩) 5 5,.bool true,.string (bs []),.slice (some ⟨x35n11,0,none⟩) 3 3,.bool V39.f,.string (bs V39.t),.slice V39.A V39.n V39.c]
  rw[hbx]at KA40
  replace KA40:=Z KA40
  replace HBt:=HBt.alloc HBt.size (.cells #[.bool true,.string (bs []),.slice (some ⟨x24n6,0,none⟩) 5 5,.bool true,.string (bs []),.slice (some ⟨x35n11,0,none⟩) 3 3,.bool V39.f,.string (bs V39.t),.slice V39.A V39.n V39.c] 79)
  replace hS0:Below _ _ (wch13.alloc (.cells #[.bool true,.string (bs []),.slice (some ⟨x24n6,0,none⟩) 5 5,.bool true,.string (bs []),.slice (some ⟨x35n11,0,none⟩) 3 3,.bool V39.f,.string (bs V39.t),.slice V39.A V39.n V39.c] 79)):=hS0.alloc hS0.size _
  refine S_go 31 (fun _=>trivial) U U rfl U (.slice (some ⟨x40n14,0,none⟩) 3 3) (wch13.alloc (.cells #[.bool true,.string (bs []),.slice (some ⟨x24n6,0,none⟩) 5 5,.bool true,.string (bs []),.slice (some ⟨x35n11,0,none⟩) 3 3,.bool V39.f,.string (bs V39.t),.slice V39.A V39.n V39.c] 79)) (by first|(go_simp;done)|(go_simp;rfl)|(go_simp;exact⟨hbx2,rfl⟩)) (fun _=>hS0) ?_
  clear hbx hbx2
  refine S_one 32 U rfl (fun K hK=>?_)
  go_simp
  gi_wp2_with(gi_at_call 26; refine(callsIn_wide.2 (n3.out _ _ _ _)).mono ?_;rintro e wch15 ⟨rfl,hN⟩)
  replace KA100:=hn_ KA100 hN
  replace KA24:=hn_ KA24 hN
  replace KA35:=hn_ KA35 hN
  replace KA40:=hn_ KA40 hN
  replace RX39:=Z (RepS.on RX39.out hN)
  replace HBt:=Below.on hN HBt
  replace hS0:=hS0.trans (hN.mono hS0.size)
  clear hN
  refine⟨(fun _=>hS0),?_⟩
  refine S_store 33 (fun _=>trivial) U U rfl U (setRow wch15 ((g+1)) 79 (#[.bool true,.string (bs []),.slice (some ⟨x40n14,0,none⟩) 3 3])) (exec_store _ _ rfl U U (stIt KA100.out true [] (some ⟨x40n14,0,none⟩) 3 3)) (fun h=>absurd h (by decide)) ?_
  replace KA24:=Z (Blk.rowOver (g':=(g+1)) (t' := 79) (cs' := #[.bool true,.string (bs []),.slice (some ⟨x40n14,0,none⟩) 3 3]) (by first|assumption|omega) KA24.out)
  replace KA35:=Z (Blk.rowOver (g':=(g+1)) (t' := 79) (cs' := #[.bool true,.string (bs []),.slice (some ⟨x40n14,0,none⟩) 3 3]) (by first|assumption|omega) KA35.out)
  replace KA40:=Z (Blk.rowOver (g':=(g+1)) (t' := 79) (cs' := #[.bool true,.string (bs []),.slice (some ⟨x40n14,0,none⟩) 3 3]) (by first|assumption|omega) KA40.out)
  replace KA100:=Z (Blk.row (t := 79) (cs := #[.bool true,.string (bs []),.slice (some ⟨x40n14,0,none⟩) 3 3]) KA100.out.lt)
  replace RX39:=Z (RepS.rowAt RX39.out (g:=(g+1)) (by omega) (t := 79) (cs := #[.bool true,.string (bs []),.slice (some ⟨x40n14,0,none⟩) 3 3]))
  replace HBt:=Below.row HBt (g:=(g+1)) (t := 79) (cs := #[.bool true,.string (bs []),.slice (some ⟨x40n14,0,none⟩) 3 3]) (by omega) HBt.size
  refine⟨by kernel_rfl,rfl,?_⟩
  obtain⟨WN,hWN⟩:∃ WN,(setRow wch15 ((g+1)) 79 (#[.bool true,.string (bs []),.slice (some ⟨x40n14,0,none⟩) 3 3]))=WN:=⟨_,rfl⟩
  rw[hWN]at KA100 KA24 KA35 KA40 RX39 HBt ⊢
  clear hWN hwf hS0 HB
  have HB:=HBt
  clear HBt
  clear K1 k1 f1 l1 m1
  have K1:=KA100
  clear KA100
  (obtain⟨k1,f1,l1,m1⟩:=rl_ K1)
  go_wp2_with fail
  refine bodyPost_ret (v:=itV true [] (some ⟨x40n14,0,none⟩) 3 3) (by simp (maxDischargeDepth:=9) [results,Tryz.results27, go_sem, *]) rfl ⟨⟨true,[],some ⟨x40n14,0,none⟩,3,3⟩,rfl,?_,HB⟩
  unfold ltI
  exact row_rep (l:=[hdI l.b,exI l.x,textsI l.br.l]) (vs:=[⟨true,[],some ⟨x24n6,0,none⟩,5,5⟩,⟨true,[],some ⟨x35n11,0,none⟩,3,3⟩,V39]) KA40.out rfl (by have:=HB0.out;have:=HG.out;omega)
   ⟨row_rep (l:=[numI l.b.slot,numI l.b.prop,.text l.b.parent,.text l.b.state,.text l.b.body]) (vs:=[tvI (rlpN l.b.slot),tvI (rlpN l.b.prop),tvI l.b.parent,tvI l.b.state,tvI l.b.body]) KA24.out rfl (by have:=HB0.out;have:=HG.out;omega) ⟨.text _,.text _,.text _,.text _,.text _,trivial⟩ rfl (by decide),
   row_rep (l:=[.text l.x.acc,.text l.x.rcp,numI l.x.num]) (vs:=[tvI l.x.acc,tvI l.x.rcp,tvI (rlpN l.x.num)]) KA35.out rfl (by have:=HB0.out;have:=HG.out;omega) ⟨.text _,.text _,.text _,trivial⟩ rfl (by decide),
   RX39.out.weak fun b hb _=>by have:=HB0.out;have:=HG.out;omega,trivial⟩ rfl (by decide)
theorem bootBytes_calls(b:Bt) (hs:BtSm b) (w:World) (hb:BtIn w b):Calls Tryz.prog 15 #[btV b] w (Ret w (.tuple #[.string (bs (putI (btI b))),.int .i64 0])):=by
 have n1:=Z (fun W (hB:Below w.heap.size w W)=>hlight_calls b.lt hb.1.1.1 hb.1.1.2.1 hb.1.2.1.2.2 (Nat.le_trans hs.1.2.2.1 (by decide)) W (hb.1.2.2.1.below hB))
 have n2:=Z (fun W (hB:Below w.heap.size w W)=>hcomm_calls b.now (Nat.le_trans hs.2.1.1.1 (by decide)) W (hb.2.1.1.1.below hB))
 have n3:=Z (fun W (hB:Below w.heap.size w W)=>htexts_calls b.br.addr b.br.cap b.br.l (Nat.le_trans hs.2.2.1 (by decide)) W (hb.2.2.1.below hB))
 have n4:=Z (fun A n c W=>list_calls A n c W)
 have n5:=Z (fun v W R=>encode_calls (btI b) (Nat.le_trans (deep_bt b) (by decide)) (Nat.le_trans (bt_sm hs) (by decide)) v W R)
 have K0:=Z (Blk.new0 w 59 (btA b))
 have HB:Below w.heap.size w (w.alloc (.cells (btA b) 59)):=bel
 clear hs hb
 go_enter Tryz.func15, Tryz.ntmps15
 go_wp2_with fail
 obtain⟨W,hW⟩:∃ W,w.alloc (.cells (btA b) 59)=W:=⟨_,rfl⟩
 rw[hW]at K0 HB ⊢
 clear hW
 obtain⟨g,hg⟩:∃ g,w.heap.size=g:=⟨_,rfl⟩
 have HG:=Z hg
 rw[hg]at K0 ⊢
 clear hg
 have hB0:=Z HB
 (obtain⟨k0,f0,l0,m0⟩:=rl_ K0)
 have hwf:∀ f,Fence.wide.fn f:=fun _=>trivial
 refine(wpIn_wide (n:=9)).1 ?_
 refine wpIn_round_held (fun w'=>Below W.heap.size W w') (fun j=>true) U ?_
 have hS0:(fun w'=>Below W.heap.size W w') W.drew:=(Below.refl _ _).drew
 refine S_tg 0 (.pointer (some ⟨g,0,none⟩)) rfl hS0 ?_
 refine S_tk 1 (ltV (b.lt)) rfl hS0 (fun w' hw=>exec_load rfl U (ldBt_lt (b) (K0.out.below hw))) ?_
 refine S_tg 3 (.pointer (some ⟨g,9,none⟩)) rfl hS0 ?_
 refine S_tk 4 (cmV (b.now)) rfl hS0 (fun w' hw=>exec_load rfl U (ldBt_now (b) (K0.out.below hw))) ?_
 refine S_tg 6 (.pointer (some ⟨g,11,none⟩)) rfl hS0 ?_
 refine S_tk 7 (.slice b.br.addr b.br.l.length b.br.cap) rfl hS0 (fun w' hw=>exec_load rfl U (run_load_cell (i:=11) (K0.out.below hw) rfl szRw nrRw)) ?_
 refine S_one 2 U rfl (fun K hK=>?_)
 go_simp
 gi_wp2_with(gi_at_call 27; refine(callsIn_wide.2 (n1.out _ (Below.on hS0 hB0.out))).mono ?_;rintro e Wh1 ⟨V6,rfl,hT,hN⟩)
 have RX6:=Z (show RepS (fun b=>W.heap.size≤b) Wh1 (ltI b.lt) V6 from RepS.weak hT fun b hb _=>Nat.le_trans hS0.size hb)
 clear hT
 replace hS0:=hS0.trans (hN.mono hS0.size)
 clear hN
 refine⟨(fun _=>hS0),?_⟩
 refine S_one 5 U rfl (fun K hK=>?_)
 go_simp
 gi_wp2_with(gi_at_call 28; refine(callsIn_wide.2 (n2.out _ (Below.on hS0 hB0.out))).mono ?_;rintro e Wh2 ⟨V9,rfl,hT,hN⟩)
 replace RX6:=Z (RepS.on RX6.out hN)
 have RX9:=Z (show RepS (fun b=>W.heap.size≤b) Wh2 (cmI b.now) V9 from RepS.weak hT fun b hb _=>Nat.le_trans hS0.size hb)
 clear hT
 replace hS0:=hS0.trans (hN.mono hS0.size)
 clear hN
 refine⟨(fun _=>hS0),?_⟩
 refine S_one 8 U rfl (fun K hK=>?_)
 go_simp
 gi_wp2_with(gi_at_call 29; refine(callsIn_wide.2 (n3.out _ (Below.on hS0 hB0.out))).mono ?_;rintro e Wh3 ⟨V12,rfl,hT,hN⟩)
 replace RX6:=Z (RepS.on RX6.out hN)
 replace RX9:=Z (RepS.on RX9.out hN)
 have RX12:=Z (show RepS (fun b=>W.heap.size≤b) Wh3 (textsI b.br.l) V12 from RepS.weak hT fun b hb _=>Nat.le_trans hS0.size hb)
 clear hT
 replace hS0:=hS0.trans (hN.mono hS0.size)
 clear hN
 refine⟨(fun _=>hS0),?_⟩
 obtain⟨x13n4,hbx⟩:∃ x,Wh3.heap.size=x:=⟨_,rfl⟩
 have hbx2:=hbx
 (try simp[go_sem]at hbx2)
 have hb13:W.heap.size≤x13n4:=by rw[←hbx];exact hS0.size
 replace RX6:=Z (RepS.on RX6.out ((Below.refl _ _).alloc (Nat.le_refl _) (.cells #[.bool V6.f,.string (bs V6.t),.slice V6.A V6.n V6.c,.bool V9.f,.string (bs V9.t),.slice V9.A V9.n V9.c,.bool V12.f,.string (bs V12.t),.slice V12.A V12.n V12.c] 79)))
 replace RX9:=Z (RepS.on RX9.out ((Below.refl _ _).alloc (Nat.le_refl _) (.cells #[.bool V6.f,.string (bs V6.t),.slice V6.A V6.n V6.c,.bool V9.f,.string (bs V9.t),.slice V9.A V9.n V9.c,.bool V12.f,.string (bs V12.t),.slice V12.A V12.n V12.c] 79)))
 replace RX12:=Z (RepS.on RX12.out ((Below.refl _ _).alloc (Nat.le_refl _) (.cells #[.bool V6.f,.string (bs V6.t),.slice V6.A V6.n V6.c,.bool V9.f,.string (bs V9.t),.slice V9.A V9.n V9.c,.bool V12.f,.string (bs V12.t),.slice V12.A V12.n V12.c] 79)))
 have KA13:=Blk.new0 Wh3 79 #[.bool V6.f,.string (bs V6.t),.slice V6.A V6.n V6.c,.bool V9.f,.string (bs V9.t),.slice V9.A V9.n V9.c,.bool V12.f,.string (bs V12.t),.slice V12.A V12.n V12.c]
 rw[hbx]at KA13
 replace KA13:=Z KA13
 replace hS0:Below _ _ (Wh3.alloc (.cells #[.bool V6.f,.string (bs V6.t),.slice V6.A V6.n V6.c,.bool V9.f,.string (bs V9.t),.slice V9.A V9.n V9.c,.bool V12.f,.string (bs V12.t),.slice V12.A V12.n V12.c] 79)):=hS0.alloc hS0.size _
 refine S_go 9 (fun _=>trivial) U U rfl U (.slice (some ⟨x13n4,0,none⟩) 3 3) (Wh3.alloc (.cells #[.bool V6.f,.string (bs V6.t),.slice V6.A V6.n V6.c,.bool V9.f,.string (bs V9.t),.slice V9.A V9.n V9.c,.bool V12.f,.string (bs V12.t),.slice V12.A V12.n V12.c] 79)) (by first|(go_simp;done)|(go_simp;rfl)|(go_simp;exact⟨hbx2,rfl⟩)) (fun _=>hS0) ?_
 clear hbx hbx2
 refine S_one 10 U rfl (fun K hK=>?_)
 go_simp
 gi_wp2_with(gi_at_call 26; refine(callsIn_wide.2 (n4.out _ _ _ _)).mono ?_;rintro e Wh5 ⟨rfl,hN⟩)
 replace KA13:=hn_ KA13 hN
 replace RX6:=Z (RepS.on RX6.out hN)
 replace RX9:=Z (RepS.on RX9.out hN)
 replace RX12:=Z (RepS.on RX12.out hN)
 replace hS0:=hS0.trans (hN.mono hS0.size)
 clear hN
 refine⟨(fun _=>hS0),?_⟩
 refine S_one 11 U rfl (fun K hK=>?_)
 go_simp
 gi_wp2_with(gi_at_call 25; refine(callsIn_wide.2 (n5.out ⟨true,[],some ⟨x13n4,0,none⟩,3,3⟩ _ (RepS.rep (row_rep (l:=[ltI b.lt,cmI b.now,textsI b.br.l]) (vs:=[V6,V9,V12]) KA13.out rfl hb13 ⟨RX6.out,RX9.out,RX12.out,trivial⟩ rfl (by decide))))).mono ?_;rintro e Wh6 ⟨rfl,hN⟩)
 replace KA13:=hn_ KA13 hN
 replace RX6:=Z (RepS.on RX6.out hN)
 replace RX9:=Z (RepS.on RX9.out hN)
 replace RX12:=Z (RepS.on RX12.out hN)
 replace hS0:=hS0.trans (hN.mono hS0.size)
 clear hN
 refine⟨(fun _=>hS0),?_⟩
 refine S_tg 12 (.string (bs (putI (btI b)))) rfl hS0 ?_
 refine S_tg 13 (.int .i64 0) rfl hS0 ?_
 refine S_tg 14 (.string (bs (putI (btI b)))) rfl hS0 ?_
 refine S_tg 15 (.int .i64 0) rfl hS0 ?_
 refine⟨by kernel_rfl,rfl,?_⟩
 go_wp2_with fail
 exact bodyPost_ret (v:=.tuple #[.string (bs (putI (btI b))),.int .i64 0]) (by simp[results,Tryz.results15, go_sem]) rfl ⟨rfl,Below.on hS0 HB⟩
theorem bytes_calls(u:Up) (hs:UpSm u) (w:World) (hu:UpIn w u):Calls Tryz.prog 7 #[upV u] w (Ret w (.tuple #[.string (bs (putI (upI u))),.int .i64 0])):=by
 have n1:=Z (fun W (hB:Below w.heap.size w W)=>hlight_calls u.seen hu.1.1.1 hu.1.1.2.1 hu.1.2.1.2.2 (Nat.le_trans hs.1.2.2.1 (by decide)) W (hu.1.2.2.1.below hB))
 have n2:=Z (fun W (hB:Below w.heap.size w W)=>hcomm_calls u.next (Nat.le_trans hs.2.1.1.1 (by decide)) W (hu.2.1.1.1.below hB))
 have n3:=Z (fun W (hB:Below w.heap.size w W)=>htexts_calls u.nb.addr u.nb.cap u.nb.l (Nat.le_trans hs.2.2.1.1 (by decide)) W (hu.2.2.1.1.below hB))
 have n6:=Z (fun W (hB:Below w.heap.size w W)=>hlight_calls u.fin hu.2.2.2.1.1.1 hu.2.2.2.1.1.2.1 hu.2.2.2.1.2.1.2.2 (Nat.le_trans hs.2.2.2.1.2.2.1 (by decide)) W (hu.2.2.2.1.2.2.1.below hB))
 have n7:=Z (fun W (hB:Below w.heap.size w W)=>htexts_calls u.fb.addr u.fb.cap u.fb.l (Nat.le_trans hs.2.2.2.2.1.1 (by decide)) W (hu.2.2.2.2.1.1.below hB))
 have n8:=Z (fun W=>hnumber_calls u.bits hu.2.2.2.2.2.1 W)
 have n9:=Z (fun W=>text_calls u.sig W)
 have na:=Z (fun W=>hnumber_calls u.slot hu.2.2.2.2.2.2.2 W)
 have n4:=Z (fun A n c W=>list_calls A n c W)
 have n5:=Z (fun v W R=>encode_calls (upI u) (Nat.le_trans (deep_up u) (by decide)) (Nat.le_trans (up_sm hs) (by decide)) v W R)
 have K0:=Z (Blk.new0 w 37 (upA u))
 have HB:Below w.heap.size w (w.alloc (.cells (upA u) 37)):=bel
 clear hs hu
 go_enter Tryz.func7, Tryz.ntmps7
 go_wp2_with fail
 obtain⟨W,hW⟩:∃ W,w.alloc (.cells (upA u) 37)=W:=⟨_,rfl⟩
 rw[hW]at K0 HB ⊢
 clear hW
 obtain⟨g,hg⟩:∃ g,w.heap.size=g:=⟨_,rfl⟩
 have HG:=Z hg
 rw[hg]at K0 ⊢
 clear hg
 have hB0:=Z HB
 (obtain⟨k0,f0,l0,m0⟩:=rl_ K0)
 have hwf:∀ f,Fence.wide.fn f:=fun _=>trivial
 refine(wpIn_wide (n:=9)).1 ?_
 refine wpIn_round_held (fun w'=>Below W.heap.size W w') (fun j=>true) U ?_
 have hS0:(fun w'=>Below W.heap.size W w') W.drew:=(Below.refl _ _).drew
 refine S_tg 0 (.pointer (some ⟨g,0,none⟩)) rfl hS0 ?_
 refine S_tk 1 (ltV (u.seen)) rfl hS0 (fun w' hw=>exec_load rfl U (ldUp_seen (u) (K0.out.below hw))) ?_
 refine S_tg 3 (.pointer (some ⟨g,9,none⟩)) rfl hS0 ?_
 refine S_tk 4 (cmV (u.next)) rfl hS0 (fun w' hw=>exec_load rfl U (ldUp_next (u) (K0.out.below hw))) ?_
 refine S_tg 6 (.pointer (some ⟨g,11,none⟩)) rfl hS0 ?_
 refine S_tk 7 (.slice u.nb.addr u.nb.l.length u.nb.cap) rfl hS0 (fun w' hw=>exec_load rfl U (run_load_cell (i:=11) (K0.out.below hw) rfl szRw nrRw)) ?_
 refine S_tg 9 (.pointer (some ⟨g,12,none⟩)) rfl hS0 ?_
 refine S_tk 10 (ltV (u.fin)) rfl hS0 (fun w' hw=>exec_load rfl U (ldUp_fin (u) (K0.out.below hw))) ?_
 refine S_tg 12 (.pointer (some ⟨g,21,none⟩)) rfl hS0 ?_
 refine S_tk 13 (.slice u.fb.addr u.fb.l.length u.fb.cap) rfl hS0 (fun w' hw=>exec_load rfl U (run_load_cell (i:=21) (K0.out.below hw) rfl szRw nrRw)) ?_
 refine S_tg 15 (.pointer (some ⟨g,22,none⟩)) rfl hS0 ?_
 refine S_tk 16 (.int .u64 (u.bits:Int)) rfl hS0 (fun w' hw=>exec_load rfl U (run_load_cell (i:=22) (K0.out.below hw) rfl szU64 nrU64)) ?_
 refine S_tg 18 (.pointer (some ⟨g,23,none⟩)) rfl hS0 ?_
 refine S_tk 19 (.string (bs u.sig)) rfl hS0 (fun w' hw=>exec_load rfl U (run_load_cell (i:=23) (K0.out.below hw) rfl szStr nrStr)) ?_
 refine S_tg 21 (.pointer (some ⟨g,24,none⟩)) rfl hS0 ?_
 refine S_tk 22 (.int .u64 (u.slot:Int)) rfl hS0 (fun w' hw=>exec_load rfl U (run_load_cell (i:=24) (K0.out.below hw) rfl szU64 nrU64)) ?_
 refine S_one 2 U rfl (fun K hK=>?_)
 go_simp
 gi_wp2_with(gi_at_call 27; refine(callsIn_wide.2 (n1.out _ (Below.on hS0 hB0.out))).mono ?_;rintro e Wh1 ⟨V6,rfl,hT,hN⟩)
 have RX6:=Z (show RepS (fun b=>W.heap.size≤b) Wh1 (ltI u.seen) V6 from RepS.weak hT fun b hb _=>Nat.le_trans hS0.size hb)
 clear hT
 replace hS0:=hS0.trans (hN.mono hS0.size)
 clear hN
 refine⟨(fun _=>hS0),?_⟩
 refine S_one 5 U rfl (fun K hK=>?_)
 go_simp
 gi_wp2_with(gi_at_call 28; refine(callsIn_wide.2 (n2.out _ (Below.on hS0 hB0.out))).mono ?_;rintro e Wh2 ⟨V9,rfl,hT,hN⟩)
 replace RX6:=Z (RepS.on RX6.out hN)
 have RX9:=Z (show RepS (fun b=>W.heap.size≤b) Wh2 (cmI u.next) V9 from RepS.weak hT fun b hb _=>Nat.le_trans hS0.size hb)
 clear hT
 replace hS0:=hS0.trans (hN.mono hS0.size)
 clear hN
 refine⟨(fun _=>hS0),?_⟩
 refine S_one 8 U rfl (fun K hK=>?_)
 go_simp
 gi_wp2_with(gi_at_call 29; refine(callsIn_wide.2 (n3.out _ (Below.on hS0 hB0.out))).mono ?_;rintro e Wh3 ⟨V12,rfl,hT,hN⟩)
 replace RX6:=Z (RepS.on RX6.out hN)
 replace RX9:=Z (RepS.on RX9.out hN)
 have RX12:=Z (show RepS (fun b=>W.heap.size≤b) Wh3 (textsI u.nb.l) V12 from RepS.weak hT fun b hb _=>Nat.le_trans hS0.size hb)
 clear hT
 replace hS0:=hS0.trans (hN.mono hS0.size)
 clear hN
 refine⟨(fun _=>hS0),?_⟩
 refine S_one 11 U rfl (fun K hK=>?_)
 go_simp
 gi_wp2_with(gi_at_call 27; refine(callsIn_wide.2 (n6.out _ (Below.on hS0 hB0.out))).mono ?_;rintro e Wh4 ⟨V15,rfl,hT,hN⟩)
 replace RX6:=Z (RepS.on RX6.out hN)
 replace RX9:=Z (RepS.on RX9.out hN)
 replace RX12:=Z (RepS.on RX12.out hN)
 have RX15:=Z (show RepS (fun b=>W.heap.size≤b) Wh4 (ltI u.fin) V15 from RepS.weak hT fun b hb _=>Nat.le_trans hS0.size hb)
 clear hT
 replace hS0:=hS0.trans (hN.mono hS0.size)
 clear hN
 refine⟨(fun _=>hS0),?_⟩
 refine S_one 14 U rfl (fun K hK=>?_)
 go_simp
 gi_wp2_with(gi_at_call 29; refine(callsIn_wide.2 (n7.out _ (Below.on hS0 hB0.out))).mono ?_;rintro e Wh5 ⟨V18,rfl,hT,hN⟩)
 replace RX6:=Z (RepS.on RX6.out hN)
 replace RX9:=Z (RepS.on RX9.out hN)
 replace RX12:=Z (RepS.on RX12.out hN)
 replace RX15:=Z (RepS.on RX15.out hN)
 have RX18:=Z (show RepS (fun b=>W.heap.size≤b) Wh5 (textsI u.fb.l) V18 from RepS.weak hT fun b hb _=>Nat.le_trans hS0.size hb)
 clear hT
 replace hS0:=hS0.trans (hN.mono hS0.size)
 clear hN
 refine⟨(fun _=>hS0),?_⟩
 refine S_one 17 U rfl (fun K hK=>?_)
 go_simp
 gi_wp2_with(gi_at_call 30; refine(callsIn_wide.2 (n8.out _)).mono ?_;rintro e Wh6 ⟨rfl,hN⟩)
 replace RX6:=Z (RepS.on RX6.out hN)
 replace RX9:=Z (RepS.on RX9.out hN)
 replace RX12:=Z (RepS.on RX12.out hN)
 replace RX15:=Z (RepS.on RX15.out hN)
 replace RX18:=Z (RepS.on RX18.out hN)
 replace hS0:=hS0.trans (hN.mono hS0.size)
 clear hN
 refine⟨(fun _=>hS0),?_⟩
 refine S_one 20 U rfl (fun K hK=>?_)
 go_simp
 gi_wp2_with(gi_at_call 31; refine(callsIn_wide.2 (n9.out _)).mono ?_;rintro e Wh7 ⟨rfl,hN⟩)
 replace RX6:=Z (RepS.on RX6.out hN)
 replace RX9:=Z (RepS.on RX9.out hN)
 replace RX12:=Z (RepS.on RX12.out hN)
 replace RX15:=Z (RepS.on RX15.out hN)
 replace RX18:=Z (RepS.on RX18.out hN)
 replace hS0:=hS0.trans (hN.mono hS0.size)
 clear hN
 refine⟨(fun _=>hS0),?_⟩
 refine S_one 23 U rfl (fun K hK=>?_)
 go_simp
 gi_wp2_with(gi_at_call 30; refine(callsIn_wide.2 (na.out _)).mono ?_;rintro e Wh8 ⟨rfl,hN⟩)
 replace RX6:=Z (RepS.on RX6.out hN)
 replace RX9:=Z (RepS.on RX9.out hN)
 replace RX12:=Z (RepS.on RX12.out hN)
 replace RX15:=Z (RepS.on RX15.out hN)
 replace RX18:=Z (RepS.on RX18.out hN)
 replace hS0:=hS0.trans (hN.mono hS0.size)
 clear hN
 refine⟨(fun _=>hS0),?_⟩
 obtain⟨x28n9,hbx⟩:∃ x,Wh8.heap.size=x:=⟨_,rfl⟩
 have hbx2:=hbx
 (try simp[go_sem]at hbx2)
 have hb28:W.heap.size≤x28n9:=by rw[←hbx];exact hS0.size
 replace RX6:=Z (RepS.on RX6.out ((Below.refl _ _).alloc (Nat.le_refl _) (.cells #[.bool V6.f,.string (bs V6.t),.slice V6.A V6.n V6.c,.bool V9.f,.string (bs V9.t),.slice V9.A V9.n V9.c,.bool V12.f,.string (bs V12.t),.slice V12.A V12.n V12.c,.bool V15.f,.string (bs V15.t),.slice V15.A V15.n V15.c,.bool V18.f,.string (bs V18.t),.slice V18.A V18.n V18.c,.bool false,.string (bs (rlpN u.bits)),.slice none 0 0,.bool false,.string (bs u.sig),.slice none 0 0,.bool false,.string (bs (rlpN u.slot)),.slice none 0 0] 79)))
 replace RX9:=Z (RepS.on RX9.out ((Below.refl _ _).alloc (Nat.le_refl _) (.cells #[.bool V6.f,.string (bs V6.t),.slice V6.A V6.n V6.c,.bool V9.f,.string (bs V9.t),.slice V9.A V9.n V9.c,.bool V12.f,.string (bs V12.t),.slice V12.A V12.n V12.c,.bool V15.f,.string (bs V15.t),.slice V15.A V15.n V15.c,.bool V18.f,.string (bs V18.t),.slice V18.A V18.n V18.c,.bool false,.string (bs (rlpN u.bits)),.slice none 0 0,.bool false,.string (bs u.sig),.slice none 0 0,.bool false,.string (bs (rlpN u.slot)),.slice none 0 0] 79)))
 replace RX12:=Z (RepS.on RX12.out ((Below.refl _ _).alloc (Nat.le_refl _) (.cells #[.bool V6.f,.string (bs V6.t),.slice V6.A V6.n V6.c,.bool V9.f,.string (bs V9.t),.slice V9.A V9.n V9.c,.bool V12.f,.string (bs V12.t),.slice V12.A V12.n V12.c,.bool V15.f,.string (bs V15.t),.slice V15.A V15.n V15.c,.bool V18.f,.string (bs V18.t),.slice V18.A V18.n V18.c,.bool false,.string (bs (rlpN u.bits)),.slice none 0 0,.bool false,.string (bs u.sig),.slice none 0 0,.bool false,.string (bs (rlpN u.slot)),.slice none 0 0] 79)))
 replace RX15:=Z (RepS.on RX15.out ((Below.refl _ _).alloc (Nat.le_refl _) (.cells #[.bool V6.f,.string (bs V6.t),.slice V6.A V6.n V6.c,.bool V9.f,.string (bs V9.t),.slice V9.A V9.n V9.c,.bool V12.f,.string (bs V12.t),.slice V12.A V12.n V12.c,.bool V15.f,.string (bs V15.t),.slice V15.A V15.n V15.c,.bool V18.f,.string (bs V18.t),.slice V18.A V18.n V18.c,.bool false,.string (bs (rlpN u.bits)),.slice none 0 0,.bool false,.string (bs u.sig),.slice none 0 0,.bool false,.string (bs (rlpN u.slot)),.slice none 0 0] 79)))
 replace RX18:=Z (RepS.on RX18.out ((Below.refl _ _).alloc (Nat.le_refl _) (.cells #[.bool V6.f,.string (bs V6.t),.slice V6.A V6.n V6.c,.bool V9.f,.string (bs V9.t),.slice V9.A V9.n V9.c,.bool V12.f,.string (bs V12.t),.slice V12.A V12.n V12.c,.bool V15.f,.string (bs V15.t),.slice V15.A V15.n V15.c,.bool V18.f,.string (bs V18.t),.slice V18.A V18.n V18.c,.bool false,.string (bs (rlpN u.bits)),.slice none 0 0,.bool false,.string (bs u.sig),.slice none 0 0,.bool false,.string (bs (rlpN u.slot)),.slice none 0 0] 79)))
 have KA28:=Blk.new0 Wh8 79 #[.bool V6.f,.string (bs V6.t),.slice V6.A V6.n V6.c,.bool V9.f,.string (bs V9.t),.slice V9.A V9.n V9.c,.bool V12.f,.string (bs V12.t),.slice V12.A V12.n V12.c,.bool V15.f,.string (bs V15.t),.slice V15.A V15.n V15.c,.bool V18.f,.string (bs V18.t),.slice V18.A V18.n V18.c,.bool false,.string (bs (rlpN u.bits)),.slice none 0 0,.bool false,.string (bs u.sig),.slice none 0 0,.bool false,.string (bs (rlpN u.slot)),.slice none 0 0]
 rw[hbx]at KA28
 replace KA28:=Z KA28
 replace hS0:Below _ _ (Wh8.alloc (.cells #[.bool V6.f,.string (bs V6.t),.slice V6.A V6.n V6.c,.bool V9.f,.string (bs V9.t),.slice V9.A V9.n V9.c,.bool V12.f,.string (bs V12.t),.slice V12.A V12.n V12.c,.bool V15.f,.string (bs V15.t),.slice V15.A V15.n V15.c,.bool V18.f,.string (bs V18.t),.slice V18.A V18.n V18.c,.bool false,.string (bs (rlpN u.bits)),.slice none 0 0,.bool false,.string (bs u.sig),.slice none 0 0,.bool false,.string (bs (rlpN u.slot)),.slice none 0 0] 79)):=hS0.alloc hS0.size _
 refine S_go 24 (fun _=>trivial) U U rfl U (.slice (some ⟨x28n9,0,none⟩) 8 8) (Wh8.alloc (.cells #[.bool V6.f,.string (bs V6.t),.slice V6.A V6.n V6.c,.bool V9.f,.string (bs V9.t),.slice V9.A V9.n V9.c,.bool V12.f,.string (bs V12.t),.slice V12.A V12.n V12.c,.bool V15.f,.string (bs V15.t),.slice V15.A V15.n V15.c,.bool V18.f,.string (bs V18.t),.slice V18.A V18.n V18.c,.bool false,.string (bs (rlpN u.bits)),.slice none 0 0,.bool false,.string (bs u.sig),.slice none 0 0,.bool false,.string (bs (rlpN u.slot)),.slice none 0 0] 79)) (by first|(go_simp;done)|(go_simp;rfl)|(go_simp;exact⟨hbx2,rfl⟩)) (fun _=>hS0) ?_
 clear hbx hbx2
 refine S_one 25 U rfl (fun K hK=>?_)
 go_simp
 gi_wp2_with(gi_at_call 26; refine(callsIn_wide.2 (n4.out _ _ _ _)).mono ?_;rintro e Wh10 ⟨rfl,hN⟩)
 replace KA28:=hn_ KA28 hN
 replace RX6:=Z (RepS.on RX6.out hN)
 replace RX9:=Z (RepS.on RX9.out hN)
 replace RX12:=Z (RepS.on RX12.out hN)
 replace RX15:=Z (RepS.on RX15.out hN)
 replace RX18:=Z (RepS.on RX18.out hN)
 replace hS0:=hS0.trans (hN.mono hS0.size)
 clear hN
 refine⟨(fun _=>hS0),?_⟩
 refine S_one 26 U rfl (fun K hK=>?_)
 go_simp
 gi_wp2_with(gi_at_call 25; refine(callsIn_wide.2 (n5.out ⟨true,[],some ⟨x28n9,0,none⟩,8,8⟩ _ (RepS.rep (row_rep (l:=[ltI u.seen,cmI u.next,textsI u.nb.l,ltI u.fin,textsI u.fb.l,numI u.bits,.text u.sig,numI u.slot]) (vs:=[V6,V9,V12,V15,V18,tvI (rlpN u.bits),tvI u.sig,tvI (rlpN u.slot)]) KA28.out rfl hb28 ⟨RX6.out,RX9.out,RX12.out,RX15.out,RX18.out,.text _,.text _,.text _,trivial⟩ rfl (by decide))))).mono ?_;rintro e Wh11 ⟨rfl,hN⟩)
 replace KA28:=hn_ KA28 hN
 replace RX6:=Z (RepS.on RX6.out hN)
 replace RX9:=Z (RepS.on RX9.out hN)
 replace RX12:=Z (RepS.on RX12.out hN)
 replace RX15:=Z (RepS.on RX15.out hN)
 replace RX18:=Z (RepS.on RX18.out hN)
 replace hS0:=hS0.trans (hN.mono hS0.size)
 clear hN
 refine⟨(fun _=>hS0),?_⟩
 refine S_tg 27 (.string (bs (putI (upI u)))) rfl hS0 ?_
 refine S_tg 28 (.int .i64 0) rfl hS0 ?_
 refine S_tg 29 (.string (bs (putI (upI u)))) rfl hS0 ?_
 refine S_tg 30 (.int .i64 0) rfl hS0 ?_
 refine⟨by kernel_rfl,rfl,?_⟩
 go_wp2_with fail
 exact bodyPost_ret (v:=.tuple #[.string (bs (putI (upI u))),.int .i64 0]) (by simp[results,Tryz.results7, go_sem]) rfl ⟨rfl,Below.on hS0 HB⟩
theorem wpList_append_execs{ops:Array Oper}{rest:List Oper}{o:Oper}{a:Act}{w:World}{Q:Exit→Act→World→Prop} (hgd:o.guard=none) (s x:Operand)
  (ho:o.op=.call { callee:=.builtin .append,args := #[s,x],argTypes := #[56, 56] }) (base:Nat) (v:Value) (L:List Ex) (hs:a.eval s=v) (R:ERow base w v L)
  (us:List Ex) (ad:Addr) (c:Nat) (hx:a.eval x=.slice (some ad) us.length c) (hc:∀ j y,(ExL us)[j]?=some y→w.cell? (ad.add j)=some y) (hl:L.length≤1000000000) (hu:us.length≤1000) (hb:base≤w.heap.size)
  (h:∀ v' w',ERow base w' v' (L ++ us)→w.grownBy w' v.ownBlock→wpList Tryz.prog ops Q rest (a.put o.dst v') w'):wpList Tryz.prog ops Q (o :: rest) a w:=by
 refine wpList_plain hgd fun K hK=>?_
 obtain⟨i0,hi,hz0,hz1,hz2⟩:=info_parts infoExec
 obtain⟨v',w',hr,h2,h3,_,h5⟩:=run_append_own_at (P:=Tryz.prog) w base 56 o.type 30 i0 (.agg #[.string ByteArray.empty,.string ByteArray.empty,.int .u64 0]) 3 40 Tryz.underlying56 hi hz0 hz1 hz2 rfl (by decide) v L.length (ExL L) R ad us.length c (ExL us) (by rw[ExL_len,Nat.mul_comm]) hc (by
  intro u hu
  obtain⟨x,_,hx⟩:=List.mem_flatMap.1 hu
  simp only[exC,List.mem_append,List.mem_singleton,List.singleton_append,List.mem_cons,List.not_mem_nil,or_false]at hx
  rcases hx with rfl|rfl|rfl <;> rfl) (by unfold maxLen;omega) (by omega) hb
 unfold Oper.wp execOp
 simp only[ho,resolve,invoke,builtin,Sem.run_bind,Sem.run_pure,Result.andThen_ok,List.map_toArray,List.map_cons,List.map_nil,hs,hx,hr]
 refine hK _ _ (h v' w' ?_ h3)
 unfold ERow
 rw[List.length_append,ExL_app]
 exact h2
theorem ERow.empty{base:Nat}{W:World}{g:Nat} (hb:base≤g) (h:Blk W g 30 #[]):ERow base W (.slice (some ⟨g,0,none⟩) 0 0) [] :=
 ⟨rfl,.inr ⟨g,0,#[],rfl,hb,h,Nat.le_refl _,Nat.zero_le _,rfl,rfl⟩⟩
theorem cwindow_calls(g0 g1 m:Nat) (gs:List Nat) (root:Bytes) (H:Hl) (xs:List Ex) (h1:xs.length=1) (w:World) (P0:Blk w g0 100 #[.string (bs root),.pointer (some ⟨g1,0,none⟩)]) (P1:Blk w g1 97 (hlA H)) (hw:WnOk m gs w H.w xs) :
  Calls Tryz.prog 12 #[.pointer (some ⟨g0,0,none⟩)] w (fun e w'=>∃ A c,e=.returned (.slice A 1 c)∧Below w.heap.size w w'):=by
 have n1:=Z (fun W k=>ready_calls g0 root (some ⟨g1,0,none⟩) W k)
 obtain⟨s,⟨A,n,c⟩⟩:=H
 obtain⟨hl,hc,hr⟩:=hw
 simp only at hl hc hr
 obtain⟨b,o,rfl,hbs,hbl,hcs⟩:=hr (by rw[ExL_len];omega)
 rw[h1]at hl hc
 subst hl
 have K0:=Z P0
 have K1:=Z P1
 have KE:=Z (Blk.new0 w 30 #[])
 have hcw:∀ j y,(ExL xs)[j]?=some y→(w.alloc (.cells #[] 30)).cell? ((⟨b,o,none⟩:Addr).add j)=some y:=fun j y hy=>by
  rw[Addr.add_mid]
  exact(((Below.refl _ w).alloc (Nat.le_refl _) (.cells #[] 30)).cell (p:=⟨b,o+j,none⟩) hbl).trans (hcs j y hy)
 replace hcw:=Z hcw
 have H1:=Z h1
 clear P0 P1 hr hcs h1
 (obtain⟨k0,f0,l0,m0⟩:=rl_ K0;obtain⟨k1,f1,l1,m1⟩:=rl_ K1)
 go_enter Tryz.func12, Tryz.ntmps12
 go_wp2_with fail
 refine(n1.out _ K0.out).mono ?_
 rintro e w' ⟨rfl,hww⟩
 obtain rfl:w=w':=hww.symm
 clear hww
 simp only[readyP,Option.isSome_some,if_true]
 go_wp2_with(at_builtin;refine wpList_append_execs rfl _ _ rfl w.heap.size (.slice (some ⟨w.heap.size,0,none⟩) 0 0) [] rfl (ERow.empty (Nat.le_refl _) KE.out) xs ⟨b,o,none⟩ c (by rw[H1.out];rfl) hcw.out (by simp) (by rw[H1.out];decide) (by simp) ?_)
 intro v4 w4 R4 hg4
 obtain⟨A4,c4,hv4,_⟩:=R4.shape
 have hv5:v4=.slice A4 1 c4:=hv4.trans (congrArg (fun n=>Value.slice A4 n c4) H1.out)
 clear hv4
 subst hv5
 have hB:Below w.heap.size w w4:=((Below.refl _ w).alloc (Nat.le_refl _) (.cells #[] 30)).grown hg4 (by simp) fun j e=>by
  have:w.heap.size=j:=by simpa[Value.ownBlock] using e
  omega
 replace hB:=Z hB
 clear hg4 R4
 go_wp2_with fail
 go_ret
 exact⟨_,_,rfl,hB.out⟩
theorem sixteen_calls'(w:World):Calls Tryz.prog 14 #[] w (fun e w'=>∃ A c,e=.returned (.slice A 16 c)∧NumsIn w' A l16∧Below w.heap.size w w'):=by
 go_enter Tryz.func14, Tryz.ntmps14
 go_wp2_with fail
 go_loopw [1,2] (fun u i wr=>∃ (v:Value) (k:Nat),v=u∧k≤16∧i=.int .u64 ((k:Int)+1)∧NRow w.heap.size wr v (l16.take k)∧Below w.heap.size w wr) (fun _ i _=>(18 - intOf i).toNat)
 case atStart=>exact⟨_,0,rfl,by omega,rfl,World.ownsRow_nil _ _ _ _,Below.refl _ _⟩
 case round =>
  obtain⟨v,k,rfl,hk6,rfl,OWN,HB⟩:=hrel
  have hll:=len16 k hk6
  by_cases hlt:k<16
  ·have h1:(k:Int)+1≤16:=by omega
   have h2:IntKind.u64.wrap ((k:Int)+1+1)=(k:Int)+1+1:=IntWalk.u64_in _ (by omega)
   have hst:=Z (take16 k hlt)
   obtain⟨q,hq⟩:∃ q,l16.take k=q:=⟨_,rfl⟩
   rw[hq]at OWN hll hst
   replace OWN:=Z OWN
   have hzz:=HB.size
   go_wp2_with(at_builtin;refine wpList_append_num rfl _ _ rfl w.heap.size v q rfl (OWN.out.on _) (k+1) ⟨wr.heap.size,0,none⟩ rfl (new_cell _ _ _) (by omega) (by simp;omega) ?_)
   intro v4 w5 OWN4 hg4
   have hlr:∀ j,v.ownBlock=some j→w.heap.size≤j:=fun j hj=>(OWN.out.lt j hj).1
   have hgW:wr.grownBy w5 v.ownBlock:=⟨hg4.os,hg4.tape,hg4.output,Nat.le_trans (by simp) hg4.size,fun j hj hr=>(hg4.block j (by simp;omega) hr).trans (Below.heap_alloc _ _ j hj)⟩
   have HBn:Below w.heap.size w w5:=HB.grown hgW HB.size fun j e=>hlr j e
   replace OWN4:=Z OWN4
   clear hg4 HB hgW hlr
   go_wp2_with fail
   go_roundw
   case rel=>exact⟨_,k+1,rfl,by omega,by congr 1,by rw[hst.out];exact OWN4.out,HBn⟩
   case measure=>simp[intOf];omega
  ·obtain rfl:k=16:=by omega
   obtain⟨A5,c5,rfl,T5⟩:=OWN.nums
   have hle:¬ ((16:Nat):Int)+1≤16:=by omega
   go_wp2_with fail
   go_ret
   exact⟨_,⟨_,rfl⟩,⟨T5,by decide,by decide⟩,HB⟩
theorem BtSm.zero:BtSm Bt.zero:=⟨LtSm.zero,CmSm.zero,RwSm.nil⟩
theorem beginE_zero(root:Bytes):beginE root Bt.zero≠0:=by
 have:cmOk Bt.zero.now=false:=by decide
 unfold beginE
 rw[this]
 simp
structure BtH2 (w:World) (b:Bt):Prop where
 h:BtIn w b
theorem BtH2.kp{gs:List Nat}{w W:World}{b:Bt} (h:BtH2 w b) (k:KpL gs w W) (hS:∀ x∈gs,w.heap.size≤x:=by first|(simp;done)|(simp;omega)|omega|(simp;assumption)):BtH2 W b:=⟨h.h.below (k.below (Nat.le_refl _) hS)⟩
structure BegI (m:Nat) (gs:List Nat) (W:World) (g0 g1:Nat) (root:Bytes) (H:Hl) (ys:List Ex):Prop where
 hg:g1∈gs
 hne:g0≠g1
 h0:g0<m
 hm:m≤W.heap.size
 hgl:∀ g∈gs,g<W.heap.size
 k0:Blk W g0 100 #[.string (bs root),.pointer (some ⟨g1,0,none⟩)]
 k1:Blk W g1 97 (hlA H)
 sr:SrW m gs W H.s
 wn:WnOk m gs W H.w ys
theorem BegI.kp{m g0 g1:Nat}{bs gs:List Nat}{W W':World}{root:Bytes}{H:Hl}{ys:List Ex} (h:BegI m gs W g0 g1 root H ys) (k:KpL bs W W') (hs:∀ b∈bs,b≠g0∧b≠g1∧(b<m∨b∈gs∨W.heap.size≤b):=by first|(simp;done)|(simp;omega)|omega|(simp;assumption)):BegI m gs W' g0 g1 root H ys:=by
 obtain⟨a,b,c,d,e,k0,k1,sr,wn⟩:=h
 exact⟨a,b,c,Nat.le_trans d k.size,fun g hg=>Nat.lt_of_lt_of_le (e g hg) k.size,k0.kp k fun hm=>(hs _ hm).1 rfl,k1.kp k fun hm=>(hs _ hm).2.1 rfl,sr.kp k fun x hx=>(hs x hx).2.2,wn.kp k fun x hx=>(hs x hx).2.2⟩
theorem BegI.fresh{m g0 g1 g:Nat}{gs:List Nat}{W W':World}{root:Bytes}{H:Hl}{ys:List Ex} (h:BegI m gs W g0 g1 root H ys) (k:Below W.heap.size W W') (hg:W.heap.size≤g) (hl:g<W'.heap.size):BegI m (g :: gs) W' g0 g1 root H ys:=by
 obtain⟨a,b,c,d,e,k0,k1,sr,wn⟩:=h
 exact⟨List.mem_cons_of_mem _ a,b,c,Nat.le_trans d k.size,fun x hx=>by
  rcases List.mem_cons.1 hx with rfl|hx
  ·exact hl
  ·exact Nat.lt_of_lt_of_le (e x hx) k.size,k0.below k,k1.below k,sr.fresh k hg,wn.fresh k hg⟩
theorem begun_calls(slot:Nat) (a r:Bytes) (hn:slot<18446744073709551616) (w:World) (hk:HasK w) :
  Calls Tryz.prog 5 #[.int .u64 (slot:Int),.string (bs a),.string (bs r)] w (fun e w'=>∃ (g0:Nat) (s:Sr),e=.returned (.tuple #[.pointer (some ⟨g0,0,none⟩),srV s,.bool (goodB l16 a r)])∧Below w.heap.size w w' ∧
   (goodB l16 a r=true→∃ m g1 root W ys,w.heap.size≤g0∧w.heap.size≤g1∧BegI m [g1] w' g0 g1 root ⟨s,W⟩ ys∧ys.length=1∧s.fin.b.slot=slot)):=by
 have HH:=Z (HkH.mk hk)
 have HK:=Z (KpL.refl [] w)
 have n2:=Z (fun A c W (k:HasK W) (hl:NumsIn W A l16)=>mboot_calls slot A c l16 a r hn W k hl)
 clear hk
 go_enter Tryz.func5, Tryz.ntmps5
 go_wp2_with fail
 (obtain⟨g2,hgj⟩:∃ g,(World.heap w).size=g:=⟨_,rfl⟩;obtain⟨w1,hWN⟩:∃ W',World.alloc w (.cells (srA Sr.zero) 39)=W':=⟨_,rfl⟩;have hN:KpL [] w w1:=(by rw[←hWN];exact(KpL.refl _ _).alloc _);replace K2:=Z (show Blk w1 g2 39 (srA Sr.zero) by rw[←hWN];exact Blk.newAt hgj);have hw_2:w.heap.size≤g2:=(by rw[←hgj];exact HK.out.size);rw[hWN];(try rw[hgj]);clear hWN hgj;replace HH:=Z (HH.out.kp hN);replace HK:=jK HK hN;clear hN;obtain⟨k2,f2,l2,m2⟩:=rl_ K2)
 refine(sixteen_calls' _).mono ?_
 rintro e w2 ⟨A,c,rfl,hN1,hB⟩
 have hN:=KpL.of (bs:=[]) hB
 have N1:=Z hN1
 clear hB hN1
 (clear k2 f2 l2 m2;replace K2:=bK K2 hN;replace HH:=Z (HH.out.kp hN);replace HK:=jK HK hN;clear hN;(obtain⟨k2,f2,l2,m2⟩:=rl_ K2))
 go_wp2_with fail
 refine(n2.out A c _ HH.out.h N1.out).mono ?_
 rintro e w3 ⟨bt,rfl,hbt,hB⟩
 have hN:=KpL.of (bs:=[]) hB
 have hgood:=Z hbt.2
 have BI:=Z hbt.1
 clear hB hbt N1 n2
 (clear k2 f2 l2 m2;replace K2:=bK K2 hN;replace HH:=Z (HH.out.kp hN);replace HK:=jK HK hN;clear hN;(obtain⟨k2,f2,l2,m2⟩:=rl_ K2))
 have hsm:BtSm bt:=by
  cases hg:goodB l16 a r with
  | true=>exact bt_small hg (by decide) ⟨BI.out,hgood.out.1,hgood.out.2⟩
  | false=>rw[hgood.out.2 hg];exact BtSm.zero
 replace hsm:=Z hsm
 have U2:=Z (BtH2.mk BI.out)
 obtain⟨rt,hrt⟩:∃ rt,bootR slot l16 a r=rt:=⟨_,rfl⟩
 rw[hrt]
 replace hrt:=Z hrt
 (go_wp2_with(first|(with_reducible refine wsh (stBt (Bt.zero) (Blk.new0 w3 59 (btA (Bt.zero))) (bt)) rfl rfl ?_));generalize hWN:setRow _ _ _ _=w4;obtain⟨g3,hgj⟩:∃ g,(World.heap w3).size=g:=⟨_,rfl⟩;have hN:KpL [] w3 w4:=(by rw[←hWN];exact((KpL.refl _ _).alloc _).row (.inr (Nat.le_refl _)) (by simp));replace K3:=Z (show Blk w4 g3 _ (btA (bt)) by rw[←hWN,←hgj];exact Blk.row (by simp));have h2_3:g2<g3:=(by rw[←hgj];exact K2.out.lt);have hw_3:w.heap.size≤g3:=(by rw[←hgj];exact HK.out.size);have hz_3:(World.heap w3).size≤g3:=(by rw[←hgj];exact Nat.le_refl _);(try rw[hgj]);clear hWN hgj k2 f2 l2 m2;replace K2:=bK K2 hN;replace HH:=Z (HH.out.kp hN);replace U2:=Z (U2.out.kp hN);replace HK:=jK HK hN;clear hN;obtain⟨k2,f2,l2,m2⟩:=rl_ K2;obtain⟨k3,f3,l3,m3⟩:=rl_ K3;unfold Halted)
 go_wp2_with(first|(with_reducible refine wlr (ldBt _ K3.out) rfl ?_)|(with_reducible refine wlg (ldBt _ K3.out) (by with_unfolding_all rfl) rfl ?_))
 refine(bootBytes_calls bt hsm.out _ U2.out.h).mono ?_
 rintro e w5 ⟨rfl,hB⟩
 have hN:=KpL.of (bs:=[]) hB
 clear hB
 (clear k2 f2 l2 m2;replace K2:=bK K2 hN;replace HH:=Z (HH.out.kp hN);replace HK:=jK HK hN;clear hN;(obtain⟨k2,f2,l2,m2⟩:=rl_ K2))
 go_wp2_with fail
 refine(cnew_calls _ _).mono ?_
 rintro e w' ⟨rfl,rfl⟩
 (obtain⟨g0,hgj⟩:∃ g,(World.heap w5).size=g:=⟨_,rfl⟩;obtain⟨w6,hWN⟩:∃ W',World.alloc w5 (.cells (#[.string (bs rt),.pointer none]) 100)=W':=⟨_,rfl⟩;have hN:KpL [] w5 w6:=(by rw[←hWN];exact(KpL.refl _ _).alloc _);replace K0:=Z (show Blk w6 g0 100 (#[.string (bs rt),.pointer none]) by rw[←hWN];exact Blk.newAt hgj);have h2_0:g2<g0:=(by rw[←hgj];exact K2.out.lt);have hw_0:w.heap.size≤g0:=(by rw[←hgj];exact HK.out.size);rw[hWN];(try rw[hgj]);clear hWN hgj k2 f2 l2 m2;replace K2:=bK K2 hN;replace HH:=Z (HH.out.kp hN);replace HK:=jK HK hN;clear hN;obtain⟨k2,f2,l2,m2⟩:=rl_ K2;obtain⟨k0,f0,l0,m0⟩:=rl_ K0)
 go_wp2_with fail
 have hz6:w.heap.size≤w6.heap.size:=HK.out.size
 have hl06:g0<w6.heap.size:=K0.out.lt
 have hl26:g2<w6.heap.size:=K2.out.lt
 refine(cboot_calls g0 rt bt hsm.out _ K0.out HH.out.h _ BI.out).mono ?_
 rintro e w7 ⟨rfl,hN,hz,hyes⟩
 have hz67:=hN.size
 clear U2 HH
 have hbt:=Z (And.intro hz hyes)
 clear hz hyes k0 f0 l0 m0 K0 hsm k3 f3 l3 m3 K3
 (clear k2 f2 l2 m2;replace K2:=bK K2 hN;replace HK:=jK HK hN;clear hN;(obtain⟨k2,f2,l2,m2⟩:=rl_ K2))
 cases hg:goodB l16 a r with
 | true =>
  obtain⟨b1,b2,b3,b4,b5,b6⟩:=hgood.out.1 hg
  have E0:beginE rt bt=0:=by rw[←hrt.out];exact begin_made hg b1 b2 b3 b4 b5 b6
  have bE:bootE l16 a r=0:=by unfold bootE;rw[hg];rfl
  obtain⟨g1,b',Wn,ys,hg1,q0,q1,qb,qs,qw,ql⟩:=hbt.out.2 E0
  rw[E0,bE]
  have hsl:(beginP b').fin.b.slot=slot:=by
   have h9:b'.lt.b=bt.lt.b:=by
    unfold Bt.bare Lt.bare at qb
    injection qb with e1
    injection e1
   show b'.lt.b.slot=slot
   rw[h9,b3]
   rfl
  have hw0:w.heap.size≤g0:=hw_0
  have hw1:w.heap.size≤g1:=Nat.le_trans hz6 hg1
  have hne:g0≠g1:=fun e=>by
   have:=q0.symm.trans (e ▸ q1)
   injection this with this
   injection this with _ this
   exact absurd this (by decide)
  have BI2:BegI w6.heap.size [g1] w7 g0 g1 rt ⟨beginP b',Wn⟩ ys:=⟨by simp,hne,hl06,hz67,by simpa using q1.lt,q0,q1,qs,qw⟩
  replace BI2:=Z BI2
  go_wp2_with fail
  refine(cstore_calls g0 rt g1 ⟨beginP b',Wn⟩ _ q0 q1).mono ?_
  rintro e w8 ⟨rfl,hB⟩
  have hN:=KpL.of (bs:=[]) hB
  clear hB q0 q1 qs qw hbt b1 b2 b3 b4 b5 b6 hgood BI
  (clear k2 f2 l2 m2;replace K2:=bK K2 hN;replace BI2:=Z (BI2.out.kp hN);replace HK:=jK HK hN;clear hN;(obtain⟨k2,f2,l2,m2⟩:=rl_ K2))
  (go_wp2_with(first|(with_reducible refine wsh (stSr (Sr.zero) (Blk.new0 w8 39 (srA (Sr.zero))) (beginP b')) rfl rfl ?_));generalize hWN:setRow _ _ _ _=w9;obtain⟨g5,hgj⟩:∃ g,(World.heap w8).size=g:=⟨_,rfl⟩;have hN:KpL [] w8 w9:=(by rw[←hWN];exact((KpL.refl _ _).alloc _).row (.inr (Nat.le_refl _)) (by simp));replace K5:=Z (show Blk w9 g5 _ (srA (beginP b')) by rw[←hWN,←hgj];exact Blk.row (by simp));have h2_5:g2<g5:=(by rw[←hgj];exact K2.out.lt);have hw_5:w.heap.size≤g5:=(by rw[←hgj];exact HK.out.size);have hz_5:(World.heap w8).size≤g5:=(by rw[←hgj];exact Nat.le_refl _);(try rw[hgj]);clear hWN hgj k2 f2 l2 m2;replace K2:=bK K2 hN;replace BI2:=Z (BI2.out.kp hN);replace HK:=jK HK hN;clear hN;obtain⟨k2,f2,l2,m2⟩:=rl_ K2;obtain⟨k5,f5,l5,m5⟩:=rl_ K5;unfold Halted)
  go_wp2_with fail
  have hwf:∀ f,Fence.wide.fn f:=fun _=>trivial
  refine(wpIn_wide (n:=9)).1 ?_
  refine wpIn_round_held (fun w'=>KpL [g2] w9 w') (fun j=>true) U ?_
  have hS0:(fun w'=>KpL [g2] w9 w') w9.drew:=(KpL.refl _ _).drew
  refine S_tg 0 (.pointer (some ⟨g0,0,none⟩)) rfl hS0 ?_
  refine S_tk 1 (srV (beginP b')) rfl hS0 (fun w' hw=>by exact exec_load rfl U (ldSr _ (K5.out.kp hw (by simp;omega)))) ?_
  simp only[Act.put,jA,jE,jF,jB,jC,jD]
  refine S_tg 2 (.int .i64 0) rfl hS0 ?_
  refine S_tg 3 (.bool true) rfl hS0 ?_
  simp only[Act.put,jA,jE,jF,jB,jC,jD]
  refine S_tg 4 (.bool true) rfl hS0 ?_
  refine S_tg 5 (.int .i64 0) rfl hS0 ?_
  simp only[Act.put,jA,jE,jF,jB,jC,jD]
  refine S_tg 6 (.bool true) rfl hS0 ?_
  refine S_tg 7 (.bool true) rfl hS0 ?_
  simp only[Act.put,jA,jE,jF,jB,jC,jD]
  refine S_tg 8 (.bool true) rfl hS0 ?_
  refine S_tg 9 (.int .i64 0) rfl hS0 ?_
  simp only[Act.put,jA,jE,jF,jB,jC,jD]
  refine S_tg 10 (.bool true) rfl hS0 ?_
  refine S_tg 11 (.bool true) rfl hS0 ?_
  simp only[Act.put,jA,jE,jF,jB,jC,jD]
  refine S_tg 12 (.bool true) rfl hS0 ?_
  refine S_tg 13 (.int .i64 0) rfl hS0 ?_
  simp only[Act.put,jA,jE,jF,jB,jC,jD]
  refine S_tg 14 (.bool true) rfl hS0 ?_
  refine S_tg 15 (.bool true) rfl hS0 ?_
  simp only[Act.put,jA,jE,jF,jB,jC,jD]
  refine S_tg 16 (.pointer (some ⟨g0,0,none⟩)) rfl hS0 ?_
  have hS1:(fun w'=>KpL [g2] w9 w') (setRow w9.drew g2 39 (srA (beginP b'))):=((KpL.refl [g2] w9).drew).row (.inl (by simp)) (Nat.le_of_lt K2.out.lt)
  clear hS0
  have hS0:=hS1
  clear hS1
  refine S_store 17 (fun _=>trivial) U U rfl U (setRow w9.drew g2 39 (srA (beginP b'))) (exec_store _ _ rfl U U (stSr Sr.zero K2.out.drew (beginP b'))) (fun _=>hS0) ?_
  refine S_tg 18 (.bool true) rfl hS0 ?_
  simp only[Act.put,jA,jE,jF,jB,jC,jD]
  refine⟨by kernel_rfl,rfl,?_⟩
  (try simp only[Act.put,jA,jE,jF,jB,jC,jD])
  clear hwf
  (obtain⟨wa,hWN⟩:∃ W',(setRow w9.drew g2 39 (srA (beginP b')))=W':=⟨_,rfl⟩;have hN:=(show KpL [g2] w9 _ from hS0);rw[hWN]at hN ⊢;replace K2:=Z ((Blk.row (w:=w9.drew) (g:=g2) (t := 39) (cs:=srA (beginP b')) K2.out.lt));rw[hWN]at K2;clear k2 f2 l2 m2 hWN;replace BI2:=Z (BI2.out.kp hN);replace HK:=jK HK hN;clear hN;obtain⟨k2,f2,l2,m2⟩:=rl_ K2)
  go_wp2_with fail
  refine bodyPost_ret (results_cell3 rfl rfl (ldSr _ K2.out)) rfl ?_
  exact⟨g0,beginP b',rfl,HK.out.below (Nat.le_refl _) (by simp),hw0,_,g1,hw1,rt,Wn,ys,BI2.out,ql,hsl⟩
 | false =>
  have hz0:bt=Bt.zero:=hgood.out.2 hg
  have E1:beginE rt bt≠0:=by rw[hz0];exact beginE_zero rt
  have q0:=hbt.out.1 E1
  have bE:bootE l16 a r=2:=by unfold bootE;rw[hg];rfl
  rw[bE]
  replace q0:=Z q0
  go_wp2_with fail
  refine(cstore_none g0 rt _ q0.out).mono ?_
  rintro e w8 ⟨rfl,hB⟩
  have hN:=KpL.of (bs:=[]) hB
  clear hB q0 hbt hgood BI
  (clear k2 f2 l2 m2;replace K2:=bK K2 hN;replace HK:=jK HK hN;clear hN;(obtain⟨k2,f2,l2,m2⟩:=rl_ K2))
  (go_wp2_with(first|(with_reducible refine wsh (stSr (Sr.zero) (Blk.new0 w8 39 (srA (Sr.zero))) (Sr.zero)) rfl rfl ?_));generalize hWN:setRow _ _ _ _=w9;obtain⟨g5,hgj⟩:∃ g,(World.heap w8).size=g:=⟨_,rfl⟩;have hN:KpL [] w8 w9:=(by rw[←hWN];exact((KpL.refl _ _).alloc _).row (.inr (Nat.le_refl _)) (by simp));replace K5:=Z (show Blk w9 g5 _ (srA (Sr.zero)) by rw[←hWN,←hgj];exact Blk.row (by simp));have h2_5:g2<g5:=(by rw[←hgj];exact K2.out.lt);have hw_5:w.heap.size≤g5:=(by rw[←hgj];exact HK.out.size);have hz_5:(World.heap w8).size≤g5:=(by rw[←hgj];exact Nat.le_refl _);(try rw[hgj]);clear hWN hgj k2 f2 l2 m2;replace K2:=bK K2 hN;replace HK:=jK HK hN;clear hN;obtain⟨k2,f2,l2,m2⟩:=rl_ K2;obtain⟨k5,f5,l5,m5⟩:=rl_ K5;unfold Halted)
  go_wp2_with fail
  have hwf:∀ f,Fence.wide.fn f:=fun _=>trivial
  refine(wpIn_wide (n:=9)).1 ?_
  refine wpIn_round_held (fun w'=>KpL [g2] w9 w') (fun j=>true) U ?_
  have hS0:(fun w'=>KpL [g2] w9 w') w9.drew:=(KpL.refl _ _).drew
  refine S_tg 0 (.pointer (some ⟨g0,0,none⟩)) rfl hS0 ?_
  refine S_tk 1 (srV (Sr.zero)) rfl hS0 (fun w' hw=>by exact exec_load rfl U (ldSr _ (K5.out.kp hw (by simp;omega)))) ?_
  simp only[Act.put,jA,jE,jF,jB,jC,jD]
  refine S_tg 2 (.int .i64 2) rfl hS0 ?_
  refine S_tg 3 (.bool false) rfl hS0 ?_
  simp only[Act.put,jA,jE,jF,jB,jC,jD]
  refine S_tg 4 (.bool false) rfl hS0 ?_
  refine S_sk 5 rfl hS0 ?_
  simp only[Act.put,jA,jE,jF,jB,jC,jD]
  refine S_sk 6 rfl hS0 ?_
  refine S_tg 7 (.bool false) rfl hS0 ?_
  simp only[Act.put,jA,jE,jF,jB,jC,jD]
  refine S_tg 8 (.bool false) rfl hS0 ?_
  refine S_sk 9 rfl hS0 ?_
  simp only[Act.put,jA,jE,jF,jB,jC,jD]
  refine S_sk 10 rfl hS0 ?_
  refine S_tg 11 (.bool false) rfl hS0 ?_
  simp only[Act.put,jA,jE,jF,jB,jC,jD]
  refine S_tg 12 (.bool false) rfl hS0 ?_
  refine S_sk 13 rfl hS0 ?_
  simp only[Act.put,jA,jE,jF,jB,jC,jD]
  refine S_sk 14 rfl hS0 ?_
  refine S_tg 15 (.bool false) rfl hS0 ?_
  simp only[Act.put,jA,jE,jF,jB,jC,jD]
  refine S_tg 16 (.pointer (some ⟨g0,0,none⟩)) rfl hS0 ?_
  have hS1:(fun w'=>KpL [g2] w9 w') (setRow w9.drew g2 39 (srA (Sr.zero))):=((KpL.refl [g2] w9).drew).row (.inl (by simp)) (Nat.le_of_lt K2.out.lt)
  clear hS0
  have hS0:=hS1
  clear hS1
  refine S_store 17 (fun _=>trivial) U U rfl U (setRow w9.drew g2 39 (srA (Sr.zero))) (exec_store _ _ rfl U U (stSr Sr.zero K2.out.drew (Sr.zero))) (fun _=>hS0) ?_
  refine S_tg 18 (.bool false) rfl hS0 ?_
  simp only[Act.put,jA,jE,jF,jB,jC,jD]
  refine⟨by kernel_rfl,rfl,?_⟩
  (try simp only[Act.put,jA,jE,jF,jB,jC,jD])
  clear hwf
  (obtain⟨wa,hWN⟩:∃ W',(setRow w9.drew g2 39 (srA (Sr.zero)))=W':=⟨_,rfl⟩;have hN:=(show KpL [g2] w9 _ from hS0);rw[hWN]at hN ⊢;replace K2:=Z ((Blk.row (w:=w9.drew) (g:=g2) (t := 39) (cs:=srA (Sr.zero)) K2.out.lt));rw[hWN]at K2;clear k2 f2 l2 m2 hWN;replace HK:=jK HK hN;clear hN;obtain⟨k2,f2,l2,m2⟩:=rl_ K2)
  go_wp2_with fail
  exact bodyPost_ret (results_cell3 rfl rfl (ldSr _ K2.out)) rfl ⟨⟨g0,Sr.zero,rfl⟩,HK.out.below (Nat.le_refl _) (by simp)⟩
theorem shownClient_calls(w:World) (hk:HasK w):Calls Tryz.prog 4 #[] w (Ret w (.bool true)):=by
 obtain⟨wz,vz,hmk,hcv,hBz⟩:=run_zeros15 32 (by omega) w
 simp only[show((32:Nat):Int)=32 from rfl]at hmk
 replace hcv:(convert 55 9 vz).run Tryz.prog wz=.ok (.string (bs zero32)) wz:=hcv
 have n1:=fun W (hB:Below w.heap.size w W)=>begun_calls 5 zero32 zero32 (by decide) W (hk.on hB)
 rw[goodB15]at n1
 simp only[show((5:Nat):Int)=5 from rfl]at n1
 have hgl0:=hBz.size
 replace n1:=Z n1
 obtain⟨z,hz⟩:∃ z,zero32=z:=⟨_,rfl⟩
 rw[hz]at hcv n1
 clear hk hz
 go_enter Tryz.func4, Tryz.ntmps4
 go_upto_region 2 with fail
 have HK:=Z (KpL.of (bs:=[]) hBz)
 have HB:=hBz
 clear hmk hcv hBz hgl0
 go_wp2_with fail
 refine(n1.out _ HB).mono ?_
 rintro e w1 ⟨g0,s,rfl,hB,hyes⟩
 obtain⟨m,g1,root,W,ys,hw0,hw1,hBI,hyl,hsl⟩:=hyes trivial
 have hN:=KpL.of (bs:=[]) hB
 have BI:=Z hBI
 clear hB hyes hBI n1 HB
 (replace HK:=jK HK hN;clear hN)
 (go_wp2_with(first|(with_reducible refine wsh (stSr (Sr.zero) (Blk.new0 w1 39 (srA (Sr.zero))) (s)) rfl rfl ?_));generalize hWN:setRow _ _ _ _=w2;obtain⟨g3,hgj⟩:∃ g,(World.heap w1).size=g:=⟨_,rfl⟩;have hN:KpL [] w1 w2:=(by rw[←hWN];exact((KpL.refl _ _).alloc _).row (.inr (Nat.le_refl _)) (by simp));replace K3:=Z (show Blk w2 g3 _ (srA (s)) by rw[←hWN,←hgj];exact Blk.row (by simp));have hw_3:w.heap.size≤g3:=(by rw[←hgj];exact HK.out.size);have hz_3:(World.heap w1).size≤g3:=(by rw[←hgj];exact Nat.le_refl _);(try rw[hgj]);clear hWN hgj;replace BI:=Z (BI.out.kp hN);replace HK:=jK HK hN;clear hN;obtain⟨k3,f3,l3,m3⟩:=rl_ K3;unfold Halted)
 have n4:=Z (cwindow_calls g0 g1 m [g1] root ⟨s,W⟩ ys hyl w2 BI.out.k0 BI.out.k1 BI.out.wn)
 have hsi:((s.fin.b.slot:Nat):Int)=5:=by rw[hsl];rfl
 have hrun:(Instr.loadAt 22 (.pointer (some ⟨g3,0,none⟩))).run Tryz.prog w2=.ok (.int .u64 5) w2:=by
  have h9:=run_load_cell (i:=0) (v:=.int .u64 ((s.fin.b.slot:Nat):Int)) K3.out rfl szU64 nrU64
  rw[hsi]at h9
  exact h9
 replace hrun:=Z hrun
 clear hsi hsl hyl hw0 hw1 k3 f3 l3 m3 K3 BI
 go_wp2_with(first|(with_reducible refine wpList_load_run_g (o:=⟨_,.load 22 _,_,_,_,some _⟩) hrun.out (by with_unfolding_all rfl) _ rfl rfl ?_;simp only[Act.put,jA,jE,jF,jB,jC,jD]))
 refine n4.out.mono ?_
 rintro e w3 ⟨A,c,rfl,hB⟩
 have HB:=Z (HK.out.on hB)
 clear hB n4
 go_wp2_with fail
 go_ret
 exact⟨rfl,HB.out.below (Nat.le_refl _) (by simp)⟩
end
section
open Go.ChangeShapes Go.WideShapes Go.ChangeAt Go.RowKit Go.Joins Go.Deep
set_option maxRecDepth 100000
def PlL(l:List Pl):List Value:=l.flatMap plC
theorem PlL_cons(p:Pl) (l:List Pl):PlL (p :: l)=plC p ++ PlL l:=rfl
theorem PlL_len:∀ (l:List Pl),(PlL l).length=8*l.length
 | []=>rfl
 | p :: l=>by rw[PlL_cons,List.length_append,PlL_len l,show(plC p).length=8 from rfl,List.length_cons];omega
theorem PlL_split:∀ (l:List Pl) (i:Nat) (u:Value),(PlL l)[i]?=some u→∃ x,l[i / 8]?=some x∧(plC x)[i % 8]?=some u
 | [],i,u,h=>by simp[PlL]at h
 | y :: l,i,u,h=>by
  rw[PlL_cons]at h
  by_cases hi:i<8
  ·rw[List.getElem?_append_left (show i<(plC y).length from hi)]at h
   exact⟨y,by rw[Nat.div_eq_of_lt hi];rfl,by rw[Nat.mod_eq_of_lt hi];exact h⟩
  ·rw[List.getElem?_append_right (show(plC y).length≤i from Nat.le_of_not_lt hi)]at h
   obtain⟨x,h1,h2⟩:=PlL_split l (i - 8) u h
   refine⟨x,?_,?_⟩
   ·rw[show i / 8=(i - 8) / 8+1 by omega]
    simpa using h1
   ·rw[show i % 8=(i - 8) % 8 by omega]
    exact h2
theorem PlL_at:∀ (l:List Pl) (i:Nat) (p:Pl) (j:Nat),l[i]?=some p→j<8→(PlL l)[i*8+j]?=(plC p)[j]?
 | [],i,p,j,h,_=>by simp at h
 | q :: l,0,p,j,h,hj=>by
  simp at h
  subst h
  rw[PlL_cons,List.getElem?_append_left (show 0*8+j<(plC q).length by show 0*8+j<8;omega),show 0*8+j=j by omega]
 | q :: l,i+1,p,j,h,hj=>by
  rw[PlL_cons,List.getElem?_append_right (show(plC q).length≤(i+1)*8+j by show 8≤_;omega),show(i+1)*8+j - (plC q).length=i*8+j by show(i+1)*8+j - 8=_;omega]
  exact PlL_at l i p j (by simpa using h) hj
section
variable {H:Type}{enc:TypeId×Value→H}{w:World}{base:Nat}{spare:Nat→Bool}{held:Bool}{r:Reach}{b0:Nat}{v:Value}{d:DataW H}{p:List MemPlace}
theorem under_plans:Tryz.prog.underlying 23 = some (.slice 43):=by kernel_rfl
instance:Inhabited Pl:=⟨Pl.zero⟩
def PlsAll(w:World) (A:Option Addr) (c:Nat) (l:List Pl):Prop:=l.length≤c∧c≤maxLen∧(∀ x∈l,PlAll w x)∧Cs w A (PlL l)
theorem openPls(hv:Value.okWide Tryz.prog w r b0 23 v) (h:DataW.Trod enc Tryz.prog w base spare held 23 v d p) (hb:Rows.uptoBulk d≤1048576) :
  ∃ (A:Option Addr) (c:Nat) (l:List Pl),v=.slice A l.length c∧PlsAll w A c l:=by
 obtain⟨fuel,hf⟩:=h
 obtain⟨A,n,c,rfl⟩:∃ A n c,v=.slice A n c:=okWide_slice under_plans hv
 rcases open_slice under_plans (show DataW.trod enc Tryz.prog w base spare held fuel 23 [.slice A n c]=some (d,p) by simpa[Value.cells] using hf) with ⟨hc,hx⟩|⟨a,len,cap,m,k,D,Pls,hc,_,hl,hm,hn,hx,hel⟩
 ·simp at hc
  obtain⟨rfl,rfl,rfl⟩:=hc
  exact⟨none,0,[],rfl,Nat.le_refl _,Nat.zero_le _,by simp,CsS.nil _ _ _⟩
 ·simp at hc
  obtain⟨rfl,rfl,rfl⟩:=hc
  have hlen:n≤m:=by rw[hn];split <;> omega
  have hbD:∀ i,i<n→Rows.uptoBulk (D i)≤1048576:=fun i hi=>by
   injection hx with hx1 _
   rw[hx1]at hb
   simp only[Rows.uptoBulk]at hb
   have:=bulk_part (H:=H) (List.mem_map_of_mem (f:=D) (List.mem_range.2 hi))
   omega
  obtain⟨q,hq⟩:=choose_lt (n:=n) (α:=Pl) (p:=fun i q=>(∀ j u,(plC q)[j]?=some u→w.cell? (a.add (i*8+j))=some u)∧PlAll w q) (fun i hi=>by
   obtain⟨cs',h1,h2⟩:=hel i (by omega)
   obtain⟨q,rfl,hq⟩:=readPl h2 (hbD i hi)
   obtain⟨_,hlen',hcell⟩:=World.cells?_some h1
   refine⟨q,fun j u hu=>?_,hq⟩
   have:=hcell j (by rw[cellsPl];exact(List.getElem?_eq_some_iff.1 hu).1)
   rw[cellsPl,add_add]at this
   rw[this]
   exact hu)
  have ht:((List.range n).map q).length=n:=by simp
  refine⟨some a,c,(List.range n).map q,by rw[ht],by omega,hm,fun y hy=>?_,fun h0=>?_⟩
  ·obtain⟨i,hi,rfl⟩:=List.mem_map.1 hy
   exact(hq i (List.mem_range.1 hi)).2
  ·rw[PlL_len,ht]at h0
   have h00:=(hq 0 (by omega)).1 0 _ rfl
   have hb:=World.block_lt_of_cell? _ _ h00
   rw[block_add]at hb
   have hsp:a.spot=none:=by
    rw[Nat.zero_mul,Nat.zero_add,Addr.add,if_pos rfl]at h00
    unfold World.cell? at h00
    split at h00
    ·rename_i hh
     cases hs:a.spot with
     | none=>rfl
     | some _=>rw[hs]at h00;simp at h00
    ·cases h00
   obtain⟨b,o,sp⟩:=a
   obtain rfl:sp=none:=hsp
   refine⟨b,o,rfl,trivial,hb,fun i u hu=>?_⟩
   obtain⟨y,hy,hu2⟩:=PlL_split _ _ _ hu
   have hi:i / 8<n:=by have:=(List.getElem?_eq_some_iff.1 hy).1;rwa [ht]at this
   rw[List.getElem?_map,List.getElem?_range hi]at hy
   obtain rfl:q (i / 8)=y:=by simpa using hy
   have:=(hq (i / 8) hi).1 (i % 8) u hu2
   rw[show i / 8*8+i % 8=i by omega]at this
   rw[←show Addr.add ⟨b,o,none⟩ i=⟨b,o+i,none⟩ by unfold Addr.add;split <;> simp_all]
   exact this
end
end
end Go.Proofs.YtobgigcdpiikaaaGreatDoor
