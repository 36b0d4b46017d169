/- Plain laws and walks, each by its own conditions. -/
import Derived.Test.YtobgigcdpiikaaaGreatDoorUc7
set_option linter.unusedSimpArgs false
set_option linter.unusedVariables false
set_option maxRecDepth 100000
set_option maxHeartbeats 16000000
namespace Go.Proofs.YtobgigcdpiikaaaGreatDoor
section
open BigFrame Go.RowKit Go.Phx Go.Shelf
attribute [local go_sem] Oper.semAt_some fldInf
def Five(s:ByteArray) (t a b c d:Int):Prop:=((s.size:Int) != 5)=false ∧
 (∀ w,(Instr.index 9 (.string s) (.int .i64 0)).run Tryz.prog w=.ok (.int .u8 t) w)∧(∀ w,(Instr.index 9 (.string s) (.int .i64 1)).run Tryz.prog w=.ok (.int .u8 a) w) ∧
 (∀ w,(Instr.index 9 (.string s) (.int .i64 2)).run Tryz.prog w=.ok (.int .u8 b) w)∧(∀ w,(Instr.index 9 (.string s) (.int .i64 3)).run Tryz.prog w=.ok (.int .u8 c) w) ∧
 (∀ w,(Instr.index 9 (.string s) (.int .i64 4)).run Tryz.prog w=.ok (.int .u8 d) w)
theorem five_of(t a b c d:UInt8):Five ⟨#[t,a,b,c,d]⟩ t.toNat a.toNat b.toNat c.toNat d.toNat :=
 ⟨rfl,fun _=>by kernel_rfl,fun _=>by kernel_rfl,fun _=>by kernel_rfl,fun _=>by kernel_rfl,fun _=>by kernel_rfl⟩
def word4(a b c d:Int):Int:=a*16777216+b*65536+c*256+d
theorem or_low(x b:Int) (h0:0≤x) (h1:x<16777216) (h2:0≤b) (h3:b<256):bits .or .u64 (IntKind.u64.wrap (x*256)) b=x*256+b:=by
 have e:IntKind.u64.wrap (x*256)=x*256:=by
  simp[IntKind.wrap,IntKind.bits,IntKind.signed]
  omega
 rw[e,u64_or (x*256) b (by omega) (by omega) h2 (by omega)]
 rw[nat_join 8 (x*256).toNat b.toNat (by omega) (by show b.toNat<256;omega)]
 omega
theorem or_zero(b:Int) (h2:0≤b) (h3:b<256):bits .or .u64 0 b=b:=by
 rw[u64_or 0 b (by decide) (by decide) h2 (by omega)]
 simp
 omega
theorem word4_up(a b c d:Int) (ha:0≤a∧a<256) (hb:0≤b∧b<256) (hc:0≤c∧c<256) (hd:0≤d∧d<256) :
  bits .or .u64 (IntKind.u64.wrap (bits .or .u64 (IntKind.u64.wrap (bits .or .u64 (IntKind.u64.wrap (bits .or .u64 0 a*256)) b*256)) c*256)) d=word4 a b c d:=by
 rw[or_zero a ha.1 ha.2,or_low a b ha.1 (by omega) hb.1 hb.2,or_low _ c (by omega) (by omega) hc.1 hc.2,or_low _ d (by omega) (by omega) hd.1 hd.2]
 unfold word4
 omega
theorem word4_bd(a b c d:Int) (ha:0≤a∧a<256) (hb:0≤b∧b<256) (hc:0≤c∧c<256) (hd:0≤d∧d<256):0≤word4 a b c d∧word4 a b c d<4294967296:=by
 unfold word4
 omega
theorem from_len(s:ByteArray) (hl:((s.size:Int) != 5)=true) (w:World) :
  Calls Tryz.prog 126 #[.string s] w (Ret w (.tuple #[.agg #[.int .u64 0,.int .u64 0,.bool false],.int .i64 100])):=by
 go_enter Tryz.func126, Tryz.ntmps126
 go_wp2_with fail
 have HB:Below w.heap.size w (w.alloc (.cells #[.int .u64 0,.int .u64 0,.bool false] 153)):=bel
 exact bodyPost_ret (v:=.tuple #[.agg #[.int .u64 0,.int .u64 0,.bool false],.int .i64 100]) (by simp (maxDischargeDepth:=9) [results,Tryz.results126, go_sem,vp,v2, *]) rfl ⟨rfl,bel⟩
theorem from_t1(s:ByteArray) (hl:((s.size:Int) != 5)=false) (i0:∀ w,(Instr.index 9 (.string s) (.int .i64 0)).run Tryz.prog w=.ok (.int .u8 1) w) (w:World) :
  Calls Tryz.prog 126 #[.string s] w (Ret w (.tuple #[.agg #[.int .u64 0,.int .u64 0,.bool false],.int .i64 100])):=by
 go_enter Tryz.func126, Tryz.ntmps126
 go_wp2_with fail
 have HB:Below w.heap.size w (w.alloc (.cells #[.int .u64 0,.int .u64 0,.bool false] 153)):=bel
 exact bodyPost_ret (v:=.tuple #[.agg #[.int .u64 0,.int .u64 0,.bool false],.int .i64 100]) (by simp (maxDischargeDepth:=9) [results,Tryz.results126, go_sem,vp,v2, *]) rfl ⟨rfl,bel⟩
theorem from_gt(s:ByteArray) (t:Int) (hl:((s.size:Int) != 5)=false) (i0:∀ w,(Instr.index 9 (.string s) (.int .i64 0)).run Tryz.prog w=.ok (.int .u8 t) w) (h1:(t == 1)=false) (h3:decide (3<t)=true) (w:World) :
  Calls Tryz.prog 126 #[.string s] w (Ret w (.tuple #[.agg #[.int .u64 0,.int .u64 0,.bool false],.int .i64 100])):=by
 go_enter Tryz.func126, Tryz.ntmps126
 go_wp2_with fail
 have HB:Below w.heap.size w (w.alloc (.cells #[.int .u64 0,.int .u64 0,.bool false] 153)):=bel
 exact bodyPost_ret (v:=.tuple #[.agg #[.int .u64 0,.int .u64 0,.bool false],.int .i64 100]) (by simp (maxDischargeDepth:=9) [results,Tryz.results126, go_sem,vp,v2, *]) rfl ⟨rfl,bel⟩
theorem from_0(s:ByteArray) (a b c d:Int) (h:Five s 0 a b c d) (ha:0≤a∧a<256) (hb:0≤b∧b<256) (hc:0≤c∧c<256) (hd:0≤d∧d<256) (h0:(word4 a b c d == 0)=true) (w:World) :
  Calls Tryz.prog 126 #[.string s] w (Ret w (.tuple #[vp none,.int .i64 0])):=by
 have n1:=none_x
 have hX':=word4_up a b c d ha hb hc hd
 rw[beq_iff_eq.1 h0]at hX'
 clear h0
 obtain⟨hl,i0,i1,i2,i3,i4⟩:=h
 obtain⟨a1,a2⟩:=ha
 obtain⟨b1,b2⟩:=hb
 obtain⟨c1,c2⟩:=hc
 obtain⟨d1,d2⟩:=hd
 go_enter Tryz.func126, Tryz.ntmps126
 go_wp2_with fail
 refine wp_loop_rounds 5 ?_
 iterate 5 (rw[rounds_succ];go_wp2_with fail)
 refine(n1 _).mono ?_
 rintro e w1 ⟨rfl,hB⟩
 (replace HB:Below w.heap.size w w1:=Below.on hB bel;replace K0:=hb_ (g:=w.heap.size) blI hB;(try simp only[sB,sC,sD]at K0);clear hB;have HZw1:=HB.size;obtain⟨k0,f0,l0,m0⟩:=rl_ K0)
 go_wp2_with fail
 exact bodyPost_ret (v:=.tuple #[vp none,.int .i64 0]) (by simp (maxDischargeDepth:=9) [results,Tryz.results126, go_sem,vp,v2, *]) rfl ⟨rfl,bel⟩
theorem from_0_false(s:ByteArray) (a b c d:Int) (h:Five s 0 a b c d) (ha:0≤a∧a<256) (hb:0≤b∧b<256) (hc:0≤c∧c<256) (hd:0≤d∧d<256) (S:Int) (y:F)
  (hs:∀ w,Calls Tryz.prog 158 #[.int .u64 (word4 a b c d)] w fun e w'=>e=.returned (.int .u64 S)∧w=w')
  (hr:∀ w,Calls Tryz.prog 157 #[.int .u64 S] w (Ret w (.tuple #[.int .u64 (vz y),.bool false])))
  (h0:(word4 a b c d == 0)=false) (hp:vz y % 2=0) (w:World) :
  Calls Tryz.prog 126 #[.string s] w (Ret w (.tuple #[.agg #[.int .u64 0,.int .u64 0,.bool false],.int .i64 100])):=by
 have e1:=bits_and1 y
 rw[hp]at e1
 have e2:bits .and .u8 0 1=0:=by decide
 have hX':(bits .or .u64 (IntKind.u64.wrap (bits .or .u64 (IntKind.u64.wrap (bits .or .u64 (IntKind.u64.wrap (bits .or .u64 0 a*256)) b*256)) c*256)) d == 0)=false:=by rw[word4_up a b c d ha hb hc hd];exact h0
 clear hp h0
 obtain⟨hl,i0,i1,i2,i3,i4⟩:=h
 have hX:=word4_up a b c d ha hb hc hd
 obtain⟨a1,a2⟩:=ha
 obtain⟨b1,b2⟩:=hb
 obtain⟨c1,c2⟩:=hc
 obtain⟨d1,d2⟩:=hd
 generalize word4 a b c d=X at *
 replace hX:=Z hX
 go_enter Tryz.func126, Tryz.ntmps126
 go_wp2_with fail
 refine wp_loop_rounds 5 ?_
 iterate 5 (rw[rounds_succ];go_wp2_with fail)
 rw[hX.out]
 refine(hs _).mono ?_
 rintro e w' ⟨rfl,rfl⟩
 go_wp2_with fail
 refine(hr _).mono ?_
 rintro e w1 ⟨rfl,hB⟩
 (replace HB:Below w.heap.size w w1:=Below.on hB bel;replace K0:=hb_ (g:=w.heap.size) blI hB;(try simp only[sB,sC,sD]at K0);clear hB;have HZw1:=HB.size;obtain⟨k0,f0,l0,m0⟩:=rl_ K0)
 go_wp2_with fail
 (refine wp_region_later U U ?_;(repeat(go_big_quiet_step (fail)));refine wpQuiet_nil ?_;intro w' hB)
 (replace HB:Below w.heap.size w w':=Below.on hB bel;replace K0:=hkI K0.out hB;replace K1:=hb_ (g:=w1.heap.size) blI hB;(try simp only[sB,sC,sD]at K0 K1);clear k0 f0 l0 m0 hB;have HZw':=HB.size;obtain⟨k0,f0,l0,m0⟩:=rl_ K0;obtain⟨k1,f1,l1,m1⟩:=rl_ K1)
 go_wp2_with fail
 exact bodyPost_ret (v:=.tuple #[.agg #[.int .u64 0,.int .u64 0,.bool false],.int .i64 100]) (by simp (maxDischargeDepth:=9) [results,Tryz.results126, go_sem,vp,v2, *]) rfl ⟨rfl,bel⟩
theorem from_0_true(s:ByteArray) (a b c d:Int) (h:Five s 0 a b c d) (ha:0≤a∧a<256) (hb:0≤b∧b<256) (hc:0≤c∧c<256) (hd:0≤d∧d<256) (S:Int) (y:F)
  (hs:∀ w,Calls Tryz.prog 158 #[.int .u64 (word4 a b c d)] w fun e w'=>e=.returned (.int .u64 S)∧w=w')
  (hr:∀ w,Calls Tryz.prog 157 #[.int .u64 S] w (Ret w (.tuple #[.int .u64 (vz y),.bool true])))
  (h0:(word4 a b c d == 0)=false) (hp:vz y % 2=0) (w:World) :
  Calls Tryz.prog 126 #[.string s] w (Ret w (.tuple #[.agg #[.int .u64 0,.int .u64 0,.bool false],.int .i64 100])):=by
 have e1:=bits_and1 y
 rw[hp]at e1
 have e2:bits .and .u8 0 1=0:=by decide
 have hX':(bits .or .u64 (IntKind.u64.wrap (bits .or .u64 (IntKind.u64.wrap (bits .or .u64 (IntKind.u64.wrap (bits .or .u64 0 a*256)) b*256)) c*256)) d == 0)=false:=by rw[word4_up a b c d ha hb hc hd];exact h0
 clear hp h0
 obtain⟨hl,i0,i1,i2,i3,i4⟩:=h
 have hX:=word4_up a b c d ha hb hc hd
 obtain⟨a1,a2⟩:=ha
 obtain⟨b1,b2⟩:=hb
 obtain⟨c1,c2⟩:=hc
 obtain⟨d1,d2⟩:=hd
 generalize word4 a b c d=X at *
 replace hX:=Z hX
 go_enter Tryz.func126, Tryz.ntmps126
 go_wp2_with fail
 refine wp_loop_rounds 5 ?_
 iterate 5 (rw[rounds_succ];go_wp2_with fail)
 rw[hX.out]
 refine(hs _).mono ?_
 rintro e w' ⟨rfl,rfl⟩
 go_wp2_with fail
 refine(hr _).mono ?_
 rintro e w1 ⟨rfl,hB⟩
 (replace HB:Below w.heap.size w w1:=Below.on hB bel;replace K0:=hb_ (g:=w.heap.size) blI hB;(try simp only[sB,sC,sD]at K0);clear hB;have HZw1:=HB.size;obtain⟨k0,f0,l0,m0⟩:=rl_ K0)
 go_wp2_with fail
 (refine wp_region_later U U ?_;(repeat(go_big_quiet_step (fail)));refine wpQuiet_nil ?_;intro w' hB)
 (replace HB:Below w.heap.size w w':=Below.on hB bel;replace K0:=hkI K0.out hB;replace K1:=hb_ (g:=w1.heap.size) blI hB;(try simp only[sB,sC,sD]at K0 K1);clear k0 f0 l0 m0 hB;have HZw':=HB.size;obtain⟨k0,f0,l0,m0⟩:=rl_ K0;obtain⟨k1,f1,l1,m1⟩:=rl_ K1)
 go_wp2_with fail
 exact bodyPost_ret (v:=.tuple #[.agg #[.int .u64 0,.int .u64 0,.bool false],.int .i64 100]) (by simp (maxDischargeDepth:=9) [results,Tryz.results126, go_sem,vp,v2, *]) rfl ⟨rfl,bel⟩
theorem from_2_no(s:ByteArray) (a b c d:Int) (h:Five s 2 a b c d) (ha:0≤a∧a<256) (hb:0≤b∧b<256) (hc:0≤c∧c<256) (hd:0≤d∧d<256) (S:Int) (y:F)
  (hs:∀ w,Calls Tryz.prog 158 #[.int .u64 (word4 a b c d)] w fun e w'=>e=.returned (.int .u64 S)∧w=w')
  (hr:∀ w,Calls Tryz.prog 157 #[.int .u64 S] w (Ret w (.tuple #[.int .u64 (vz y),.bool false])))
  (w:World) :
  Calls Tryz.prog 126 #[.string s] w (Ret w (.tuple #[.agg #[.int .u64 0,.int .u64 0,.bool false],.int .i64 100])):=by
 obtain⟨hl,i0,i1,i2,i3,i4⟩:=h
 have hX:=word4_up a b c d ha hb hc hd
 obtain⟨a1,a2⟩:=ha
 obtain⟨b1,b2⟩:=hb
 obtain⟨c1,c2⟩:=hc
 obtain⟨d1,d2⟩:=hd
 generalize word4 a b c d=X at *
 replace hX:=Z hX
 go_enter Tryz.func126, Tryz.ntmps126
 go_wp2_with fail
 refine wp_loop_rounds 5 ?_
 iterate 5 (rw[rounds_succ];go_wp2_with fail)
 rw[hX.out]
 refine(hs _).mono ?_
 rintro e w' ⟨rfl,rfl⟩
 go_wp2_with fail
 refine(hr _).mono ?_
 rintro e w1 ⟨rfl,hB⟩
 (replace HB:Below w.heap.size w w1:=Below.on hB bel;replace K0:=hb_ (g:=w.heap.size) blI hB;(try simp only[sB,sC,sD]at K0);clear hB;have HZw1:=HB.size;obtain⟨k0,f0,l0,m0⟩:=rl_ K0)
 go_wp2_with fail
 (refine wp_region_later U U ?_;(repeat(go_big_quiet_step (fail)));refine wpQuiet_nil ?_;intro w' hB)
 (replace HB:Below w.heap.size w w':=Below.on hB bel;replace K0:=hkI K0.out hB;replace K1:=hb_ (g:=w1.heap.size) blI hB;(try simp only[sB,sC,sD]at K0 K1);clear k0 f0 l0 m0 hB;have HZw':=HB.size;obtain⟨k0,f0,l0,m0⟩:=rl_ K0;obtain⟨k1,f1,l1,m1⟩:=rl_ K1)
 go_wp2_with fail
 exact bodyPost_ret (v:=.tuple #[.agg #[.int .u64 0,.int .u64 0,.bool false],.int .i64 100]) (by simp (maxDischargeDepth:=9) [results,Tryz.results126, go_sem,vp,v2, *]) rfl ⟨rfl,bel⟩
theorem from_2_out(s:ByteArray) (a b c d:Int) (h:Five s 2 a b c d) (ha:0≤a∧a<256) (hb:0≤b∧b<256) (hc:0≤c∧c<256) (hd:0≤d∧d<256) (S:Int) (y:F)
  (hs:∀ w,Calls Tryz.prog 158 #[.int .u64 (word4 a b c d)] w fun e w'=>e=.returned (.int .u64 S)∧w=w')
  (hr:∀ w,Calls Tryz.prog 157 #[.int .u64 S] w (Ret w (.tuple #[.int .u64 (vz y),.bool true])))
  (hp:vz y % 2=0) (hg:∀ w,Calls Tryz.prog 128 #[.agg #[.int .u64 (word4 a b c d),.int .u64 (vz y),.bool false]] w (Ret w (.bool false))) (w:World) :
  Calls Tryz.prog 126 #[.string s] w (Ret w (.tuple #[.agg #[.int .u64 0,.int .u64 0,.bool false],.int .i64 100])):=by
 have e1:=bits_and1 y
 rw[hp]at e1
 have e2:bits .and .u8 2 1=0:=by decide
 clear hp
 obtain⟨hl,i0,i1,i2,i3,i4⟩:=h
 have hX:=word4_up a b c d ha hb hc hd
 obtain⟨a1,a2⟩:=ha
 obtain⟨b1,b2⟩:=hb
 obtain⟨c1,c2⟩:=hc
 obtain⟨d1,d2⟩:=hd
 generalize word4 a b c d=X at *
 replace hX:=Z hX
 go_enter Tryz.func126, Tryz.ntmps126
 go_wp2_with fail
 refine wp_loop_rounds 5 ?_
 iterate 5 (rw[rounds_succ];go_wp2_with fail)
 rw[hX.out]
 refine(hs _).mono ?_
 rintro e w' ⟨rfl,rfl⟩
 go_wp2_with fail
 refine(hr _).mono ?_
 rintro e w1 ⟨rfl,hB⟩
 (replace HB:Below w.heap.size w w1:=Below.on hB bel;replace K0:=hb_ (g:=w.heap.size) blI hB;(try simp only[sB,sC,sD]at K0);clear hB;have HZw1:=HB.size;obtain⟨k0,f0,l0,m0⟩:=rl_ K0)
 go_wp2_with fail
 (refine wp_region_later U U ?_;(repeat(go_big_quiet_step ((go_at_call 128; exact lq (hg _)))));refine wpQuiet_nil ?_;intro w' hB)
 (replace HB:Below w.heap.size w w':=Below.on hB bel;replace K0:=hkI K0.out hB;replace K1:=hb_ (g:=w1.heap.size) blI hB;(try simp only[sB,sC,sD]at K0 K1);clear k0 f0 l0 m0 hB;have HZw':=HB.size;obtain⟨k0,f0,l0,m0⟩:=rl_ K0;obtain⟨k1,f1,l1,m1⟩:=rl_ K1)
 go_wp2_with fail
 exact bodyPost_ret (v:=.tuple #[.agg #[.int .u64 0,.int .u64 0,.bool false],.int .i64 100]) (by simp (maxDischargeDepth:=9) [results,Tryz.results126, go_sem,vp,v2, *]) rfl ⟨rfl,bel⟩
theorem from_2(s:ByteArray) (a b c d:Int) (h:Five s 2 a b c d) (ha:0≤a∧a<256) (hb:0≤b∧b<256) (hc:0≤c∧c<256) (hd:0≤d∧d<256) (S:Int) (y:F)
  (hs:∀ w,Calls Tryz.prog 158 #[.int .u64 (word4 a b c d)] w fun e w'=>e=.returned (.int .u64 S)∧w=w')
  (hr:∀ w,Calls Tryz.prog 157 #[.int .u64 S] w (Ret w (.tuple #[.int .u64 (vz y),.bool true])))
  (hp:vz y % 2=0) (hg:∀ w,Calls Tryz.prog 128 #[.agg #[.int .u64 (word4 a b c d),.int .u64 (vz y),.bool false]] w (Ret w (.bool true))) (w:World) :
  Calls Tryz.prog 126 #[.string s] w (Ret w (.tuple #[.agg #[.int .u64 (word4 a b c d),.int .u64 (vz y),.bool false],.int .i64 0])):=by
 have e1:=bits_and1 y
 rw[hp]at e1
 have e2:bits .and .u8 2 1=0:=by decide
 clear hp
 obtain⟨hl,i0,i1,i2,i3,i4⟩:=h
 have hX:=word4_up a b c d ha hb hc hd
 obtain⟨a1,a2⟩:=ha
 obtain⟨b1,b2⟩:=hb
 obtain⟨c1,c2⟩:=hc
 obtain⟨d1,d2⟩:=hd
 generalize word4 a b c d=X at *
 replace hX:=Z hX
 go_enter Tryz.func126, Tryz.ntmps126
 go_wp2_with fail
 refine wp_loop_rounds 5 ?_
 iterate 5 (rw[rounds_succ];go_wp2_with fail)
 rw[hX.out]
 refine(hs _).mono ?_
 rintro e w' ⟨rfl,rfl⟩
 go_wp2_with fail
 refine(hr _).mono ?_
 rintro e w1 ⟨rfl,hB⟩
 (replace HB:Below w.heap.size w w1:=Below.on hB bel;replace K0:=hb_ (g:=w.heap.size) blI hB;(try simp only[sB,sC,sD]at K0);clear hB;have HZw1:=HB.size;obtain⟨k0,f0,l0,m0⟩:=rl_ K0)
 go_wp2_with fail
 (refine wp_region_later U U ?_;(repeat(go_big_quiet_step ((go_at_call 128; exact lq (hg _)))));refine wpQuiet_nil ?_;intro w' hB)
 (replace HB:Below w.heap.size w w':=Below.on hB bel;replace K0:=hkI K0.out hB;replace K1:=hb_ (g:=w1.heap.size) blI hB;(try simp only[sB,sC,sD]at K0 K1);clear k0 f0 l0 m0 hB;have HZw':=HB.size;obtain⟨k0,f0,l0,m0⟩:=rl_ K0;obtain⟨k1,f1,l1,m1⟩:=rl_ K1)
 go_wp2_with fail
 exact bodyPost_ret (v:=.tuple #[.agg #[.int .u64 X,.int .u64 (vz y),.bool false],.int .i64 0]) (by simp (maxDischargeDepth:=9) [results,Tryz.results126, go_sem,vp,v2, *]) rfl ⟨rfl,bel⟩
theorem from_3_no(s:ByteArray) (a b c d:Int) (h:Five s 3 a b c d) (ha:0≤a∧a<256) (hb:0≤b∧b<256) (hc:0≤c∧c<256) (hd:0≤d∧d<256) (S:Int) (y:F)
  (hs:∀ w,Calls Tryz.prog 158 #[.int .u64 (word4 a b c d)] w fun e w'=>e=.returned (.int .u64 S)∧w=w')
  (hr:∀ w,Calls Tryz.prog 157 #[.int .u64 S] w (Ret w (.tuple #[.int .u64 (vz y),.bool false])))
  (y':F) (hm:∀ w,Calls Tryz.prog 159 #[.agg #[.int .u64 (word4 a b c d),.int .u64 (vz y),.bool false]] w (Ret w (.agg #[.int .u64 (word4 a b c d),.int .u64 (vz y'),.bool false])))
  (w:World) :
  Calls Tryz.prog 126 #[.string s] w (Ret w (.tuple #[.agg #[.int .u64 0,.int .u64 0,.bool false],.int .i64 100])):=by
 obtain⟨hl,i0,i1,i2,i3,i4⟩:=h
 have hX:=word4_up a b c d ha hb hc hd
 obtain⟨a1,a2⟩:=ha
 obtain⟨b1,b2⟩:=hb
 obtain⟨c1,c2⟩:=hc
 obtain⟨d1,d2⟩:=hd
 generalize word4 a b c d=X at *
 replace hX:=Z hX
 go_enter Tryz.func126, Tryz.ntmps126
 go_wp2_with fail
 refine wp_loop_rounds 5 ?_
 iterate 5 (rw[rounds_succ];go_wp2_with fail)
 rw[hX.out]
 refine(hs _).mono ?_
 rintro e w' ⟨rfl,rfl⟩
 go_wp2_with fail
 refine(hr _).mono ?_
 rintro e w1 ⟨rfl,hB⟩
 (replace HB:Below w.heap.size w w1:=Below.on hB bel;replace K0:=hb_ (g:=w.heap.size) blI hB;(try simp only[sB,sC,sD]at K0);clear hB;have HZw1:=HB.size;obtain⟨k0,f0,l0,m0⟩:=rl_ K0)
 go_wp2_with fail
 have z1:w.heap.size≠w1.heap.size:=Nat.ne_of_lt l0
 have z2:w1.heap.size≠w.heap.size:=z1.symm
 refine(hm _).mono ?_
 rintro e w2 ⟨rfl,hB⟩
 (replace HB:Below w.heap.size w w2:=Below.on hB bel;replace K0:=hkI K0.out hB;replace K1:=hb_ (g:=w1.heap.size) blI hB;(try simp only[sB,sC,sD]at K0 K1);clear k0 f0 l0 m0 hB;have HZw2:=HB.size;obtain⟨k0,f0,l0,m0⟩:=rl_ K0;obtain⟨k1,f1,l1,m1⟩:=rl_ K1)
 go_wp2_with fail
 (refine wp_region_later U U ?_;(repeat(go_big_quiet_step (fail)));refine wpQuiet_nil ?_;intro w' hB)
 (replace HB:Below w.heap.size w w':=Below.on hB bel;replace K0:=hkI K0.out hB;replace K1:=hkI K1.out hB;(try simp only[sB,sC,sD]at K0 K1);clear k0 f0 l0 m0 k1 f1 l1 m1 hB;have HZw':=HB.size;obtain⟨k0,f0,l0,m0⟩:=rl_ K0;obtain⟨k1,f1,l1,m1⟩:=rl_ K1)
 go_wp2_with fail
 exact bodyPost_ret (v:=.tuple #[.agg #[.int .u64 0,.int .u64 0,.bool false],.int .i64 100]) (by simp (maxDischargeDepth:=9) [results,Tryz.results126, go_sem,vp,v2, *]) rfl ⟨rfl,bel⟩
theorem from_3_zero(s:ByteArray) (a b c d:Int) (h:Five s 3 a b c d) (ha:0≤a∧a<256) (hb:0≤b∧b<256) (hc:0≤c∧c<256) (hd:0≤d∧d<256) (S:Int) (y:F)
  (hs:∀ w,Calls Tryz.prog 158 #[.int .u64 (word4 a b c d)] w fun e w'=>e=.returned (.int .u64 S)∧w=w')
  (hr:∀ w,Calls Tryz.prog 157 #[.int .u64 S] w (Ret w (.tuple #[.int .u64 (vz y),.bool true])))
  (y':F) (hm:∀ w,Calls Tryz.prog 159 #[.agg #[.int .u64 (word4 a b c d),.int .u64 (vz y),.bool false]] w (Ret w (.agg #[.int .u64 (word4 a b c d),.int .u64 (vz y'),.bool false])))
  (hp:vz y' % 2=0)  (w:World) :
  Calls Tryz.prog 126 #[.string s] w (Ret w (.tuple #[.agg #[.int .u64 0,.int .u64 0,.bool false],.int .i64 100])):=by
 have e1:=bits_and1 y'
 rw[hp]at e1
 have e2:bits .and .u8 3 1=1:=by decide
 clear hp
 obtain⟨hl,i0,i1,i2,i3,i4⟩:=h
 have hX:=word4_up a b c d ha hb hc hd
 obtain⟨a1,a2⟩:=ha
 obtain⟨b1,b2⟩:=hb
 obtain⟨c1,c2⟩:=hc
 obtain⟨d1,d2⟩:=hd
 generalize word4 a b c d=X at *
 replace hX:=Z hX
 go_enter Tryz.func126, Tryz.ntmps126
 go_wp2_with fail
 refine wp_loop_rounds 5 ?_
 iterate 5 (rw[rounds_succ];go_wp2_with fail)
 rw[hX.out]
 refine(hs _).mono ?_
 rintro e w' ⟨rfl,rfl⟩
 go_wp2_with fail
 refine(hr _).mono ?_
 rintro e w1 ⟨rfl,hB⟩
 (replace HB:Below w.heap.size w w1:=Below.on hB bel;replace K0:=hb_ (g:=w.heap.size) blI hB;(try simp only[sB,sC,sD]at K0);clear hB;have HZw1:=HB.size;obtain⟨k0,f0,l0,m0⟩:=rl_ K0)
 go_wp2_with fail
 have z1:w.heap.size≠w1.heap.size:=Nat.ne_of_lt l0
 have z2:w1.heap.size≠w.heap.size:=z1.symm
 refine(hm _).mono ?_
 rintro e w2 ⟨rfl,hB⟩
 (replace HB:Below w.heap.size w w2:=Below.on hB bel;replace K0:=hkI K0.out hB;replace K1:=hb_ (g:=w1.heap.size) blI hB;(try simp only[sB,sC,sD]at K0 K1);clear k0 f0 l0 m0 hB;have HZw2:=HB.size;obtain⟨k0,f0,l0,m0⟩:=rl_ K0;obtain⟨k1,f1,l1,m1⟩:=rl_ K1)
 go_wp2_with fail
 (refine wp_region_later U U ?_;(repeat(go_big_quiet_step (fail)));refine wpQuiet_nil ?_;intro w' hB)
 (replace HB:Below w.heap.size w w':=Below.on hB bel;replace K0:=hkI K0.out hB;replace K1:=hkI K1.out hB;(try simp only[sB,sC,sD]at K0 K1);clear k0 f0 l0 m0 k1 f1 l1 m1 hB;have HZw':=HB.size;obtain⟨k0,f0,l0,m0⟩:=rl_ K0;obtain⟨k1,f1,l1,m1⟩:=rl_ K1)
 go_wp2_with fail
 exact bodyPost_ret (v:=.tuple #[.agg #[.int .u64 0,.int .u64 0,.bool false],.int .i64 100]) (by simp (maxDischargeDepth:=9) [results,Tryz.results126, go_sem,vp,v2, *]) rfl ⟨rfl,bel⟩
theorem from_3_out(s:ByteArray) (a b c d:Int) (h:Five s 3 a b c d) (ha:0≤a∧a<256) (hb:0≤b∧b<256) (hc:0≤c∧c<256) (hd:0≤d∧d<256) (S:Int) (y:F)
  (hs:∀ w,Calls Tryz.prog 158 #[.int .u64 (word4 a b c d)] w fun e w'=>e=.returned (.int .u64 S)∧w=w')
  (hr:∀ w,Calls Tryz.prog 157 #[.int .u64 S] w (Ret w (.tuple #[.int .u64 (vz y),.bool true])))
  (y':F) (hm:∀ w,Calls Tryz.prog 159 #[.agg #[.int .u64 (word4 a b c d),.int .u64 (vz y),.bool false]] w (Ret w (.agg #[.int .u64 (word4 a b c d),.int .u64 (vz y'),.bool false])))
  (hp:vz y' % 2=1) (hg:∀ w,Calls Tryz.prog 128 #[.agg #[.int .u64 (word4 a b c d),.int .u64 (vz y'),.bool false]] w (Ret w (.bool false))) (w:World) :
  Calls Tryz.prog 126 #[.string s] w (Ret w (.tuple #[.agg #[.int .u64 0,.int .u64 0,.bool false],.int .i64 100])):=by
 have e1:=bits_and1 y'
 rw[hp]at e1
 have e2:bits .and .u8 3 1=1:=by decide
 clear hp
 obtain⟨hl,i0,i1,i2,i3,i4⟩:=h
 have hX:=word4_up a b c d ha hb hc hd
 obtain⟨a1,a2⟩:=ha
 obtain⟨b1,b2⟩:=hb
 obtain⟨c1,c2⟩:=hc
 obtain⟨d1,d2⟩:=hd
 generalize word4 a b c d=X at *
 replace hX:=Z hX
 go_enter Tryz.func126, Tryz.ntmps126
 go_wp2_with fail
 refine wp_loop_rounds 5 ?_
 iterate 5 (rw[rounds_succ];go_wp2_with fail)
 rw[hX.out]
 refine(hs _).mono ?_
 rintro e w' ⟨rfl,rfl⟩
 go_wp2_with fail
 refine(hr _).mono ?_
 rintro e w1 ⟨rfl,hB⟩
 (replace HB:Below w.heap.size w w1:=Below.on hB bel;replace K0:=hb_ (g:=w.heap.size) blI hB;(try simp only[sB,sC,sD]at K0);clear hB;have HZw1:=HB.size;obtain⟨k0,f0,l0,m0⟩:=rl_ K0)
 go_wp2_with fail
 have z1:w.heap.size≠w1.heap.size:=Nat.ne_of_lt l0
 have z2:w1.heap.size≠w.heap.size:=z1.symm
 refine(hm _).mono ?_
 rintro e w2 ⟨rfl,hB⟩
 (replace HB:Below w.heap.size w w2:=Below.on hB bel;replace K0:=hkI K0.out hB;replace K1:=hb_ (g:=w1.heap.size) blI hB;(try simp only[sB,sC,sD]at K0 K1);clear k0 f0 l0 m0 hB;have HZw2:=HB.size;obtain⟨k0,f0,l0,m0⟩:=rl_ K0;obtain⟨k1,f1,l1,m1⟩:=rl_ K1)
 go_wp2_with fail
 (refine wp_region_later U U ?_;(repeat(go_big_quiet_step ((go_at_call 128; exact lq (hg _)))));refine wpQuiet_nil ?_;intro w' hB)
 (replace HB:Below w.heap.size w w':=Below.on hB bel;replace K0:=hkI K0.out hB;replace K1:=hkI K1.out hB;(try simp only[sB,sC,sD]at K0 K1);clear k0 f0 l0 m0 k1 f1 l1 m1 hB;have HZw':=HB.size;obtain⟨k0,f0,l0,m0⟩:=rl_ K0;obtain⟨k1,f1,l1,m1⟩:=rl_ K1)
 go_wp2_with fail
 exact bodyPost_ret (v:=.tuple #[.agg #[.int .u64 0,.int .u64 0,.bool false],.int .i64 100]) (by simp (maxDischargeDepth:=9) [results,Tryz.results126, go_sem,vp,v2, *]) rfl ⟨rfl,bel⟩
theorem from_3(s:ByteArray) (a b c d:Int) (h:Five s 3 a b c d) (ha:0≤a∧a<256) (hb:0≤b∧b<256) (hc:0≤c∧c<256) (hd:0≤d∧d<256) (S:Int) (y:F)
  (hs:∀ w,Calls Tryz.prog 158 #[.int .u64 (word4 a b c d)] w fun e w'=>e=.returned (.int .u64 S)∧w=w')
  (hr:∀ w,Calls Tryz.prog 157 #[.int .u64 S] w (Ret w (.tuple #[.int .u64 (vz y),.bool true])))
  (y':F) (hm:∀ w,Calls Tryz.prog 159 #[.agg #[.int .u64 (word4 a b c d),.int .u64 (vz y),.bool false]] w (Ret w (.agg #[.int .u64 (word4 a b c d),.int .u64 (vz y'),.bool false])))
  (hp:vz y' % 2=1) (hg:∀ w,Calls Tryz.prog 128 #[.agg #[.int .u64 (word4 a b c d),.int .u64 (vz y'),.bool false]] w (Ret w (.bool true))) (w:World) :
  Calls Tryz.prog 126 #[.string s] w (Ret w (.tuple #[.agg #[.int .u64 (word4 a b c d),.int .u64 (vz y'),.bool false],.int .i64 0])):=by
 have e1:=bits_and1 y'
 rw[hp]at e1
 have e2:bits .and .u8 3 1=1:=by decide
 clear hp
 obtain⟨hl,i0,i1,i2,i3,i4⟩:=h
 have hX:=word4_up a b c d ha hb hc hd
 obtain⟨a1,a2⟩:=ha
 obtain⟨b1,b2⟩:=hb
 obtain⟨c1,c2⟩:=hc
 obtain⟨d1,d2⟩:=hd
 generalize word4 a b c d=X at *
 replace hX:=Z hX
 go_enter Tryz.func126, Tryz.ntmps126
 go_wp2_with fail
 refine wp_loop_rounds 5 ?_
 iterate 5 (rw[rounds_succ];go_wp2_with fail)
 rw[hX.out]
 refine(hs _).mono ?_
 rintro e w' ⟨rfl,rfl⟩
 go_wp2_with fail
 refine(hr _).mono ?_
 rintro e w1 ⟨rfl,hB⟩
 (replace HB:Below w.heap.size w w1:=Below.on hB bel;replace K0:=hb_ (g:=w.heap.size) blI hB;(try simp only[sB,sC,sD]at K0);clear hB;have HZw1:=HB.size;obtain⟨k0,f0,l0,m0⟩:=rl_ K0)
 go_wp2_with fail
 have z1:w.heap.size≠w1.heap.size:=Nat.ne_of_lt l0
 have z2:w1.heap.size≠w.heap.size:=z1.symm
 refine(hm _).mono ?_
 rintro e w2 ⟨rfl,hB⟩
 (replace HB:Below w.heap.size w w2:=Below.on hB bel;replace K0:=hkI K0.out hB;replace K1:=hb_ (g:=w1.heap.size) blI hB;(try simp only[sB,sC,sD]at K0 K1);clear k0 f0 l0 m0 hB;have HZw2:=HB.size;obtain⟨k0,f0,l0,m0⟩:=rl_ K0;obtain⟨k1,f1,l1,m1⟩:=rl_ K1)
 go_wp2_with fail
 (refine wp_region_later U U ?_;(repeat(go_big_quiet_step ((go_at_call 128; exact lq (hg _)))));refine wpQuiet_nil ?_;intro w' hB)
 (replace HB:Below w.heap.size w w':=Below.on hB bel;replace K0:=hkI K0.out hB;replace K1:=hkI K1.out hB;(try simp only[sB,sC,sD]at K0 K1);clear k0 f0 l0 m0 k1 f1 l1 m1 hB;have HZw':=HB.size;obtain⟨k0,f0,l0,m0⟩:=rl_ K0;obtain⟨k1,f1,l1,m1⟩:=rl_ K1)
 go_wp2_with fail
 exact bodyPost_ret (v:=.tuple #[.agg #[.int .u64 X,.int .u64 (vz y'),.bool false],.int .i64 0]) (by simp (maxDischargeDepth:=9) [results,Tryz.results126, go_sem,vp,v2, *]) rfl ⟨rfl,bel⟩
end
section
open BigFrame Go.RowKit Go.Phx Go.Shelf
def be:Option (List UInt8)→Int|none=>100|some _=>0
theorem inR_some{x y:Int}{i:Bool} (hx:0≤x) (hy:0≤y) (h:inR x y i=true):∃ p,inG p=true∧ptOf x y i=p∧x=px p∧y=py p∧i=pf p:=by
 cases h1:isOn x y i
 ·unfold inR at h
  rw[said_none h1]at h
  cases h
 ·obtain⟨p,hp,h2,e1,e2,e3⟩:=said_some hx hy h1
  refine⟨p,?_,?_,e1,e2,e3⟩
  ·unfold inR at h
   rw[h2]at h
   exact h
  ·unfold said at h2
   rw[h1]at h2
   injection h2
theorem inR_parts{p:E} (h:inG p=true):inR (px p) (py p) (pf p)=true:=by
 unfold inR
 rw[said_parts (inG_on h)]
 exact h
def wordU(a b c d:UInt8):Int:=word4 a.toNat b.toNat c.toNat d.toNat
theorem wordU_bd(a b c d:UInt8):0≤wordU a b c d∧wordU a b c d<4294967296:=by
 have:=a.toNat_lt
 have:=b.toNat_lt
 have:=c.toNat_lt
 have:=d.toNat_lt
 exact word4_bd _ _ _ _ (by omega) (by omega) (by omega) (by omega)
noncomputable def rootAt (X:Int):F×Bool:=rootS (zf X*zf X*zf X+zf X)
noncomputable def from5 (t a b c d:UInt8):Option E :=
 if t=0 then(if wordU a b c d=0 then some none else none)
 else if t=2 then(if wordU a b c d<2147482867∧(rootAt (wordU a b c d)).2=true∧inG (some (zf (wordU a b c d),(rootAt (wordU a b c d)).1))=true then some (some (zf (wordU a b c d),(rootAt (wordU a b c d)).1)) else none)
 else if t=3 then(if wordU a b c d<2147482867∧(rootAt (wordU a b c d)).2=true∧(rootAt (wordU a b c d)).1≠0∧inG (some (zf (wordU a b c d),-(rootAt (wordU a b c d)).1))=true then some (some (zf (wordU a b c d),-(rootAt (wordU a b c d)).1)) else none)
 else none
noncomputable def fromL:List UInt8→Option E
 | [t,a,b,c,d]=>from5 t a b c d
 | _=>none
theorem inR_lt{X:Int} (h0:0≤X) (h:X<2147482867) (y:F):inR X (vz y) false=inG (some (zf X,y)):=by
 have e:X=vz (zf X):=by rw[vz_zf,Int.emod_eq_of_lt h0 h]
 generalize zf X=x at e ⊢
 subst e
 cases h1:onE (some (x,y))
 ·have h2:isOn (vz x) (vz y) false=false:=by rw[isOn_vp];exact h1
  unfold inR inG
  rw[said_none h2,h1]
  rfl
 ·have h2:=said_parts h1
  change said (vz x) (vz y) false=_ at h2
  unfold inR
  rw[h2]
  rfl
theorem inR_ge{X:Int} (h:¬ X<2147482867) (y:Int):inR X y false=false:=by
 unfold inR
 rw[said_none]
 ·rfl
 ·unfold isOn
  simp[h]
theorem vz_odd{y:F} (hy:y≠0) (h:vz y % 2=0):vz (-y) % 2=1:=by
 have h0:vz y≠0:=fun e=>hy (vz_inj (by rw[e];rfl))
 have:=vz_neg y h0
 omega
theorem neg_0 : -(0:F)=0:=by decide
theorem minus_u64(X:Int) (hX:0≤X) (y:F) (w:World):Calls Tryz.prog 159 #[.agg #[.int .u64 X,.int .u64 (vz y),.bool false]] w (Ret w (.agg #[.int .u64 X,.int .u64 (vz (-y)),.bool false])):=by
 have h:=minus_calls X (vz y) false hX (vz_nonneg _) w
 rw[zf_vz]at h
 exact h
theorem side_root(X:Int) (hX:0≤X):(∀ w,Calls Tryz.prog 158 #[.int .u64 X] w fun e w'=>e=.returned (.int .u64 (vz (zf X*zf X*zf X+zf X)))∧w=w') ∧
  ∀ w,Calls Tryz.prog 157 #[.int .u64 (vz (zf X*zf X*zf X+zf X))] w (Ret w (.tuple #[.int .u64 (vz (rootAt X).1),.bool (rootAt X).2])):=by
 refine⟨fun w=>side_calls X hX w,fun w=>?_⟩
 have h:=root_calls (vz (zf X*zf X*zf X+zf X)) (vz_nonneg _) w
 rw[zf_vz]at h
 exact h
theorem out_none:outV none=.tuple #[.agg #[.int .u64 0,.int .u64 0,.bool false],.int .i64 100]:=rfl
theorem out_some(X:Int) (h0:0≤X) (h:X<2147482867) (y:F):outV (some (some (zf X,y)))=.tuple #[.agg #[.int .u64 X,.int .u64 (vz y),.bool false],.int .i64 0]:=by
 show Value.tuple #[.agg #[.int .u64 (vz (zf X)),.int .u64 (vz y),.bool false],.int .i64 0]=_
 rw[vz_zf,Int.emod_eq_of_lt h0 h]
theorem from5_calls(t a b c d:UInt8) (w:World):Calls Tryz.prog 126 #[.string ⟨#[t,a,b,c,d]⟩] w (Ret w (outV (from5 t a b c d))):=by
 have hF:=five_of t a b c d
 have ha:(0:Int)≤a.toNat∧(a.toNat:Int)<256:=by have:=a.toNat_lt;omega
 have hb:(0:Int)≤b.toNat∧(b.toNat:Int)<256:=by have:=b.toNat_lt;omega
 have hc:(0:Int)≤c.toNat∧(c.toNat:Int)<256:=by have:=c.toNat_lt;omega
 have hd:(0:Int)≤d.toNat∧(d.toNat:Int)<256:=by have:=d.toNat_lt;omega
 obtain⟨x0,x1⟩:=wordU_bd a b c d
 obtain⟨hs,hr⟩:=side_root _ x0
 have hroot:=rootS_cases (zf (wordU a b c d)*zf (wordU a b c d)*zf (wordU a b c d)+zf (wordU a b c d))
 change ((rootAt (wordU a b c d)).2=false∧(rootAt (wordU a b c d)).1=0)∨((rootAt (wordU a b c d)).2=true∧_∧vz (rootAt (wordU a b c d)).1 % 2=0) at hroot
 by_cases t0:t=0
 ·subst t0
  by_cases hx:wordU a b c d=0
  ·rw[show from5 0 a b c d=some none from by unfold from5;rw[if_pos rfl,if_pos hx]]
   exact from_0 _ _ _ _ _ hF ha hb hc hd (beq_iff_eq.2 hx) w
  ·rw[show from5 0 a b c d=none from by unfold from5;rw[if_pos rfl,if_neg hx]]
   rcases hroot with ⟨h1,h2⟩|⟨h1,_,h2⟩
   ·rw[h1]at hr
    exact from_0_false _ _ _ _ _ hF ha hb hc hd _ _ hs hr (beq_eq_false_iff_ne.2 hx) (by rw[h2];rfl) w
   ·rw[h1]at hr
    exact from_0_true _ _ _ _ _ hF ha hb hc hd _ _ hs hr (beq_eq_false_iff_ne.2 hx) h2 w
 by_cases t2:t=2
 ·subst t2
  rcases hroot with ⟨h1,h2⟩|⟨h1,_,h2⟩
  ·rw[show from5 2 a b c d=none from by unfold from5;rw[if_neg (by decide),if_pos rfl,if_neg (by rw[h1];rintro⟨_,h,_⟩;cases h)]]
   rw[h1]at hr
   exact from_2_no _ _ _ _ _ hF ha hb hc hd _ _ hs hr w
  ·rw[h1]at hr
   have hg:=in_of (wordU a b c d) (vz (rootAt (wordU a b c d)).1) false x0 (vz_nonneg _)
   by_cases hx:wordU a b c d<2147482867
   ·rw[inR_lt x0 hx]at hg
    cases hi:inG (some (zf (wordU a b c d),(rootAt (wordU a b c d)).1))
    ·rw[hi]at hg
     rw[show from5 2 a b c d=none from by unfold from5;rw[if_neg (by decide),if_pos rfl,if_neg (by rw[hi];rintro⟨_,_,h⟩;cases h)]]
     exact from_2_out _ _ _ _ _ hF ha hb hc hd _ _ hs hr h2 hg w
    ·rw[hi]at hg
     rw[show from5 2 a b c d=some (some (zf (wordU a b c d),(rootAt (wordU a b c d)).1)) from by unfold from5;rw[if_neg (by decide),if_pos rfl,if_pos ⟨hx,h1,hi⟩],out_some _ x0 hx]
     exact from_2 _ _ _ _ _ hF ha hb hc hd _ _ hs hr h2 hg w
   ·rw[inR_ge hx]at hg
    rw[show from5 2 a b c d=none from by unfold from5;rw[if_neg (by decide),if_pos rfl,if_neg (fun h=>hx h.1)]]
    exact from_2_out _ _ _ _ _ hF ha hb hc hd _ _ hs hr h2 hg w
 by_cases t3:t=3
 ·subst t3
  have hm:=minus_u64 (wordU a b c d) x0 (rootAt (wordU a b c d)).1
  rcases hroot with ⟨h1,h2⟩|⟨h1,_,h2⟩
  ·rw[show from5 3 a b c d=none from by unfold from5;rw[if_neg (by decide),if_neg (by decide),if_pos rfl,if_neg (by rw[h1];rintro⟨_,h,_⟩;cases h)]]
   rw[h1]at hr
   exact from_3_no _ _ _ _ _ hF ha hb hc hd _ _ hs hr _ hm w
  ·rw[h1]at hr
   by_cases hy:(rootAt (wordU a b c d)).1=0
   ·rw[show from5 3 a b c d=none from by unfold from5;rw[if_neg (by decide),if_neg (by decide),if_pos rfl,if_neg (fun h=>h.2.2.1 hy)]]
    exact from_3_zero _ _ _ _ _ hF ha hb hc hd _ _ hs hr _ hm (by rw[hy,neg_0];rfl) w
   ·have hg:=in_of (wordU a b c d) (vz (-(rootAt (wordU a b c d)).1)) false x0 (vz_nonneg _)
    by_cases hx:wordU a b c d<2147482867
    ·rw[inR_lt x0 hx]at hg
     cases hi:inG (some (zf (wordU a b c d),-(rootAt (wordU a b c d)).1))
     ·rw[hi]at hg
      rw[show from5 3 a b c d=none from by unfold from5;rw[if_neg (by decide),if_neg (by decide),if_pos rfl,if_neg (by rw[hi];rintro⟨_,_,_,h⟩;cases h)]]
      exact from_3_out _ _ _ _ _ hF ha hb hc hd _ _ hs hr _ hm (vz_odd hy h2) hg w
     ·rw[hi]at hg
      rw[show from5 3 a b c d=some (some (zf (wordU a b c d),-(rootAt (wordU a b c d)).1)) from by unfold from5;rw[if_neg (by decide),if_neg (by decide),if_pos rfl,if_pos ⟨hx,h1,hy,hi⟩],out_some _ x0 hx]
      exact from_3 _ _ _ _ _ hF ha hb hc hd _ _ hs hr _ hm (vz_odd hy h2) hg w
    ·rw[inR_ge hx]at hg
     rw[show from5 3 a b c d=none from by unfold from5;rw[if_neg (by decide),if_neg (by decide),if_pos rfl,if_neg (fun h=>hx h.1)]]
     exact from_3_out _ _ _ _ _ hF ha hb hc hd _ _ hs hr _ hm (vz_odd hy h2) hg w
 ·rw[show from5 t a b c d=none from by unfold from5;rw[if_neg t0,if_neg t2,if_neg t3]]
  by_cases t1:t=1
  ·subst t1
   exact from_t1 _ hF.1 hF.2.1 w
  ·have h4:3<t.toNat:=by
    have h0:t.toNat≠0:=fun h=>t0 (UInt8.toNat_inj.1 h)
    have h1:t.toNat≠1:=fun h=>t1 (UInt8.toNat_inj.1 h)
    have h2:t.toNat≠2:=fun h=>t2 (UInt8.toNat_inj.1 h)
    have h3:t.toNat≠3:=fun h=>t3 (UInt8.toNat_inj.1 h)
    omega
   exact from_gt _ t.toNat hF.1 hF.2.1 (beq_eq_false_iff_ne.2 (by omega)) (decide_eq_true (by omega)) w
theorem wordU_zero{a b c d:UInt8} (h:wordU a b c d=0):a=0∧b=0∧c=0∧d=0:=by
 unfold wordU word4 at h
 exact⟨UInt8.toNat_inj.1 (by show a.toNat=0;omega),UInt8.toNat_inj.1 (by show b.toNat=0;omega),UInt8.toNat_inj.1 (by show c.toNat=0;omega),UInt8.toNat_inj.1 (by show d.toNat=0;omega)⟩
theorem list5(l:List UInt8) (h:l.length=5):∃ t a b c d,l=[t,a,b,c,d]:=by
 match l,h with
 | [t,a,b,c,d],_=>exact⟨t,a,b,c,d,rfl⟩
theorem fromL_none(l:List UInt8) (h:l.length≠5):fromL l=none:=by
 unfold fromL
 split
 ·exact absurd rfl h
 ·rfl
theorem ofList(s:ByteArray):s=⟨s.data.toList.toArray⟩:=by simp
theorem from_of(s:ByteArray) (w:World):Calls Tryz.prog 126 #[.string s] w (Ret w (outV (fromL s.data.toList))):=by
 by_cases h:s.data.toList.length=5
 ·obtain⟨t,a,b,c,d,e⟩:=list5 _ h
  rw[ofList s,e]
  exact from5_calls t a b c d w
 ·rw[fromL_none _ h]
  exact from_len s (bne_iff_ne.2 (by have:s.data.toList.length=s.size:=Array.length_toList;omega)) w
end
section
open Go.RowKit Go.Phx Go.Shelf
theorem rootS_sq(y:F):(rootS (y*y)).2=true:=by
 have h:=root_of_sq y
 by_cases h2:vz (pw (y*y) 536870717) % 2=1
 ·rw[root_odd _ h h2]
 ·rw[root_even _ h h2]
theorem neg_neg'(y:F) : - -y=y:=by grind -lia -linarith
theorem rootS_is{y q:F} (h:y*y=q):(rootS q).2=true∧((vz y % 2=0→(rootS q).1=y)∧(vz y % 2=1→(rootS q).1≠0 ∧ -(rootS q).1=y)):=by
 subst h
 have h1:=rootS_sq y
 refine⟨h1,?_⟩
 rcases rootS_cases (y*y) with ⟨h2,_⟩|⟨_,h3,h4⟩
 ·rw[h1]at h2
  cases h2
 ·generalize(rootS (y*y)).1=r at h3 h4 ⊢
  rcases sq_eq h3 with e|e
  ·subst e
   exact⟨fun _=>rfl,fun h=>by omega⟩
  ·by_cases hr:r=0
   ·subst hr
    have e':y=0:=by rw[←neg_neg' y,←e];exact neg_0
    subst e'
    exact⟨fun _=>rfl,fun h=>by omega⟩
   ·have hy:y = -r:=by rw[e,neg_neg']
    have:=vz_odd hr h4
    rw[←hy]at this
    exact⟨fun h=>by omega,fun _=>⟨hr,hy.symm⟩⟩
theorem byteN(n k:Nat):(UInt8.ofNat (n / k)).toNat=n / k % 256:=by simp
theorem byteN1(n:Nat):(UInt8.ofNat n).toNat=n % 256:=by simp
theorem wordU_bytes(n:Nat) (h:n<4294967296):wordU (UInt8.ofNat (n / 16777216)) (UInt8.ofNat (n / 65536)) (UInt8.ofNat (n / 256)) (UInt8.ofNat n)=n:=by
 unfold wordU word4
 rw[byteN,byteN,byteN,byteN1]
 omega
theorem back_point{p:E} (h:inG p=true):fromL (bytesE p)=some p:=by
 rcases p with _|⟨x,y⟩
 ·show from5 0 0 0 0 0=some none
  unfold from5
  rw[show wordU 0 0 0 0=0 from rfl]
  rfl
 ·show from5 (UInt8.ofNat (2+y.val % 2)) (UInt8.ofNat (x.val / 16777216)) (UInt8.ofNat (x.val / 65536)) (UInt8.ofNat (x.val / 256)) (UInt8.ofNat x.val)=_
  have hb:=vz_lt x
  have hx:wordU (UInt8.ofNat (x.val / 16777216)) (UInt8.ofNat (x.val / 65536)) (UInt8.ofNat (x.val / 256)) (UInt8.ofNat x.val)=vz x:=wordU_bytes _ (by unfold vz at hb;omega)
  have hon:=(onE_some x y).1 (inG_on h)
  obtain⟨h1,h2,h3⟩:=rootS_is hon
  have hr:rootAt (vz x)=rootS (x*x*x+x):=by unfold rootAt;rw[zf_vz]
  rcases Nat.mod_two_eq_zero_or_one y.val with hy|hy
  ·rw[hy]
   show from5 2 _ _ _ _=_
   have e:=h2 (by unfold vz;omega)
   unfold from5
   rw[if_neg (by decide),if_pos rfl,hx,hr,zf_vz,e,if_pos ⟨hb,h1,h⟩]
  ·rw[hy]
   show from5 3 _ _ _ _=_
   obtain⟨e1,e2⟩:=h3 (by unfold vz;omega)
   unfold from5
   rw[if_neg (by decide),if_neg (by decide),if_pos rfl,hx,hr,zf_vz,e2,if_pos ⟨hb,h1,e1,h⟩]
theorem bytes_word{a b c d:UInt8} (h:wordU a b c d<2147482867) :
  UInt8.ofNat ((zf (wordU a b c d)).val / 16777216)=a∧UInt8.ofNat ((zf (wordU a b c d)).val / 65536)=b∧UInt8.ofNat ((zf (wordU a b c d)).val / 256)=c∧UInt8.ofNat (zf (wordU a b c d)).val=d:=by
 have h0:=(wordU_bd a b c d).1
 have e:vz (zf (wordU a b c d))=wordU a b c d:=by rw[vz_zf,Int.emod_eq_of_lt h0 h]
 generalize(zf (wordU a b c d))=x at e ⊢
 have:=a.toNat_lt
 have:=b.toNat_lt
 have:=c.toNat_lt
 have:=d.toNat_lt
 unfold vz wordU word4 at e
 refine⟨UInt8.toNat_inj.1 ?_,UInt8.toNat_inj.1 ?_,UInt8.toNat_inj.1 ?_,UInt8.toNat_inj.1 ?_⟩
 ·rw[byteN];omega
 ·rw[byteN];omega
 ·rw[byteN];omega
 ·rw[byteN1];omega
theorem back_bytes{l:List UInt8}{p:E} (h:fromL l=some p):inG p=true∧bytesE p=l:=by
 unfold fromL at h
 split at h
 ·rename_i t a b c d
  have hroot:=rootS_cases (zf (wordU a b c d)*zf (wordU a b c d)*zf (wordU a b c d)+zf (wordU a b c d))
  change ((rootAt (wordU a b c d)).2=false∧(rootAt (wordU a b c d)).1=0)∨((rootAt (wordU a b c d)).2=true∧_∧vz (rootAt (wordU a b c d)).1 % 2=0) at hroot
  unfold from5 at h
  by_cases t0:t=0
  ·rw[if_pos t0]at h
   split at h
   ·rename_i hx
    obtain⟨rfl,rfl,rfl,rfl⟩:=wordU_zero hx
    subst t0
    injection h with h
    subst h
    exact⟨inG_none,rfl⟩
   ·cases h
  ·rw[if_neg t0]at h
   by_cases t2:t=2
   ·rw[if_pos t2]at h
    subst t2
    split at h
    ·rename_i hc
     obtain⟨hx,h1,hi⟩:=hc
     injection h with h
     subst h
     refine⟨hi,?_⟩
     obtain⟨e1,e2,e3,e4⟩:=bytes_word hx
     have hev:(rootAt (wordU a b c d)).1.val % 2=0:=by
      rcases hroot with ⟨h2,_⟩|⟨_,_,h2⟩
      ·rw[h1]at h2;cases h2
      ·unfold vz at h2;omega
     show [UInt8.ofNat (2+(rootAt (wordU a b c d)).1.val % 2),_,_,_,_]=_
     rw[e1,e2,e3,e4,hev]
     rfl
    ·cases h
   ·rw[if_neg t2]at h
    by_cases t3:t=3
    ·rw[if_pos t3]at h
     subst t3
     split at h
     ·rename_i hc
      obtain⟨hx,h1,hy,hi⟩:=hc
      injection h with h
      subst h
      refine⟨hi,?_⟩
      obtain⟨e1,e2,e3,e4⟩:=bytes_word hx
      have hev:(-(rootAt (wordU a b c d)).1).val % 2=1:=by
       rcases hroot with ⟨h2,_⟩|⟨_,_,h2⟩
       ·rw[h1]at h2;cases h2
       ·have:=vz_odd hy h2
        unfold vz at this;omega
      show [UInt8.ofNat (2+(-(rootAt (wordU a b c d)).1).val % 2),_,_,_,_]=_
      rw[e1,e2,e3,e4,hev]
      rfl
     ·cases h
    ·rw[if_neg t3]at h
     cases h
 ·cases h
theorem bytesE_len(p:E):(bytesE p).length=5:=by
 rcases p with _|⟨x,y⟩ <;> rfl
end
end Go.Proofs.YtobgigcdpiikaaaGreatDoor
