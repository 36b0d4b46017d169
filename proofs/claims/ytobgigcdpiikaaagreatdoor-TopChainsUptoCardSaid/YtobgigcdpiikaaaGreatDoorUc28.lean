/- Plain laws and walks, each by its own conditions. -/
import Derived.Test.YtobgigcdpiikaaaGreatDoorUc23
set_option linter.unusedSimpArgs false
set_option linter.unusedVariables false
set_option maxRecDepth 100000
set_option maxHeartbeats 16000000
namespace Go.Proofs.YtobgigcdpiikaaaGreatDoor
section
open BigFrame Go.RowKit Go.Phx Go.Shelf
attribute [local go_sem] Oper.semAt_some
structure Mk where
 many:Int
 few:Int
 next:Int
 final:Int
 own:Int
 all:Int
def mkA(m:Mk):Array Value := #[.int .i64 m.many,.int .i64 m.few,.int .i64 m.next,.int .i64 m.final,.int .i64 m.own,.int .i64 m.all]
abbrev mkV(m:Mk):Value:=.agg (mkA m)
def Mk.zero:Mk:=⟨0,0,0,0,0,0⟩
def marksM(u:Up):Mk:=⟨numB (twoP u),if twoP u then 0 else(onesP u.bits:Int),numB (ownNextP u),numB (isFinalP u),numB (ownFinP u),(onesP u.bits:Int)⟩
theorem sizeMk:(Tryz.prog.info? 129).map (·.size)=some 6:=by kernel_rfl
theorem stMk{W:World}{b:Nat}{cs:Array Value} (h:Blk W b 129 cs) (hc:cs.size=6) (v:Mk):(Instr.storeAt 129 (.pointer (some ⟨b,0,none⟩)) (mkV v)).run Tryz.prog W=.ok () (setRow W b 129 (mkA v)):=by
 have:=run_store_part h [] cs.toList [] (by simp) rfl (mkA v) (by simpa[mkA] using hc.symm) sizeMk (by simp[mkA,Value.oneCell'])
 rw[List.append_nil]at this
 exact this
theorem stMk2{W:World}{b:Nat} (m:Mk) (h:Blk W b 129 (mkA m)) (v:Mk):(Instr.storeAt 129 (.pointer (some ⟨b,0,none⟩)) (mkV v)).run Tryz.prog W=.ok () (setRow W b 129 (mkA v)):=stMk h rfl v
theorem ldMk{W:World}{b:Nat} (m:Mk) (h:Blk W b 129 (mkA m)):(Instr.loadAt 129 (.pointer (some ⟨b,0,none⟩))).run Tryz.prog W=.ok (mkV m) W :=
 run_load_part h [] (mkA m).toList [] (by simp) rfl Tryz.underlying129 rfl sizeMk
section
variable {W:World}{b:Nat} (m:Mk) (h:Blk W b 129 (mkA m)) (v:Int)
include h
theorem stcMk_few:(Instr.storeAt 3 (.pointer (some ⟨b,1,none⟩)) (.int .i64 v)).run Tryz.prog W=.ok () (setRow W b 129 (mkA { m with few:=v })):=by
 rw[←show W.setCell ⟨b,1,none⟩ (.int .i64 v)=setRow W b 129 (mkA { m with few:=v }) from set_row h _ _]
 exact run_store_cell h U U (.inl ⟨_,_,rfl⟩)
theorem stcMk_next:(Instr.storeAt 3 (.pointer (some ⟨b,2,none⟩)) (.int .i64 v)).run Tryz.prog W=.ok () (setRow W b 129 (mkA { m with next:=v })):=by
 rw[←show W.setCell ⟨b,2,none⟩ (.int .i64 v)=setRow W b 129 (mkA { m with next:=v }) from set_row h _ _]
 exact run_store_cell h U U (.inl ⟨_,_,rfl⟩)
theorem stcMk_final:(Instr.storeAt 3 (.pointer (some ⟨b,3,none⟩)) (.int .i64 v)).run Tryz.prog W=.ok () (setRow W b 129 (mkA { m with final:=v })):=by
 rw[←show W.setCell ⟨b,3,none⟩ (.int .i64 v)=setRow W b 129 (mkA { m with final:=v }) from set_row h _ _]
 exact run_store_cell h U U (.inl ⟨_,_,rfl⟩)
theorem stcMk_own:(Instr.storeAt 3 (.pointer (some ⟨b,4,none⟩)) (.int .i64 v)).run Tryz.prog W=.ok () (setRow W b 129 (mkA { m with own:=v })):=by
 rw[←show W.setCell ⟨b,4,none⟩ (.int .i64 v)=setRow W b 129 (mkA { m with own:=v }) from set_row h _ _]
 exact run_store_cell h U U (.inl ⟨_,_,rfl⟩)
end
def MrW(w:World) (g b:Nat) (u:Up) (m:Mk) (wx:World):Prop:=Blk wx g 37 (upA u)∧Blk wx (g+1) 129 (mkA Mk.zero)∧Blk wx b 129 (mkA m)∧g+1<b∧Below w.heap.size w wx
theorem marked_calls(u:Up) (h1:u.seen.b.slot<18446744073709551616) (h2:u.slot<18446744073709551616) (h3:u.fin.b.slot<18446744073709551616) (w:World):Calls Tryz.prog 72 #[upV u] w (Ret w (mkV (marksM u))):=by
 have n1:=fun W=>two_calls u W
 have n2:=fun W=>signers_calls u W
 have n3:=fun W=>hasNext_calls u W
 have n4:=fun W=>isFinal_calls u W
 have n5:=fun W=>period_q u.seen.b.slot h1 W
 have n6:=fun W=>period_q u.slot h2 W
 have n7:=fun W=>period_q u.fin.b.slot h3 W
 have n8:∀ (b:Bool) (W:World),Calls Tryz.prog 116 #[.bool b] W (fun e w'=>e=.returned (.int .i64 (numB b))∧W=w'):=fun b W=>(number_of b W).mono fun _ _ h=>⟨h.1,h.2.symm⟩
 have hM:marksM u=⟨numB (twoP u),if twoP u then 0 else(onesP u.bits:Int),numB (hasNextP u && decide (period u.seen.b.slot=period u.slot)),numB (isFinalP u),numB (isFinalP u && decide (period u.fin.b.slot=period u.seen.b.slot)),(onesP u.bits:Int)⟩:=rfl
 generalize marksM u=M at *
 generalize twoP u=r1 at *
 generalize onesP u.bits=k at *
 generalize hasNextP u=r3 at *
 generalize isFinalP u=r4 at *
 generalize period u.seen.b.slot=ps at *
 generalize period u.slot=pu at *
 generalize period u.fin.b.slot=pf at *
 have e1:((ps:Int) == (pu:Int))=decide (ps=pu):=by rw[Bool.eq_iff_iff];simp;omega
 have e2:((pf:Int) == (ps:Int))=decide (pf=ps):=by rw[Bool.eq_iff_iff];simp;omega
 generalize decide (ps=pu)=b1 at *
 generalize decide (pf=ps)=b2 at *
 obtain⟨kI,hkI⟩:∃ kI:Int,(k:Int)=kI:=⟨_,rfl⟩
 rw[hkI]at n2 hM
 clear hkI
 replace hM:=Z hM
 replace n1:=Z n1
 replace n2:=Z n2
 replace n3:=Z n3
 replace n4:=Z n4
 replace n5:=Z n5
 replace n6:=Z n6
 replace n7:=Z n7
 replace n8:=Z n8
 go_enter Tryz.func72, Tryz.ntmps72
 go_upto_region 1 with fail
 have HB:Below w.heap.size w ((w.alloc (.cells (upA u) 37)).alloc (.cells (mkA Mk.zero) 129)):=bel
 have K0:=(Blk.new0 w 37 (upA u)).alloc (.cells (mkA Mk.zero) 129)
 have K1:=Blk.new1 w (.cells (upA u) 37) 129 (mkA Mk.zero)
 obtain⟨W,hW⟩:∃ W,((w.alloc (.cells (upA u) 37)).alloc (.cells (mkA Mk.zero) 129))=W:=⟨_,rfl⟩
 replace hW:(w.alloc (.cells (upA u) 37)).alloc (.cells #[.int .i64 0,.int .i64 0,.int .i64 0,.int .i64 0,.int .i64 0,.int .i64 0] 129)=W:=hW
 rw[hW]
 replace HB:Below w.heap.size w W:=by rw[←hW];exact HB
 replace K0:Blk W w.heap.size 37 (upA u):=by rw[←hW];exact K0
 replace K1:Blk W (w.heap.size+1) 129 (mkA Mk.zero):=by rw[←hW];exact K1
 clear hW
 have hgl:w.heap.size≤w.heap.size:=Nat.le_refl _
 obtain⟨g,hg⟩:∃ g,w.heap.size=g:=⟨_,rfl⟩
 rw[hg]at K0 K1 ⊢
 replace hgl:w.heap.size≤g:=by omega
 replace K0:=Z K0
 replace K1:=Z K1
 clear hg
 (obtain⟨k0,f0,l0,m0⟩:=rl_ K0;obtain⟨k1,f1,l1,m1⟩:=rl_ K1)
 go_cut [3] (fun s3 wx=>∃ b,s3=.pointer (some ⟨b,0,none⟩)∧MrW w g b u ⟨numB r1,0,0,0,0,kI⟩ wx)
 case first =>
  have hwf:∀ f,Fence.wide.fn f:=fun _=>trivial
  refine(wpIn_wide (n:=9)).1 ?_
  refine wpIn_round_held (fun w'=>Below W.heap.size W w') (fun j=>true) U ?_
  have hS0:(fun w'=>Below W.heap.size W w') W.drew:=(Below.refl _ _).drew
  refine S_tk 0 (upV (u)) rfl hS0 (fun w' hw=>exec_load rfl U (ldUp (u) (K0.out.below hw))) ?_
  refine S_tk 3 (upV (u)) rfl hS0 (fun w' hw=>exec_load rfl U (ldUp (u) (K0.out.below hw))) ?_
  refine S_list [1,6] U (by decide) ⟨?_,?_,trivial⟩
  ·show wpOpIn _ _ _ _ _ 1 _ _ _
   refine op_call (nd:=fun j=>true) (S:=fun w'=>Below W.heap.size W w') (i:=1) rfl (fun K hK=>?_)
   go_simp
   gi_wp2_with(gi_at_call 39; refine(callsIn_wide.2 (n1.out _)).mono ?_;rintro e Wh1 ⟨rfl,hN⟩)
   replace hS0:=hS0.trans (hN.mono hS0.size)
   clear hN
   refine⟨(fun _=>hS0),?_⟩
   refine S_list [2,6] U (by decide) ⟨?_,?_,trivial⟩
   ·show wpOpIn _ _ _ _ _ 2 _ _ _
    refine op_call (nd:=fun j=>true) (S:=fun w'=>Below W.heap.size W w') (i:=2) rfl (fun K hK=>?_)
    go_simp
    gi_wp2_with(gi_at_call 116; refine(callsIn_wide.2 (n8.out r1 _)).mono ?_;rintro e Wh2 ⟨rfl,hN⟩;obtain rfl:Wh1=Wh2:=(by first|exact hN|exact hN.symm))
    refine⟨(fun _=>hS0),?_⟩
    refine S_list [4,6] U (by decide) ⟨?_,?_,trivial⟩
    ·show wpOpIn _ _ _ _ _ 4 _ _ _
     refine op_call (nd:=fun j=>true) (S:=fun w'=>Below W.heap.size W w') (i:=4) rfl (fun K hK=>?_)
     go_simp
     gi_wp2_with(gi_at_call 38; refine(callsIn_wide.2 (n2.out _)).mono ?_;rintro e Wh3 ⟨rfl,hN⟩)
     replace hS0:=hS0.trans (hN.mono hS0.size)
     clear hN
     refine⟨(fun _=>hS0),?_⟩
     refine S_tk 5 (mkV ⟨numB r1,0,0,0,0,kI⟩) rfl hS0 (fun w' hw=>by go_simp;rfl) ?_
     obtain⟨x3n4,hbx⟩:∃ x,Wh3.heap.size=x:=⟨_,rfl⟩
     have hbx2:=hbx
     (try simp[go_sem]at hbx2)
     have hb3:W.heap.size≤x3n4:=by rw[←hbx];exact hS0.size
     have KA3:=Blk.new0 Wh3 129 (mkA Mk.zero)
     rw[hbx]at KA3
     replace KA3:=Z KA3
     replace hS0:Below _ _ (Wh3.alloc (.cells (mkA Mk.zero) 129)):=hS0.alloc hS0.size _
     refine S_go 6 (fun _=>trivial) U U rfl U (.pointer (some ⟨x3n4,0,none⟩)) (Wh3.alloc (.cells (mkA Mk.zero) 129)) (by first|(go_simp;done)|(go_simp;rfl)|(go_simp;exact⟨hbx2,rfl⟩)) (fun _=>hS0) ?_
     clear hbx hbx2
     have hS1:(fun w'=>Below W.heap.size W w') (setRow (Wh3.alloc (.cells (mkA Mk.zero) 129)) (x3n4) 129 (mkA ⟨numB r1,0,0,0,0,kI⟩)):=Below.row hS0 hb3 hS0.size
     refine S_store 7 (fun _=>trivial) U U rfl U (setRow (Wh3.alloc (.cells (mkA Mk.zero) 129)) (x3n4) 129 (mkA ⟨numB r1,0,0,0,0,kI⟩)) (exec_store _ _ rfl U U (stMk KA3.out rfl ⟨numB r1,0,0,0,0,kI⟩)) (fun _=>hS1) ?_
     clear hS0
     have hS0:=hS1
     clear hS1
     replace KA3:=Z (Blk.row (t := 129) (cs:=mkA ⟨numB r1,0,0,0,0,kI⟩) KA3.out.lt)
     refine⟨by kernel_rfl,rfl,?_⟩
     go_wp2_with fail
     go_meet
     case rel=>exact⟨_,rfl,K0.out.below hS0,K1.out.below hS0,KA3.out,Nat.lt_of_lt_of_le l1 hb3,Below.on hS0 HB⟩
    ·show wpOpIn _ _ _ _ _ 6 _ _ _
     obtain⟨x3n5,hbx⟩:∃ x,Wh1.heap.size=x:=⟨_,rfl⟩
     have hbx2:=hbx
     (try simp[go_sem]at hbx2)
     have hb3:W.heap.size≤x3n5:=by rw[←hbx];exact hS0.size
     have KA3:=Blk.new0 Wh1 129 (mkA Mk.zero)
     rw[hbx]at KA3
     replace KA3:=Z KA3
     replace hS0:Below _ _ (Wh1.alloc (.cells (mkA Mk.zero) 129)):=hS0.alloc hS0.size _
     refine op_go (nd:=fun j=>true) (S:=fun w'=>Below W.heap.size W w') (i:=6) (fun _=>trivial) U rfl U (.pointer (some ⟨x3n5,0,none⟩)) (Wh1.alloc (.cells (mkA Mk.zero) 129)) (by first|(go_simp;done)|(go_simp;rfl)|(go_simp;exact⟨hbx2,rfl⟩)) (fun _=>hS0) ?_
     clear hbx hbx2
     refine S_one 4 U rfl (fun K hK=>?_)
     go_simp
     gi_wp2_with(gi_at_call 38; refine(callsIn_wide.2 (n2.out _)).mono ?_;rintro e Wh6 ⟨rfl,hN⟩)
     replace KA3:=hn_ KA3 hN
     replace hS0:=hS0.trans (hN.mono hS0.size)
     clear hN
     refine⟨(fun _=>hS0),?_⟩
     refine S_tk 5 (mkV ⟨numB r1,0,0,0,0,kI⟩) rfl hS0 (fun w' hw=>by go_simp;rfl) ?_
     have hS1:(fun w'=>Below W.heap.size W w') (setRow Wh6 (x3n5) 129 (mkA ⟨numB r1,0,0,0,0,kI⟩)):=Below.row hS0 hb3 hS0.size
     refine S_store 7 (fun _=>trivial) U U rfl U (setRow Wh6 (x3n5) 129 (mkA ⟨numB r1,0,0,0,0,kI⟩)) (exec_store _ _ rfl U U (stMk KA3.out rfl ⟨numB r1,0,0,0,0,kI⟩)) (fun _=>hS1) ?_
     clear hS0
     have hS0:=hS1
     clear hS1
     replace KA3:=Z (Blk.row (t := 129) (cs:=mkA ⟨numB r1,0,0,0,0,kI⟩) KA3.out.lt)
     refine⟨by kernel_rfl,rfl,?_⟩
     go_wp2_with fail
     go_meet
     case rel=>exact⟨_,rfl,K0.out.below hS0,K1.out.below hS0,KA3.out,Nat.lt_of_lt_of_le l1 hb3,Below.on hS0 HB⟩
   ·show wpOpIn _ _ _ _ _ 6 _ _ _
    obtain⟨x3n7,hbx⟩:∃ x,Wh1.heap.size=x:=⟨_,rfl⟩
    have hbx2:=hbx
    (try simp[go_sem]at hbx2)
    have hb3:W.heap.size≤x3n7:=by rw[←hbx];exact hS0.size
    have KA3:=Blk.new0 Wh1 129 (mkA Mk.zero)
    rw[hbx]at KA3
    replace KA3:=Z KA3
    replace hS0:Below _ _ (Wh1.alloc (.cells (mkA Mk.zero) 129)):=hS0.alloc hS0.size _
    refine op_go (nd:=fun j=>true) (S:=fun w'=>Below W.heap.size W w') (i:=6) (fun _=>trivial) U rfl U (.pointer (some ⟨x3n7,0,none⟩)) (Wh1.alloc (.cells (mkA Mk.zero) 129)) (by first|(go_simp;done)|(go_simp;rfl)|(go_simp;exact⟨hbx2,rfl⟩)) (fun _=>hS0) ?_
    clear hbx hbx2
    refine S_one 2 U rfl (fun K hK=>?_)
    go_simp
    gi_wp2_with(gi_at_call 116; refine(callsIn_wide.2 (n8.out r1 _)).mono ?_;rintro e Wh8 ⟨rfl,hN⟩;obtain rfl:(Wh1.alloc (.cells (mkA Mk.zero) 129))=Wh8:=(by first|exact hN|exact hN.symm))
    refine⟨(fun _=>hS0),?_⟩
    refine S_one 4 U rfl (fun K hK=>?_)
    go_simp
    gi_wp2_with(gi_at_call 38; refine(callsIn_wide.2 (n2.out _)).mono ?_;rintro e Wh9 ⟨rfl,hN⟩)
    replace KA3:=hn_ KA3 hN
    replace hS0:=hS0.trans (hN.mono hS0.size)
    clear hN
    refine⟨(fun _=>hS0),?_⟩
    refine S_tk 5 (mkV ⟨numB r1,0,0,0,0,kI⟩) rfl hS0 (fun w' hw=>by go_simp;rfl) ?_
    have hS1:(fun w'=>Below W.heap.size W w') (setRow Wh9 (x3n7) 129 (mkA ⟨numB r1,0,0,0,0,kI⟩)):=Below.row hS0 hb3 hS0.size
    refine S_store 7 (fun _=>trivial) U U rfl U (setRow Wh9 (x3n7) 129 (mkA ⟨numB r1,0,0,0,0,kI⟩)) (exec_store _ _ rfl U U (stMk KA3.out rfl ⟨numB r1,0,0,0,0,kI⟩)) (fun _=>hS1) ?_
    clear hS0
    have hS0:=hS1
    clear hS1
    replace KA3:=Z (Blk.row (t := 129) (cs:=mkA ⟨numB r1,0,0,0,0,kI⟩) KA3.out.lt)
    refine⟨by kernel_rfl,rfl,?_⟩
    go_wp2_with fail
    go_meet
    case rel=>exact⟨_,rfl,K0.out.below hS0,K1.out.below hS0,KA3.out,Nat.lt_of_lt_of_le l1 hb3,Below.on hS0 HB⟩
  ·show wpOpIn _ _ _ _ _ 6 _ _ _
   obtain⟨x3n10,hbx⟩:∃ x,W.drew.heap.size=x:=⟨_,rfl⟩
   have hbx2:=hbx
   (try simp[go_sem]at hbx2)
   have hb3:W.heap.size≤x3n10:=by rw[←hbx];exact hS0.size
   have KA3:=Blk.new0 W.drew 129 (mkA Mk.zero)
   rw[hbx]at KA3
   replace KA3:=Z KA3
   replace hS0:Below _ _ (W.drew.alloc (.cells (mkA Mk.zero) 129)):=hS0.alloc hS0.size _
   refine op_go (nd:=fun j=>true) (S:=fun w'=>Below W.heap.size W w') (i:=6) (fun _=>trivial) U rfl U (.pointer (some ⟨x3n10,0,none⟩)) (W.drew.alloc (.cells (mkA Mk.zero) 129)) (by first|(go_simp;done)|(go_simp;rfl)|(go_simp;exact⟨hbx2,rfl⟩)) (fun _=>hS0) ?_
   clear hbx hbx2
   refine S_one 1 U rfl (fun K hK=>?_)
   go_simp
   gi_wp2_with(gi_at_call 39; refine(callsIn_wide.2 (n1.out _)).mono ?_;rintro e Wh11 ⟨rfl,hN⟩)
   replace KA3:=hn_ KA3 hN
   replace hS0:=hS0.trans (hN.mono hS0.size)
   clear hN
   refine⟨(fun _=>hS0),?_⟩
   refine S_one 2 U rfl (fun K hK=>?_)
   go_simp
   gi_wp2_with(gi_at_call 116; refine(callsIn_wide.2 (n8.out r1 _)).mono ?_;rintro e Wh12 ⟨rfl,hN⟩;obtain rfl:Wh11=Wh12:=(by first|exact hN|exact hN.symm))
   refine⟨(fun _=>hS0),?_⟩
   refine S_one 4 U rfl (fun K hK=>?_)
   go_simp
   gi_wp2_with(gi_at_call 38; refine(callsIn_wide.2 (n2.out _)).mono ?_;rintro e Wh13 ⟨rfl,hN⟩)
   replace KA3:=hn_ KA3 hN
   replace hS0:=hS0.trans (hN.mono hS0.size)
   clear hN
   refine⟨(fun _=>hS0),?_⟩
   refine S_tk 5 (mkV ⟨numB r1,0,0,0,0,kI⟩) rfl hS0 (fun w' hw=>by go_simp;rfl) ?_
   have hS1:(fun w'=>Below W.heap.size W w') (setRow Wh13 (x3n10) 129 (mkA ⟨numB r1,0,0,0,0,kI⟩)):=Below.row hS0 hb3 hS0.size
   refine S_store 7 (fun _=>trivial) U U rfl U (setRow Wh13 (x3n10) 129 (mkA ⟨numB r1,0,0,0,0,kI⟩)) (exec_store _ _ rfl U U (stMk KA3.out rfl ⟨numB r1,0,0,0,0,kI⟩)) (fun _=>hS1) ?_
   clear hS0
   have hS0:=hS1
   clear hS1
   replace KA3:=Z (Blk.row (t := 129) (cs:=mkA ⟨numB r1,0,0,0,0,kI⟩) KA3.out.lt)
   refine⟨by kernel_rfl,rfl,?_⟩
   go_wp2_with fail
   go_meet
   case rel=>exact⟨_,rfl,K0.out.below hS0,K1.out.below hS0,KA3.out,Nat.lt_of_lt_of_le l1 hb3,Below.on hS0 HB⟩
 case rest =>
  obtain⟨b,rfl,hW⟩:=hcut
  have hgb:=hW.2.2.2.1
  have j0:=Z hW.1
  have j1:=Z hW.2.1
  have j2:=Z hW.2.2.1
  have HBn:=hW.2.2.2.2
  clear hW k0 f0 l0 m0 k1 f1 l1 m1 K0 K1 HB
  have K0:=j0;have K1:=j1;have K2:=j2;have HB:=HBn
  clear j0 j1 j2 HBn
  (obtain⟨k0,f0,l0,m0⟩:=rl_ K0;obtain⟨k1,f1,l1,m1⟩:=rl_ K1;obtain⟨k2,f2,l2,m2⟩:=rl_ K2)
  obtain⟨fw,hfw⟩:∃ fw:Int,(if r1=true then 0 else kI)=fw:=⟨_,rfl⟩
  have hM2:=hM.out
  rw[hfw]at hM2
  replace hM2:=Z hM2
  replace hfw:=Z hfw
  clear hM
  go_wp2_with(first|(with_reducible refine wlr (ldUp _ K0.out) rfl ?_)|(with_reducible refine wlg (ldUp _ K0.out) (by with_unfolding_all rfl) rfl ?_))
  (refine(n1.out _).mono ?_;rintro e w1 ⟨rfl,hN⟩;replace K0:=hn_ K0 hN;replace K1:=hn_ K1 hN;replace K2:=hn_ K2 hN;replace HB:Below w.heap.size w w1:=Below.on hN HB;clear hN k0 f0 l0 m0 k1 f1 l1 m1 k2 f2 l2 m2;obtain⟨k0,f0,l0,m0⟩:=rl_ K0;obtain⟨k1,f1,l1,m1⟩:=rl_ K1;obtain⟨k2,f2,l2,m2⟩:=rl_ K2)
  go_upto_if 12 with fail
  go_cut [] (fun wx=>MrW w g b u ⟨numB r1,fw,0,0,0,kI⟩ wx)
  case first =>
   cases r1 with
   | false =>
    obtain rfl:kI=fw:=by have:=hfw.out;simpa using this
    go_wp2_with(first|(with_reducible refine wlr (ldUp _ K0.out) rfl ?_)|(with_reducible refine wlg (ldUp _ K0.out) (by with_unfolding_all rfl) rfl ?_))
    (refine(n2.out _).mono ?_;rintro e w2 ⟨rfl,hN⟩;replace K0:=hn_ K0 hN;replace K1:=hn_ K1 hN;replace K2:=hn_ K2 hN;replace HB:Below w.heap.size w w2:=Below.on hN HB;clear hN k0 f0 l0 m0 k1 f1 l1 m1 k2 f2 l2 m2;obtain⟨k0,f0,l0,m0⟩:=rl_ K0;obtain⟨k1,f1,l1,m1⟩:=rl_ K1;obtain⟨k2,f2,l2,m2⟩:=rl_ K2)
    (go_wp2_with(first|(with_reducible refine wsh (stcMk_few _ K2.out (kI)) rfl rfl ?_));generalize hWN:setRow _ _ _ _=WN;replace K2:=Z (show Blk WN _ _ _ by rw[←hWN];exact Blk.row K2.out.lt);replace K0:=Z (show Blk WN _ _ _ by rw[←hWN];exact Blk.rowOver (by omega) K0.out);replace K1:=Z (show Blk WN _ _ _ by rw[←hWN];exact Blk.rowOver (by omega) K1.out);replace HB:Below w.heap.size w WN:=(by rw[←hWN];exact Below.row HB (by omega) HB.size);clear hWN k2 f2 l2 m2 k0 f0 l0 m0 k1 f1 l1 m1;obtain⟨k2,f2,l2,m2⟩:=rl_ K2;obtain⟨k0,f0,l0,m0⟩:=rl_ K0;obtain⟨k1,f1,l1,m1⟩:=rl_ K1;unfold Halted)
    go_wp2_with fail
    go_meet
    case rel=>exact⟨K0.out,K1.out,K2.out,hgb,HB⟩
   | true =>
    obtain rfl:0=fw:=by have:=hfw.out;simpa using this
    go_wp2_with fail
    go_meet
    case rel=>exact⟨K0.out,K1.out,K2.out,hgb,HB⟩
  case rest =>
   have hW:=hcut
   have j0:=Z hW.1
   have j1:=Z hW.2.1
   have j2:=Z hW.2.2.1
   have HBn:=hW.2.2.2.2
   clear hW k0 f0 l0 m0 k1 f1 l1 m1 k2 f2 l2 m2 K0 K1 K2 HB
   have K0:=j0;have K1:=j1;have K2:=j2;have HB:=HBn
   clear j0 j1 j2 HBn
   (obtain⟨k0,f0,l0,m0⟩:=rl_ K0;obtain⟨k1,f1,l1,m1⟩:=rl_ K1;obtain⟨k2,f2,l2,m2⟩:=rl_ K2)
   clear n1 n2
   go_upto_region 4 with fail
   go_cut [] (fun wx=>MrW w g b u ⟨numB r1,fw,numB (r3 && b1),0,0,kI⟩ wx)
   case first =>
    obtain⟨W,hWc⟩:∃ W,W=wc:=⟨_,rfl⟩
    subst hWc
    cases r3 with
    | false =>
     have hwf:∀ f,Fence.wide.fn f:=fun _=>trivial
     refine(wpIn_wide (n:=9)).1 ?_
     refine wpIn_round_held (fun w'=>Below W.heap.size W w') (fun j => !decide (j∈[15])) U ?_
     have hS0:(fun w'=>Below W.heap.size W w') W.drew:=(Below.refl _ _).drew
     have KA100:=Z (K0.out.drew)
     have KA101:=Z (K1.out.drew)
     have KA102:=Z (K2.out.drew)
     have HBt:=HB.drew
     refine S_tk 0 (upV (u)) rfl hS0 (fun w' hw=>exec_load rfl U (ldUp (u) (K0.out.below hw))) ?_
     refine S_one 1 U rfl (fun K hK=>?_)
     go_simp
     gi_wp2_with(gi_at_call 34; refine(callsIn_wide.2 (n3.out _)).mono ?_;rintro e Wh1 ⟨rfl,hN⟩)
     replace KA100:=hn_ KA100 hN
     replace KA101:=hn_ KA101 hN
     replace KA102:=hn_ KA102 hN
     replace HBt:=Below.on hN HBt
     replace hS0:=hS0.trans (hN.mono hS0.size)
     clear hN
     refine⟨(fun _=>hS0),?_⟩
     refine S_tg 2 (.bool false) rfl hS0 ?_
     refine S_sk 3 rfl hS0 ?_
     refine S_sk 4 rfl hS0 ?_
     refine S_sk 5 rfl hS0 ?_
     refine S_sk 6 rfl hS0 ?_
     refine S_sk 7 rfl hS0 ?_
     refine S_sk 8 rfl hS0 ?_
     refine S_sk 9 rfl hS0 ?_
     refine S_sk 10 rfl hS0 ?_
     refine S_sk 11 rfl hS0 ?_
     refine S_tg 12 (.bool false) rfl hS0 ?_
     refine S_one 13 U rfl (fun K hK=>?_)
     go_simp
     gi_wp2_with(gi_at_call 116; refine(callsIn_wide.2 (n8.out false _)).mono ?_;rintro e Wh2 ⟨rfl,hN⟩;obtain rfl:Wh1=Wh2:=(by first|exact hN|exact hN.symm))
     refine⟨(fun _=>hS0),?_⟩
     refine S_tg 14 (.pointer (some ⟨b,2,none⟩)) rfl hS0 ?_
     refine S_store 15 (fun _=>trivial) U U rfl U (setRow Wh1 (b) 129 (mkA ⟨numB r1,fw,numB false,0,0,kI⟩)) (exec_store _ _ rfl U U (stcMk_next _ KA102.out (numB false))) (fun h=>absurd h (by decide)) ?_
     replace KA100:=Z (Blk.rowOver (g':=b) (t' := 129) (cs':=mkA ⟨numB r1,fw,numB false,0,0,kI⟩) (by first|assumption|omega) KA100.out)
     replace KA101:=Z (Blk.rowOver (g':=b) (t' := 129) (cs':=mkA ⟨numB r1,fw,numB false,0,0,kI⟩) (by first|assumption|omega) KA101.out)
     replace KA102:=Z (Blk.row (t := 129) (cs:=mkA ⟨numB r1,fw,numB false,0,0,kI⟩) KA102.out.lt)
     replace HBt:=Below.row HBt (g:=b) (t := 129) (cs:=mkA ⟨numB r1,fw,numB false,0,0,kI⟩) (by omega) HBt.size
     refine⟨by kernel_rfl,rfl,?_⟩
     obtain⟨WN,hWN⟩:∃ WN,(setRow Wh1 (b) 129 (mkA ⟨numB r1,fw,numB false,0,0,kI⟩))=WN:=⟨_,rfl⟩
     rw[hWN]at KA100 KA101 KA102 HBt ⊢
     clear hWN hwf hS0 HB
     have HB:=HBt
     clear HBt
     clear K0 k0 f0 l0 m0
     clear K1 k1 f1 l1 m1
     clear K2 k2 f2 l2 m2
     have K0:=KA100
     clear KA100
     have K1:=KA101
     clear KA101
     have K2:=KA102
     clear KA102
     (obtain⟨k0,f0,l0,m0⟩:=rl_ K0;obtain⟨k1,f1,l1,m1⟩:=rl_ K1;obtain⟨k2,f2,l2,m2⟩:=rl_ K2)
     go_wp2_with fail
     go_meet
     case rel=>exact⟨K0.out,K1.out,K2.out,hgb,HB⟩
    | true =>
     have hwf:∀ f,Fence.wide.fn f:=fun _=>trivial
     refine(wpIn_wide (n:=9)).1 ?_
     refine wpIn_round_held (fun w'=>Below W.heap.size W w') (fun j => !decide (j∈[15])) U ?_
     have hS0:(fun w'=>Below W.heap.size W w') W.drew:=(Below.refl _ _).drew
     have KA100:=Z (K0.out.drew)
     have KA101:=Z (K1.out.drew)
     have KA102:=Z (K2.out.drew)
     have HBt:=HB.drew
     refine S_tk 0 (upV (u)) rfl hS0 (fun w' hw=>exec_load rfl U (ldUp (u) (K0.out.below hw))) ?_
     refine S_one 1 U rfl (fun K hK=>?_)
     go_simp
     gi_wp2_with(gi_at_call 34; refine(callsIn_wide.2 (n3.out _)).mono ?_;rintro e Wh1 ⟨rfl,hN⟩)
     replace KA100:=hn_ KA100 hN
     replace KA101:=hn_ KA101 hN
     replace KA102:=hn_ KA102 hN
     replace HBt:=Below.on hN HBt
     replace hS0:=hS0.trans (hN.mono hS0.size)
     clear hN
     refine⟨(fun _=>hS0),?_⟩
     refine S_tg 2 (.bool true) rfl hS0 ?_
     refine S_tg 3 (.pointer (some ⟨g,0,none⟩)) rfl hS0 ?_
     refine S_tg 4 (.pointer (some ⟨g,0,none⟩)) rfl hS0 ?_
     refine S_tg 5 (.pointer (some ⟨g,0,none⟩)) rfl hS0 ?_
     refine S_tk 6 (.int .u64 (u.seen.b.slot:Int)) rfl hS0 (fun w' hw=>exec_load rfl U (run_load_cell (i:=0) (K0.out.below hw) rfl szU64 nrU64)) ?_
     refine S_tg 8 (.pointer (some ⟨g,24,none⟩)) rfl hS0 ?_
     refine S_tk 9 (.int .u64 (u.slot:Int)) rfl hS0 (fun w' hw=>exec_load rfl U (run_load_cell (i:=24) (K0.out.below hw) rfl szU64 nrU64)) ?_
     refine S_one 7 U rfl (fun K hK=>?_)
     go_simp
     gi_wp2_with(gi_at_call 36; refine(callsIn_wide.2 (n5.out _)).mono ?_;rintro e Wh2 ⟨rfl,hN⟩;obtain rfl:Wh1=Wh2:=(by first|exact hN|exact hN.symm))
     refine⟨(fun _=>hS0),?_⟩
     refine S_one 10 U rfl (fun K hK=>?_)
     go_simp
     gi_wp2_with(gi_at_call 36; refine(callsIn_wide.2 (n6.out _)).mono ?_;rintro e Wh3 ⟨rfl,hN⟩;obtain rfl:Wh1=Wh3:=(by first|exact hN|exact hN.symm))
     refine⟨(fun _=>hS0),?_⟩
     refine S_tg 11 (.bool b1) rfl hS0 ?_
     refine S_tg 12 (.bool b1) rfl hS0 ?_
     refine S_one 13 U rfl (fun K hK=>?_)
     go_simp
     gi_wp2_with(gi_at_call 116; refine(callsIn_wide.2 (n8.out b1 _)).mono ?_;rintro e Wh4 ⟨rfl,hN⟩;obtain rfl:Wh1=Wh4:=(by first|exact hN|exact hN.symm))
     refine⟨(fun _=>hS0),?_⟩
     refine S_tg 14 (.pointer (some ⟨b,2,none⟩)) rfl hS0 ?_
     refine S_store 15 (fun _=>trivial) U U rfl U (setRow Wh1 (b) 129 (mkA ⟨numB r1,fw,numB b1,0,0,kI⟩)) (exec_store _ _ rfl U U (stcMk_next _ KA102.out (numB b1))) (fun h=>absurd h (by decide)) ?_
     replace KA100:=Z (Blk.rowOver (g':=b) (t' := 129) (cs':=mkA ⟨numB r1,fw,numB b1,0,0,kI⟩) (by first|assumption|omega) KA100.out)
     replace KA101:=Z (Blk.rowOver (g':=b) (t' := 129) (cs':=mkA ⟨numB r1,fw,numB b1,0,0,kI⟩) (by first|assumption|omega) KA101.out)
     replace KA102:=Z (Blk.row (t := 129) (cs:=mkA ⟨numB r1,fw,numB b1,0,0,kI⟩) KA102.out.lt)
     replace HBt:=Below.row HBt (g:=b) (t := 129) (cs:=mkA ⟨numB r1,fw,numB b1,0,0,kI⟩) (by omega) HBt.size
     refine⟨by kernel_rfl,rfl,?_⟩
     obtain⟨WN,hWN⟩:∃ WN,(setRow Wh1 (b) 129 (mkA ⟨numB r1,fw,numB b1,0,0,kI⟩))=WN:=⟨_,rfl⟩
     rw[hWN]at KA100 KA101 KA102 HBt ⊢
     clear hWN hwf hS0 HB
     have HB:=HBt
     clear HBt
     clear K0 k0 f0 l0 m0
     clear K1 k1 f1 l1 m1
     clear K2 k2 f2 l2 m2
     have K0:=KA100
     clear KA100
     have K1:=KA101
     clear KA101
     have K2:=KA102
     clear KA102
     (obtain⟨k0,f0,l0,m0⟩:=rl_ K0;obtain⟨k1,f1,l1,m1⟩:=rl_ K1;obtain⟨k2,f2,l2,m2⟩:=rl_ K2)
     go_wp2_with fail
     go_meet
     case rel=>exact⟨K0.out,K1.out,K2.out,hgb,HB⟩
   case rest =>
    have hW:=hcut
    have j0:=Z hW.1
    have j1:=Z hW.2.1
    have j2:=Z hW.2.2.1
    have HBn:=hW.2.2.2.2
    clear hW k0 f0 l0 m0 k1 f1 l1 m1 k2 f2 l2 m2 K0 K1 K2 HB
    have K0:=j0;have K1:=j1;have K2:=j2;have HB:=HBn
    clear j0 j1 j2 HBn
    (obtain⟨k0,f0,l0,m0⟩:=rl_ K0;obtain⟨k1,f1,l1,m1⟩:=rl_ K1;obtain⟨k2,f2,l2,m2⟩:=rl_ K2)
    generalize numB (r3 && b1)=nx at *
    go_wp2_with(first|(with_reducible refine wlr (ldUp _ K0.out) rfl ?_)|(with_reducible refine wlg (ldUp _ K0.out) (by with_unfolding_all rfl) rfl ?_))
    (refine(n4.out _).mono ?_;rintro e w4 ⟨rfl,hN⟩;replace K0:=hn_ K0 hN;replace K1:=hn_ K1 hN;replace K2:=hn_ K2 hN;replace HB:Below w.heap.size w w4:=Below.on hN HB;clear hN k0 f0 l0 m0 k1 f1 l1 m1 k2 f2 l2 m2;obtain⟨k0,f0,l0,m0⟩:=rl_ K0;obtain⟨k1,f1,l1,m1⟩:=rl_ K1;obtain⟨k2,f2,l2,m2⟩:=rl_ K2)
    go_wp2_with fail
    refine(n8.out _ _).mono ?_
    rintro e w5 ⟨rfl,rfl⟩
    (go_wp2_with(first|(with_reducible refine wsh (stcMk_final _ K2.out (numB r4)) rfl rfl ?_));generalize hWN:setRow _ _ _ _=WN;replace K2:=Z (show Blk WN _ _ _ by rw[←hWN];exact Blk.row K2.out.lt);replace K0:=Z (show Blk WN _ _ _ by rw[←hWN];exact Blk.rowOver (by omega) K0.out);replace K1:=Z (show Blk WN _ _ _ by rw[←hWN];exact Blk.rowOver (by omega) K1.out);replace HB:Below w.heap.size w WN:=(by rw[←hWN];exact Below.row HB (by omega) HB.size);clear hWN k2 f2 l2 m2 k0 f0 l0 m0 k1 f1 l1 m1;obtain⟨k2,f2,l2,m2⟩:=rl_ K2;obtain⟨k0,f0,l0,m0⟩:=rl_ K0;obtain⟨k1,f1,l1,m1⟩:=rl_ K1;unfold Halted)
    go_upto_region 6 with fail
    go_cut [] (fun wx=>MrW w g b u ⟨numB r1,fw,nx,numB r4,numB (r4 && b2),kI⟩ wx)
    case first =>
     cases r4 with
     | false =>
      have hwf:∀ f,Fence.wide.fn f:=fun _=>trivial
      refine(wpIn_wide (n:=9)).1 ?_
      refine wpIn_round_held (fun w'=>Below WN.heap.size WN w') (fun j => !decide (j∈[17])) U ?_
      have hS0:(fun w'=>Below WN.heap.size WN w') WN.drew:=(Below.refl _ _).drew
      have KA100:=Z (K0.out.drew)
      have KA101:=Z (K1.out.drew)
      have KA102:=Z (K2.out.drew)
      have HBt:=HB.drew
      refine S_tk 0 (upV (u)) rfl hS0 (fun w' hw=>exec_load rfl U (ldUp (u) (K0.out.below hw))) ?_
      refine S_one 1 U rfl (fun K hK=>?_)
      go_simp
      gi_wp2_with(gi_at_call 35; refine(callsIn_wide.2 (n4.out _)).mono ?_;rintro e WNh1 ⟨rfl,hN⟩)
      replace KA100:=hn_ KA100 hN
      replace KA101:=hn_ KA101 hN
      replace KA102:=hn_ KA102 hN
      replace HBt:=Below.on hN HBt
      replace hS0:=hS0.trans (hN.mono hS0.size)
      clear hN
      refine⟨(fun _=>hS0),?_⟩
      refine S_tg 2 (.bool false) rfl hS0 ?_
      refine S_sk 3 rfl hS0 ?_
      refine S_sk 4 rfl hS0 ?_
      refine S_sk 5 rfl hS0 ?_
      refine S_sk 6 rfl hS0 ?_
      refine S_sk 7 rfl hS0 ?_
      refine S_sk 8 rfl hS0 ?_
      refine S_sk 9 rfl hS0 ?_
      refine S_sk 10 rfl hS0 ?_
      refine S_sk 11 rfl hS0 ?_
      refine S_sk 12 rfl hS0 ?_
      refine S_sk 13 rfl hS0 ?_
      refine S_tg 14 (.bool false) rfl hS0 ?_
      refine S_one 15 U rfl (fun K hK=>?_)
      go_simp
      gi_wp2_with(gi_at_call 116; refine(callsIn_wide.2 (n8.out false _)).mono ?_;rintro e WNh2 ⟨rfl,hN⟩;obtain rfl:WNh1=WNh2:=(by first|exact hN|exact hN.symm))
      refine⟨(fun _=>hS0),?_⟩
      refine S_tg 16 (.pointer (some ⟨b,4,none⟩)) rfl hS0 ?_
      refine S_store 17 (fun _=>trivial) U U rfl U (setRow WNh1 (b) 129 (mkA ⟨numB r1,fw,nx,numB false,numB false,kI⟩)) (exec_store _ _ rfl U U (stcMk_own _ KA102.out (numB false))) (fun h=>absurd h (by decide)) ?_
      replace KA100:=Z (Blk.rowOver (g':=b) (t' := 129) (cs':=mkA ⟨numB r1,fw,nx,numB false,numB false,kI⟩) (by first|assumption|omega) KA100.out)
      replace KA101:=Z (Blk.rowOver (g':=b) (t' := 129) (cs':=mkA ⟨numB r1,fw,nx,numB false,numB false,kI⟩) (by first|assumption|omega) KA101.out)
      replace KA102:=Z (Blk.row (t := 129) (cs:=mkA ⟨numB r1,fw,nx,numB false,numB false,kI⟩) KA102.out.lt)
      replace HBt:=Below.row HBt (g:=b) (t := 129) (cs:=mkA ⟨numB r1,fw,nx,numB false,numB false,kI⟩) (by omega) HBt.size
      refine⟨by kernel_rfl,rfl,?_⟩
      obtain⟨WN,hWN⟩:∃ WN,(setRow WNh1 (b) 129 (mkA ⟨numB r1,fw,nx,numB false,numB false,kI⟩))=WN:=⟨_,rfl⟩
      rw[hWN]at KA100 KA101 KA102 HBt ⊢
      clear hWN hwf hS0 HB
      have HB:=HBt
      clear HBt
      clear K0 k0 f0 l0 m0
      clear K1 k1 f1 l1 m1
      clear K2 k2 f2 l2 m2
      have K0:=KA100
      clear KA100
      have K1:=KA101
      clear KA101
      have K2:=KA102
      clear KA102
      (obtain⟨k0,f0,l0,m0⟩:=rl_ K0;obtain⟨k1,f1,l1,m1⟩:=rl_ K1;obtain⟨k2,f2,l2,m2⟩:=rl_ K2)
      go_wp2_with fail
      go_meet
      case rel=>exact⟨K0.out,K1.out,K2.out,hgb,HB⟩
     | true =>
      have hwf:∀ f,Fence.wide.fn f:=fun _=>trivial
      refine(wpIn_wide (n:=9)).1 ?_
      refine wpIn_round_held (fun w'=>Below WN.heap.size WN w') (fun j => !decide (j∈[17])) U ?_
      have hS0:(fun w'=>Below WN.heap.size WN w') WN.drew:=(Below.refl _ _).drew
      have KA100:=Z (K0.out.drew)
      have KA101:=Z (K1.out.drew)
      have KA102:=Z (K2.out.drew)
      have HBt:=HB.drew
      refine S_tk 0 (upV (u)) rfl hS0 (fun w' hw=>exec_load rfl U (ldUp (u) (K0.out.below hw))) ?_
      refine S_one 1 U rfl (fun K hK=>?_)
      go_simp
      gi_wp2_with(gi_at_call 35; refine(callsIn_wide.2 (n4.out _)).mono ?_;rintro e WNh1 ⟨rfl,hN⟩)
      replace KA100:=hn_ KA100 hN
      replace KA101:=hn_ KA101 hN
      replace KA102:=hn_ KA102 hN
      replace HBt:=Below.on hN HBt
      replace hS0:=hS0.trans (hN.mono hS0.size)
      clear hN
      refine⟨(fun _=>hS0),?_⟩
      refine S_tg 2 (.bool true) rfl hS0 ?_
      refine S_tg 3 (.pointer (some ⟨g,12,none⟩)) rfl hS0 ?_
      refine S_tg 4 (.pointer (some ⟨g,12,none⟩)) rfl hS0 ?_
      refine S_tg 5 (.pointer (some ⟨g,12,none⟩)) rfl hS0 ?_
      refine S_tk 6 (.int .u64 (u.fin.b.slot:Int)) rfl hS0 (fun w' hw=>exec_load rfl U (run_load_cell (i:=12) (K0.out.below hw) rfl szU64 nrU64)) ?_
      refine S_tg 8 (.pointer (some ⟨g,0,none⟩)) rfl hS0 ?_
      refine S_tg 9 (.pointer (some ⟨g,0,none⟩)) rfl hS0 ?_
      refine S_tg 10 (.pointer (some ⟨g,0,none⟩)) rfl hS0 ?_
      refine S_tk 11 (.int .u64 (u.seen.b.slot:Int)) rfl hS0 (fun w' hw=>exec_load rfl U (run_load_cell (i:=0) (K0.out.below hw) rfl szU64 nrU64)) ?_
      refine S_one 7 U rfl (fun K hK=>?_)
      go_simp
      gi_wp2_with(gi_at_call 36; refine(callsIn_wide.2 (n7.out _)).mono ?_;rintro e WNh2 ⟨rfl,hN⟩;obtain rfl:WNh1=WNh2:=(by first|exact hN|exact hN.symm))
      refine⟨(fun _=>hS0),?_⟩
      refine S_one 12 U rfl (fun K hK=>?_)
      go_simp
      gi_wp2_with(gi_at_call 36; refine(callsIn_wide.2 (n5.out _)).mono ?_;rintro e WNh3 ⟨rfl,hN⟩;obtain rfl:WNh1=WNh3:=(by first|exact hN|exact hN.symm))
      refine⟨(fun _=>hS0),?_⟩
      refine S_tg 13 (.bool b2) rfl hS0 ?_
      refine S_tg 14 (.bool b2) rfl hS0 ?_
      refine S_one 15 U rfl (fun K hK=>?_)
      go_simp
      gi_wp2_with(gi_at_call 116; refine(callsIn_wide.2 (n8.out b2 _)).mono ?_;rintro e WNh4 ⟨rfl,hN⟩;obtain rfl:WNh1=WNh4:=(by first|exact hN|exact hN.symm))
      refine⟨(fun _=>hS0),?_⟩
      refine S_tg 16 (.pointer (some ⟨b,4,none⟩)) rfl hS0 ?_
      refine S_store 17 (fun _=>trivial) U U rfl U (setRow WNh1 (b) 129 (mkA ⟨numB r1,fw,nx,numB true,numB b2,kI⟩)) (exec_store _ _ rfl U U (stcMk_own _ KA102.out (numB b2))) (fun h=>absurd h (by decide)) ?_
      replace KA100:=Z (Blk.rowOver (g':=b) (t' := 129) (cs':=mkA ⟨numB r1,fw,nx,numB true,numB b2,kI⟩) (by first|assumption|omega) KA100.out)
      replace KA101:=Z (Blk.rowOver (g':=b) (t' := 129) (cs':=mkA ⟨numB r1,fw,nx,numB true,numB b2,kI⟩) (by first|assumption|omega) KA101.out)
      replace KA102:=Z (Blk.row (t := 129) (cs:=mkA ⟨numB r1,fw,nx,numB true,numB b2,kI⟩) KA102.out.lt)
      replace HBt:=Below.row HBt (g:=b) (t := 129) (cs:=mkA ⟨numB r1,fw,nx,numB true,numB b2,kI⟩) (by omega) HBt.size
      refine⟨by kernel_rfl,rfl,?_⟩
      obtain⟨WN,hWN⟩:∃ WN,(setRow WNh1 (b) 129 (mkA ⟨numB r1,fw,nx,numB true,numB b2,kI⟩))=WN:=⟨_,rfl⟩
      rw[hWN]at KA100 KA101 KA102 HBt ⊢
      clear hWN hwf hS0 HB
      have HB:=HBt
      clear HBt
      clear K0 k0 f0 l0 m0
      clear K1 k1 f1 l1 m1
      clear K2 k2 f2 l2 m2
      have K0:=KA100
      clear KA100
      have K1:=KA101
      clear KA101
      have K2:=KA102
      clear KA102
      (obtain⟨k0,f0,l0,m0⟩:=rl_ K0;obtain⟨k1,f1,l1,m1⟩:=rl_ K1;obtain⟨k2,f2,l2,m2⟩:=rl_ K2)
      go_wp2_with fail
      go_meet
      case rel=>exact⟨K0.out,K1.out,K2.out,hgb,HB⟩
    case rest =>
     have hW:=hcut
     have j0:=Z hW.1
     have j1:=Z hW.2.1
     have j2:=Z hW.2.2.1
     have HBn:=hW.2.2.2.2
     clear hW k0 f0 l0 m0 k1 f1 l1 m1 k2 f2 l2 m2 K0 K1 K2 HB
     have K0:=j0;have K1:=j1;have K2:=j2;have HB:=HBn
     clear j0 j1 j2 HBn
     (obtain⟨k0,f0,l0,m0⟩:=rl_ K0;obtain⟨k1,f1,l1,m1⟩:=rl_ K1;obtain⟨k2,f2,l2,m2⟩:=rl_ K2)
     (go_wp2_with(first|(with_reducible refine wlr (ldMk _ K2.out) rfl ?_)|(with_reducible refine wlg (ldMk _ K2.out) (by with_unfolding_all rfl) rfl ?_)|(with_reducible refine wsh (stMk2 _ K1.out (⟨numB r1,fw,nx,numB r4,numB (r4 && b2),kI⟩)) rfl rfl ?_));generalize hWN:setRow _ _ _ _=WN;replace K1:=Z (show Blk WN _ _ _ by rw[←hWN];exact Blk.row K1.out.lt);replace K0:=Z (show Blk WN _ _ _ by rw[←hWN];exact Blk.rowOver (by omega) K0.out);replace K2:=Z (show Blk WN _ _ _ by rw[←hWN];exact Blk.rowOver (by omega) K2.out);replace HB:Below w.heap.size w WN:=(by rw[←hWN];exact Below.row HB (by omega) HB.size);clear hWN k1 f1 l1 m1 k0 f0 l0 m0 k2 f2 l2 m2;obtain⟨k1,f1,l1,m1⟩:=rl_ K1;obtain⟨k0,f0,l0,m0⟩:=rl_ K0;obtain⟨k2,f2,l2,m2⟩:=rl_ K2;unfold Halted)
     go_wp2_with fail
     exact bodyPost_ret (results_cell rfl rfl (ldMk _ K1.out)) rfl ⟨by rw[hM2.out],HB⟩
end
section
open BigFrame Go.RowKit Go.Phx Go.Shelf
attribute [local go_sem] Oper.semAt_some
def firstB:List Int→Bool
 | []=>false
 | n :: r=>if n=0 then firstB r else decide (0<n)
def cmpL(x y:Mk) (a b:Up):List Int:=[cmpP x.many y.many,cmpP x.few y.few,cmpP x.next y.next,cmpP x.final y.final,cmpP x.own y.own,cmpP x.all y.all,cmpP b.seen.b.slot a.seen.b.slot,cmpP b.slot a.slot]
theorem cmp_neg(a b:Int):cmpP b a=cmpP (-a) (-b):=by unfold cmpP;(repeat' split) <;> omega
theorem first_cmp(x y:Int) (r s:List Int) (c:List Int) (h:firstB c=lexP r s):firstB (cmpP x y :: c)=lexP (x :: r) (y :: s):=by
 unfold firstB lexP cmpP
 by_cases h1:x<y
 ·rw[if_pos h1,if_neg (by omega),if_neg (by omega)]
  exact decide_eq_decide.2 (by omega)
 ·rw[if_neg h1]
  by_cases h2:y<x
  ·rw[if_pos h2,if_neg (by omega),if_neg (by omega)]
   exact decide_eq_decide.2 (by omega)
  ·rw[if_neg h2,if_pos rfl,if_pos (by omega)]
   exact h
theorem better_first(a b:Up):firstB (cmpL (marksM a) (marksM b) a b)=betterP a b:=by
 unfold cmpL betterP marksP
 rw[cmp_neg a.seen.b.slot b.seen.b.slot,cmp_neg a.slot b.slot]
 exact first_cmp _ _ _ _ _ (first_cmp _ _ _ _ _ (first_cmp _ _ _ _ _ (first_cmp _ _ _ _ _ (first_cmp _ _ _ _ _ (first_cmp _ _ _ _ _ (first_cmp _ _ _ _ _ (first_cmp _ _ _ _ _ rfl)))))))
theorem first_at(c:List Int):∀ (k:Nat),k<c.length→(∀ j,j<k→c.getD j 0=0)→c.getD k 0≠0→firstB c=decide (0<c.getD k 0):=by
 induction c with
 | nil=>intro k hk;cases hk
 | cons n r ih =>
  intro k hk h0 hn
  unfold firstB
  cases k with
  | zero=>rw[if_neg (show n≠0 from hn)];rfl
  | succ k =>
   have:=h0 0 (by omega)
   rw[if_pos (show n=0 from this)]
   exact ih k (by simpa using hk) (fun j hj=>h0 (j+1) (by omega)) hn
theorem first_none(c:List Int) (h0:∀ j,j<c.length→c.getD j 0=0):firstB c=false:=by
 induction c with
 | nil=>rfl
 | cons n r ih =>
  unfold firstB
  rw[if_pos (show n=0 from h0 0 (by simp))]
  exact ih fun j hj=>h0 (j+1) (by simp;omega)
def ZeroTo(c:List Int) (k:Nat):Prop:=∀ j,j<k→c.getD j 0=0
def BtW(w:World) (g b1 b2:Nat) (a b:Up) (wx:World):Prop:=Blk wx g 37 (upA a)∧Blk wx (g+1) 37 (upA b)∧Blk wx b1 129 (mkA (marksM a))∧Blk wx b2 129 (mkA (marksM b))∧Below w.heap.size w wx
theorem better_calls(a b:Up) (h1:a.seen.b.slot<18446744073709551616) (h2:a.slot<18446744073709551616) (h3:a.fin.b.slot<18446744073709551616) (h4:b.seen.b.slot<18446744073709551616) (h5:b.slot<18446744073709551616) (h6:b.fin.b.slot<18446744073709551616) (w:World):Calls Tryz.prog 37 #[upV a,upV b] w (Ret w (.bool (betterP a b))):=by
 have n1:=fun W=>marked_calls a h1 h2 h3 W
 have n2:=fun W=>marked_calls b h4 h5 h6 W
 have hv:=better_first a b
 generalize betterP a b=r at *
 replace hv:=Z hv
 replace n1:=Z n1
 replace n2:=Z n2
 clear h1 h2 h3 h4 h5 h6
 go_enter Tryz.func37, Tryz.ntmps37
 go_wp2_with fail
 refine wp_scope_straight ?_
 go_upto_region 1 with fail
 have HB:Below w.heap.size w ((w.alloc (.cells (upA a) 37)).alloc (.cells (upA b) 37)):=bel
 have K0:=(Blk.new0 w 37 (upA a)).alloc (.cells (upA b) 37)
 have K1:=Blk.new1 w (.cells (upA a) 37) 37 (upA b)
 obtain⟨W,hW⟩:∃ W,((w.alloc (.cells (upA a) 37)).alloc (.cells (upA b) 37))=W:=⟨_,rfl⟩
 rw[hW]at HB K0 K1 ⊢
 clear hW
 have hgl:w.heap.size≤w.heap.size:=Nat.le_refl _
 obtain⟨g,hg⟩:∃ g,w.heap.size=g:=⟨_,rfl⟩
 rw[hg]at K0 K1 ⊢
 replace hgl:w.heap.size≤g:=by omega
 replace K0:=Z K0
 replace K1:=Z K1
 clear hg
 (obtain⟨k0,f0,l0,m0⟩:=rl_ K0;obtain⟨k1,f1,l1,m1⟩:=rl_ K1)
 go_cut [5,6] (fun s5 s6 wx=>∃ b1 b2,s5=.pointer (some ⟨b1,0,none⟩)∧s6=.pointer (some ⟨b2,0,none⟩)∧BtW w g b1 b2 a b wx)
 case first =>
  have hwf:∀ f,Fence.wide.fn f:=fun _=>trivial
  refine(wpIn_wide (n:=9)).1 ?_
  refine wpIn_round_held (fun w'=>Below W.heap.size W w') (fun j=>true) U ?_
  have hS0:(fun w'=>Below W.heap.size W w') W.drew:=(Below.refl _ _).drew
  refine S_tk 0 (upV (a)) rfl hS0 (fun w' hw=>exec_load rfl U (ldUp (a) (K0.out.below hw))) ?_
  refine S_tk 2 (upV (b)) rfl hS0 (fun w' hw=>exec_load rfl U (ldUp (b) (K1.out.below hw))) ?_
  refine S_list [1,4,5] U (by decide) ⟨?_,?_,?_,trivial⟩
  ·show wpOpIn _ _ _ _ _ 1 _ _ _
   refine op_call (nd:=fun j=>true) (S:=fun w'=>Below W.heap.size W w') (i:=1) rfl (fun K hK=>?_)
   go_simp
   gi_wp2_with(gi_at_call 72; refine(callsIn_wide.2 (n1.out _)).mono ?_;rintro e Wh1 ⟨rfl,hN⟩)
   replace hS0:=hS0.trans (hN.mono hS0.size)
   clear hN
   refine⟨(fun _=>hS0),?_⟩
   refine S_list [3,4,5] U (by decide) ⟨?_,?_,?_,trivial⟩
   ·show wpOpIn _ _ _ _ _ 3 _ _ _
    refine op_call (nd:=fun j=>true) (S:=fun w'=>Below W.heap.size W w') (i:=3) rfl (fun K hK=>?_)
    go_simp
    gi_wp2_with(gi_at_call 72; refine(callsIn_wide.2 (n2.out _)).mono ?_;rintro e Wh2 ⟨rfl,hN⟩)
    replace hS0:=hS0.trans (hN.mono hS0.size)
    clear hN
    refine⟨(fun _=>hS0),?_⟩
    refine S_list [4,5] U (by decide) ⟨?_,?_,trivial⟩
    ·show wpOpIn _ _ _ _ _ 4 _ _ _
     obtain⟨x5n3,hbx⟩:∃ x,Wh2.heap.size=x:=⟨_,rfl⟩
     have hbx2:=hbx
     (try simp[go_sem]at hbx2)
     have hb5:W.heap.size≤x5n3:=by rw[←hbx];exact hS0.size
     have KA5:=Blk.new0 Wh2 129 (mkA Mk.zero)
     rw[hbx]at KA5
     replace KA5:=Z KA5
     replace hS0:Below _ _ (Wh2.alloc (.cells (mkA Mk.zero) 129)):=hS0.alloc hS0.size _
     refine op_go (nd:=fun j=>true) (S:=fun w'=>Below W.heap.size W w') (i:=4) (fun _=>trivial) U rfl U (.pointer (some ⟨x5n3,0,none⟩)) (Wh2.alloc (.cells (mkA Mk.zero) 129)) (by first|(go_simp;done)|(go_simp;rfl)|(go_simp;exact⟨hbx2,rfl⟩)) (fun _=>hS0) ?_
     clear hbx hbx2
     obtain⟨x6n4,hbx⟩:∃ x,(Wh2.alloc (.cells (mkA Mk.zero) 129)).heap.size=x:=⟨_,rfl⟩
     have hbx2:=hbx
     (try simp[go_sem]at hbx2)
     have hA5_6:x5n3<x6n4:=by rw[←hbx];exact KA5.out.lt
     have hb6:W.heap.size≤x6n4:=by rw[←hbx];exact hS0.size
     replace KA5:=Z (KA5.out.alloc (.cells (mkA Mk.zero) 129))
     have KA6:=Blk.new0 (Wh2.alloc (.cells (mkA Mk.zero) 129)) 129 (mkA Mk.zero)
     rw[hbx]at KA6
     replace KA6:=Z KA6
     replace hS0:Below _ _ ((Wh2.alloc (.cells (mkA Mk.zero) 129)).alloc (.cells (mkA Mk.zero) 129)):=hS0.alloc hS0.size _
     refine S_go 5 (fun _=>trivial) U U rfl U (.pointer (some ⟨x6n4,0,none⟩)) ((Wh2.alloc (.cells (mkA Mk.zero) 129)).alloc (.cells (mkA Mk.zero) 129)) (by first|(go_simp;done)|(go_simp;rfl)|(go_simp;exact⟨hbx2,rfl⟩)) (fun _=>hS0) ?_
     clear hbx hbx2
     have hS1:(fun w'=>Below W.heap.size W w') (setRow ((Wh2.alloc (.cells (mkA Mk.zero) 129)).alloc (.cells (mkA Mk.zero) 129)) (x5n3) 129 (mkA (marksM a))):=Below.row hS0 hb5 hS0.size
     refine S_store 6 (fun _=>trivial) U U rfl U (setRow ((Wh2.alloc (.cells (mkA Mk.zero) 129)).alloc (.cells (mkA Mk.zero) 129)) (x5n3) 129 (mkA (marksM a))) (exec_store _ _ rfl U U (stMk KA5.out rfl (marksM a))) (fun _=>hS1) ?_
     clear hS0
     have hS0:=hS1
     clear hS1
     replace KA6:=Z (Blk.rowOver (g':=x5n3) (t' := 129) (cs':=mkA (marksM a)) (by first|assumption|exact Nat.ne_of_lt (by assumption)|exact Nat.ne_of_gt (by assumption)|omega) KA6.out)
     replace KA5:=Z (Blk.row (t := 129) (cs:=mkA (marksM a)) KA5.out.lt)
     have hS1:(fun w'=>Below W.heap.size W w') (setRow (setRow ((Wh2.alloc (.cells (mkA Mk.zero) 129)).alloc (.cells (mkA Mk.zero) 129)) (x5n3) 129 (mkA (marksM a))) (x6n4) 129 (mkA (marksM b))):=Below.row hS0 hb6 hS0.size
     refine S_store 7 (fun _=>trivial) U U rfl U (setRow (setRow ((Wh2.alloc (.cells (mkA Mk.zero) 129)).alloc (.cells (mkA Mk.zero) 129)) (x5n3) 129 (mkA (marksM a))) (x6n4) 129 (mkA (marksM b))) (exec_store _ _ rfl U U (stMk KA6.out rfl (marksM b))) (fun _=>hS1) ?_
     clear hS0
     have hS0:=hS1
     clear hS1
     replace KA5:=Z (Blk.rowOver (g':=x6n4) (t' := 129) (cs':=mkA (marksM b)) (by first|assumption|exact Nat.ne_of_lt (by assumption)|exact Nat.ne_of_gt (by assumption)|omega) KA5.out)
     replace KA6:=Z (Blk.row (t := 129) (cs:=mkA (marksM b)) KA6.out.lt)
     refine⟨by kernel_rfl,rfl,?_⟩
     (try simp only[World.size_alloc]at hS0 KA5 KA6)
     go_wp2_with fail
     go_meet
     case rel =>
      refine⟨_,_,rfl,rfl,?_⟩
      (try simp only[World.size_alloc])
      exact⟨K0.out.below hS0,K1.out.below hS0,KA5.out,KA6.out,Below.on hS0 HB⟩
    ·show wpOpIn _ _ _ _ _ 5 _ _ _
     obtain⟨x6n5,hbx⟩:∃ x,Wh2.heap.size=x:=⟨_,rfl⟩
     have hbx2:=hbx
     (try simp[go_sem]at hbx2)
     have hb6:W.heap.size≤x6n5:=by rw[←hbx];exact hS0.size
     have KA6:=Blk.new0 Wh2 129 (mkA Mk.zero)
     rw[hbx]at KA6
     replace KA6:=Z KA6
     replace hS0:Below _ _ (Wh2.alloc (.cells (mkA Mk.zero) 129)):=hS0.alloc hS0.size _
     refine op_go (nd:=fun j=>true) (S:=fun w'=>Below W.heap.size W w') (i:=5) (fun _=>trivial) U rfl U (.pointer (some ⟨x6n5,0,none⟩)) (Wh2.alloc (.cells (mkA Mk.zero) 129)) (by first|(go_simp;done)|(go_simp;rfl)|(go_simp;exact⟨hbx2,rfl⟩)) (fun _=>hS0) ?_
     clear hbx hbx2
     obtain⟨x5n6,hbx⟩:∃ x,(Wh2.alloc (.cells (mkA Mk.zero) 129)).heap.size=x:=⟨_,rfl⟩
     have hbx2:=hbx
     (try simp[go_sem]at hbx2)
     have hA6_5:x6n5<x5n6:=by rw[←hbx];exact KA6.out.lt
     have hb5:W.heap.size≤x5n6:=by rw[←hbx];exact hS0.size
     replace KA6:=Z (KA6.out.alloc (.cells (mkA Mk.zero) 129))
     have KA5:=Blk.new0 (Wh2.alloc (.cells (mkA Mk.zero) 129)) 129 (mkA Mk.zero)
     rw[hbx]at KA5
     replace KA5:=Z KA5
     replace hS0:Below _ _ ((Wh2.alloc (.cells (mkA Mk.zero) 129)).alloc (.cells (mkA Mk.zero) 129)):=hS0.alloc hS0.size _
     refine S_go 4 (fun _=>trivial) U U rfl U (.pointer (some ⟨x5n6,0,none⟩)) ((Wh2.alloc (.cells (mkA Mk.zero) 129)).alloc (.cells (mkA Mk.zero) 129)) (by first|(go_simp;done)|(go_simp;rfl)|(go_simp;exact⟨hbx2,rfl⟩)) (fun _=>hS0) ?_
     clear hbx hbx2
     have hS1:(fun w'=>Below W.heap.size W w') (setRow ((Wh2.alloc (.cells (mkA Mk.zero) 129)).alloc (.cells (mkA Mk.zero) 129)) (x5n6) 129 (mkA (marksM a))):=Below.row hS0 hb5 hS0.size
     refine S_store 6 (fun _=>trivial) U U rfl U (setRow ((Wh2.alloc (.cells (mkA Mk.zero) 129)).alloc (.cells (mkA Mk.zero) 129)) (x5n6) 129 (mkA (marksM a))) (exec_store _ _ rfl U U (stMk KA5.out rfl (marksM a))) (fun _=>hS1) ?_
     clear hS0
     have hS0:=hS1
     clear hS1
     replace KA6:=Z (Blk.rowOver (g':=x5n6) (t' := 129) (cs':=mkA (marksM a)) (by first|assumption|exact Nat.ne_of_lt (by assumption)|exact Nat.ne_of_gt (by assumption)|omega) KA6.out)
     replace KA5:=Z (Blk.row (t := 129) (cs:=mkA (marksM a)) KA5.out.lt)
     have hS1:(fun w'=>Below W.heap.size W w') (setRow (setRow ((Wh2.alloc (.cells (mkA Mk.zero) 129)).alloc (.cells (mkA Mk.zero) 129)) (x5n6) 129 (mkA (marksM a))) (x6n5) 129 (mkA (marksM b))):=Below.row hS0 hb6 hS0.size
     refine S_store 7 (fun _=>trivial) U U rfl U (setRow (setRow ((Wh2.alloc (.cells (mkA Mk.zero) 129)).alloc (.cells (mkA Mk.zero) 129)) (x5n6) 129 (mkA (marksM a))) (x6n5) 129 (mkA (marksM b))) (exec_store _ _ rfl U U (stMk KA6.out rfl (marksM b))) (fun _=>hS1) ?_
     clear hS0
     have hS0:=hS1
     clear hS1
     replace KA5:=Z (Blk.rowOver (g':=x6n5) (t' := 129) (cs':=mkA (marksM b)) (by first|assumption|exact Nat.ne_of_lt (by assumption)|exact Nat.ne_of_gt (by assumption)|omega) KA5.out)
     replace KA6:=Z (Blk.row (t := 129) (cs:=mkA (marksM b)) KA6.out.lt)
     refine⟨by kernel_rfl,rfl,?_⟩
     (try simp only[World.size_alloc]at hS0 KA5 KA6)
     go_wp2_with fail
     go_meet
     case rel =>
      refine⟨_,_,rfl,rfl,?_⟩
      (try simp only[World.size_alloc])
      exact⟨K0.out.below hS0,K1.out.below hS0,KA5.out,KA6.out,Below.on hS0 HB⟩
   ·show wpOpIn _ _ _ _ _ 4 _ _ _
    obtain⟨x5n7,hbx⟩:∃ x,Wh1.heap.size=x:=⟨_,rfl⟩
    have hbx2:=hbx
    (try simp[go_sem]at hbx2)
    have hb5:W.heap.size≤x5n7:=by rw[←hbx];exact hS0.size
    have KA5:=Blk.new0 Wh1 129 (mkA Mk.zero)
    rw[hbx]at KA5
    replace KA5:=Z KA5
    replace hS0:Below _ _ (Wh1.alloc (.cells (mkA Mk.zero) 129)):=hS0.alloc hS0.size _
    refine op_go (nd:=fun j=>true) (S:=fun w'=>Below W.heap.size W w') (i:=4) (fun _=>trivial) U rfl U (.pointer (some ⟨x5n7,0,none⟩)) (Wh1.alloc (.cells (mkA Mk.zero) 129)) (by first|(go_simp;done)|(go_simp;rfl)|(go_simp;exact⟨hbx2,rfl⟩)) (fun _=>hS0) ?_
    clear hbx hbx2
    refine S_list [3,5] U (by decide) ⟨?_,?_,trivial⟩
    ·show wpOpIn _ _ _ _ _ 3 _ _ _
     refine op_call (nd:=fun j=>true) (S:=fun w'=>Below W.heap.size W w') (i:=3) rfl (fun K hK=>?_)
     go_simp
     gi_wp2_with(gi_at_call 72; refine(callsIn_wide.2 (n2.out _)).mono ?_;rintro e Wh8 ⟨rfl,hN⟩)
     replace KA5:=hn_ KA5 hN
     replace hS0:=hS0.trans (hN.mono hS0.size)
     clear hN
     refine⟨(fun _=>hS0),?_⟩
     obtain⟨x6n9,hbx⟩:∃ x,Wh8.heap.size=x:=⟨_,rfl⟩
     have hbx2:=hbx
     (try simp[go_sem]at hbx2)
     have hA5_6:x5n7<x6n9:=by rw[←hbx];exact KA5.out.lt
     have hb6:W.heap.size≤x6n9:=by rw[←hbx];exact hS0.size
     replace KA5:=Z (KA5.out.alloc (.cells (mkA Mk.zero) 129))
     have KA6:=Blk.new0 Wh8 129 (mkA Mk.zero)
     rw[hbx]at KA6
     replace KA6:=Z KA6
     replace hS0:Below _ _ (Wh8.alloc (.cells (mkA Mk.zero) 129)):=hS0.alloc hS0.size _
     refine S_go 5 (fun _=>trivial) U U rfl U (.pointer (some ⟨x6n9,0,none⟩)) (Wh8.alloc (.cells (mkA Mk.zero) 129)) (by first|(go_simp;done)|(go_simp;rfl)|(go_simp;exact⟨hbx2,rfl⟩)) (fun _=>hS0) ?_
     clear hbx hbx2
     have hS1:(fun w'=>Below W.heap.size W w') (setRow (Wh8.alloc (.cells (mkA Mk.zero) 129)) (x5n7) 129 (mkA (marksM a))):=Below.row hS0 hb5 hS0.size
     refine S_store 6 (fun _=>trivial) U U rfl U (setRow (Wh8.alloc (.cells (mkA Mk.zero) 129)) (x5n7) 129 (mkA (marksM a))) (exec_store _ _ rfl U U (stMk KA5.out rfl (marksM a))) (fun _=>hS1) ?_
     clear hS0
     have hS0:=hS1
     clear hS1
     replace KA6:=Z (Blk.rowOver (g':=x5n7) (t' := 129) (cs':=mkA (marksM a)) (by first|assumption|exact Nat.ne_of_lt (by assumption)|exact Nat.ne_of_gt (by assumption)|omega) KA6.out)
     replace KA5:=Z (Blk.row (t := 129) (cs:=mkA (marksM a)) KA5.out.lt)
     have hS1:(fun w'=>Below W.heap.size W w') (setRow (setRow (Wh8.alloc (.cells (mkA Mk.zero) 129)) (x5n7) 129 (mkA (marksM a))) (x6n9) 129 (mkA (marksM b))):=Below.row hS0 hb6 hS0.size
     refine S_store 7 (fun _=>trivial) U U rfl U (setRow (setRow (Wh8.alloc (.cells (mkA Mk.zero) 129)) (x5n7) 129 (mkA (marksM a))) (x6n9) 129 (mkA (marksM b))) (exec_store _ _ rfl U U (stMk KA6.out rfl (marksM b))) (fun _=>hS1) ?_
     clear hS0
     have hS0:=hS1
     clear hS1
     replace KA5:=Z (Blk.rowOver (g':=x6n9) (t' := 129) (cs':=mkA (marksM b)) (by first|assumption|exact Nat.ne_of_lt (by assumption)|exact Nat.ne_of_gt (by assumption)|omega) KA5.out)
     replace KA6:=Z (Blk.row (t := 129) (cs:=mkA (marksM b)) KA6.out.lt)
     refine⟨by kernel_rfl,rfl,?_⟩
     (try simp only[World.size_alloc]at hS0 KA5 KA6)
     go_wp2_with fail
     go_meet
     case rel =>
      refine⟨_,_,rfl,rfl,?_⟩
      (try simp only[World.size_alloc])
      exact⟨K0.out.below hS0,K1.out.below hS0,KA5.out,KA6.out,Below.on hS0 HB⟩
    ·show wpOpIn _ _ _ _ _ 5 _ _ _
     obtain⟨x6n10,hbx⟩:∃ x,(Wh1.alloc (.cells (mkA Mk.zero) 129)).heap.size=x:=⟨_,rfl⟩
     have hbx2:=hbx
     (try simp[go_sem]at hbx2)
     have hA5_6:x5n7<x6n10:=by rw[←hbx];exact KA5.out.lt
     have hb6:W.heap.size≤x6n10:=by rw[←hbx];exact hS0.size
     replace KA5:=Z (KA5.out.alloc (.cells (mkA Mk.zero) 129))
     have KA6:=Blk.new0 (Wh1.alloc (.cells (mkA Mk.zero) 129)) 129 (mkA Mk.zero)
     rw[hbx]at KA6
     replace KA6:=Z KA6
     replace hS0:Below _ _ ((Wh1.alloc (.cells (mkA Mk.zero) 129)).alloc (.cells (mkA Mk.zero) 129)):=hS0.alloc hS0.size _
     refine op_go (nd:=fun j=>true) (S:=fun w'=>Below W.heap.size W w') (i:=5) (fun _=>trivial) U rfl U (.pointer (some ⟨x6n10,0,none⟩)) ((Wh1.alloc (.cells (mkA Mk.zero) 129)).alloc (.cells (mkA Mk.zero) 129)) (by first|(go_simp;done)|(go_simp;rfl)|(go_simp;exact⟨hbx2,rfl⟩)) (fun _=>hS0) ?_
     clear hbx hbx2
     refine S_one 3 U rfl (fun K hK=>?_)
     go_simp
     gi_wp2_with(gi_at_call 72; refine(callsIn_wide.2 (n2.out _)).mono ?_;rintro e Wh11 ⟨rfl,hN⟩)
     replace KA5:=hn_ KA5 hN
     replace KA6:=hn_ KA6 hN
     replace hS0:=hS0.trans (hN.mono hS0.size)
     clear hN
     refine⟨(fun _=>hS0),?_⟩
     have hS1:(fun w'=>Below W.heap.size W w') (setRow Wh11 (x5n7) 129 (mkA (marksM a))):=Below.row hS0 hb5 hS0.size
     refine S_store 6 (fun _=>trivial) U U rfl U (setRow Wh11 (x5n7) 129 (mkA (marksM a))) (exec_store _ _ rfl U U (stMk KA5.out rfl (marksM a))) (fun _=>hS1) ?_
     clear hS0
     have hS0:=hS1
     clear hS1
     replace KA6:=Z (Blk.rowOver (g':=x5n7) (t' := 129) (cs':=mkA (marksM a)) (by first|assumption|exact Nat.ne_of_lt (by assumption)|exact Nat.ne_of_gt (by assumption)|omega) KA6.out)
     replace KA5:=Z (Blk.row (t := 129) (cs:=mkA (marksM a)) KA5.out.lt)
     have hS1:(fun w'=>Below W.heap.size W w') (setRow (setRow Wh11 (x5n7) 129 (mkA (marksM a))) (x6n10) 129 (mkA (marksM b))):=Below.row hS0 hb6 hS0.size
     refine S_store 7 (fun _=>trivial) U U rfl U (setRow (setRow Wh11 (x5n7) 129 (mkA (marksM a))) (x6n10) 129 (mkA (marksM b))) (exec_store _ _ rfl U U (stMk KA6.out rfl (marksM b))) (fun _=>hS1) ?_
     clear hS0
     have hS0:=hS1
     clear hS1
     replace KA5:=Z (Blk.rowOver (g':=x6n10) (t' := 129) (cs':=mkA (marksM b)) (by first|assumption|exact Nat.ne_of_lt (by assumption)|exact Nat.ne_of_gt (by assumption)|omega) KA5.out)
     replace KA6:=Z (Blk.row (t := 129) (cs:=mkA (marksM b)) KA6.out.lt)
     refine⟨by kernel_rfl,rfl,?_⟩
     (try simp only[World.size_alloc]at hS0 KA5 KA6)
     go_wp2_with fail
     go_meet
     case rel =>
      refine⟨_,_,rfl,rfl,?_⟩
      (try simp only[World.size_alloc])
      exact⟨K0.out.below hS0,K1.out.below hS0,KA5.out,KA6.out,Below.on hS0 HB⟩
   ·show wpOpIn _ _ _ _ _ 5 _ _ _
    obtain⟨x6n12,hbx⟩:∃ x,Wh1.heap.size=x:=⟨_,rfl⟩
    have hbx2:=hbx
    (try simp[go_sem]at hbx2)
    have hb6:W.heap.size≤x6n12:=by rw[←hbx];exact hS0.size
    have KA6:=Blk.new0 Wh1 129 (mkA Mk.zero)
    rw[hbx]at KA6
    replace KA6:=Z KA6
    replace hS0:Below _ _ (Wh1.alloc (.cells (mkA Mk.zero) 129)):=hS0.alloc hS0.size _
    refine op_go (nd:=fun j=>true) (S:=fun w'=>Below W.heap.size W w') (i:=5) (fun _=>trivial) U rfl U (.pointer (some ⟨x6n12,0,none⟩)) (Wh1.alloc (.cells (mkA Mk.zero) 129)) (by first|(go_simp;done)|(go_simp;rfl)|(go_simp;exact⟨hbx2,rfl⟩)) (fun _=>hS0) ?_
    clear hbx hbx2
    refine S_list [3,4] U (by decide) ⟨?_,?_,trivial⟩
    ·show wpOpIn _ _ _ _ _ 3 _ _ _
     refine op_call (nd:=fun j=>true) (S:=fun w'=>Below W.heap.size W w') (i:=3) rfl (fun K hK=>?_)
     go_simp
     gi_wp2_with(gi_at_call 72; refine(callsIn_wide.2 (n2.out _)).mono ?_;rintro e Wh13 ⟨rfl,hN⟩)
     replace KA6:=hn_ KA6 hN
     replace hS0:=hS0.trans (hN.mono hS0.size)
     clear hN
     refine⟨(fun _=>hS0),?_⟩
     obtain⟨x5n14,hbx⟩:∃ x,Wh13.heap.size=x:=⟨_,rfl⟩
     have hbx2:=hbx
     (try simp[go_sem]at hbx2)
     have hA6_5:x6n12<x5n14:=by rw[←hbx];exact KA6.out.lt
     have hb5:W.heap.size≤x5n14:=by rw[←hbx];exact hS0.size
     replace KA6:=Z (KA6.out.alloc (.cells (mkA Mk.zero) 129))
     have KA5:=Blk.new0 Wh13 129 (mkA Mk.zero)
     rw[hbx]at KA5
     replace KA5:=Z KA5
     replace hS0:Below _ _ (Wh13.alloc (.cells (mkA Mk.zero) 129)):=hS0.alloc hS0.size _
     refine S_go 4 (fun _=>trivial) U U rfl U (.pointer (some ⟨x5n14,0,none⟩)) (Wh13.alloc (.cells (mkA Mk.zero) 129)) (by first|(go_simp;done)|(go_simp;rfl)|(go_simp;exact⟨hbx2,rfl⟩)) (fun _=>hS0) ?_
     clear hbx hbx2
     have hS1:(fun w'=>Below W.heap.size W w') (setRow (Wh13.alloc (.cells (mkA Mk.zero) 129)) (x5n14) 129 (mkA (marksM a))):=Below.row hS0 hb5 hS0.size
     refine S_store 6 (fun _=>trivial) U U rfl U (setRow (Wh13.alloc (.cells (mkA Mk.zero) 129)) (x5n14) 129 (mkA (marksM a))) (exec_store _ _ rfl U U (stMk KA5.out rfl (marksM a))) (fun _=>hS1) ?_
     clear hS0
     have hS0:=hS1
     clear hS1
     replace KA6:=Z (Blk.rowOver (g':=x5n14) (t' := 129) (cs':=mkA (marksM a)) (by first|assumption|exact Nat.ne_of_lt (by assumption)|exact Nat.ne_of_gt (by assumption)|omega) KA6.out)
     replace KA5:=Z (Blk.row (t := 129) (cs:=mkA (marksM a)) KA5.out.lt)
     have hS1:(fun w'=>Below W.heap.size W w') (setRow (setRow (Wh13.alloc (.cells (mkA Mk.zero) 129)) (x5n14) 129 (mkA (marksM a))) (x6n12) 129 (mkA (marksM b))):=Below.row hS0 hb6 hS0.size
     refine S_store 7 (fun _=>trivial) U U rfl U (setRow (setRow (Wh13.alloc (.cells (mkA Mk.zero) 129)) (x5n14) 129 (mkA (marksM a))) (x6n12) 129 (mkA (marksM b))) (exec_store _ _ rfl U U (stMk KA6.out rfl (marksM b))) (fun _=>hS1) ?_
     clear hS0
     have hS0:=hS1
     clear hS1
     replace KA5:=Z (Blk.rowOver (g':=x6n12) (t' := 129) (cs':=mkA (marksM b)) (by first|assumption|exact Nat.ne_of_lt (by assumption)|exact Nat.ne_of_gt (by assumption)|omega) KA5.out)
     replace KA6:=Z (Blk.row (t := 129) (cs:=mkA (marksM b)) KA6.out.lt)
     refine⟨by kernel_rfl,rfl,?_⟩
     (try simp only[World.size_alloc]at hS0 KA5 KA6)
     go_wp2_with fail
     go_meet
     case rel =>
      refine⟨_,_,rfl,rfl,?_⟩
      (try simp only[World.size_alloc])
      exact⟨K0.out.below hS0,K1.out.below hS0,KA5.out,KA6.out,Below.on hS0 HB⟩
    ·show wpOpIn _ _ _ _ _ 4 _ _ _
     obtain⟨x5n15,hbx⟩:∃ x,(Wh1.alloc (.cells (mkA Mk.zero) 129)).heap.size=x:=⟨_,rfl⟩
     have hbx2:=hbx
     (try simp[go_sem]at hbx2)
     have hA6_5:x6n12<x5n15:=by rw[←hbx];exact KA6.out.lt
     have hb5:W.heap.size≤x5n15:=by rw[←hbx];exact hS0.size
     replace KA6:=Z (KA6.out.alloc (.cells (mkA Mk.zero) 129))
     have KA5:=Blk.new0 (Wh1.alloc (.cells (mkA Mk.zero) 129)) 129 (mkA Mk.zero)
     rw[hbx]at KA5
     replace KA5:=Z KA5
     replace hS0:Below _ _ ((Wh1.alloc (.cells (mkA Mk.zero) 129)).alloc (.cells (mkA Mk.zero) 129)):=hS0.alloc hS0.size _
     refine op_go (nd:=fun j=>true) (S:=fun w'=>Below W.heap.size W w') (i:=4) (fun _=>trivial) U rfl U (.pointer (some ⟨x5n15,0,none⟩)) ((Wh1.alloc (.cells (mkA Mk.zero) 129)).alloc (.cells (mkA Mk.zero) 129)) (by first|(go_simp;done)|(go_simp;rfl)|(go_simp;exact⟨hbx2,rfl⟩)) (fun _=>hS0) ?_
     clear hbx hbx2
     refine S_one 3 U rfl (fun K hK=>?_)
     go_simp
     gi_wp2_with(gi_at_call 72; refine(callsIn_wide.2 (n2.out _)).mono ?_;rintro e Wh16 ⟨rfl,hN⟩)
     replace KA6:=hn_ KA6 hN
     replace KA5:=hn_ KA5 hN
     replace hS0:=hS0.trans (hN.mono hS0.size)
     clear hN
     refine⟨(fun _=>hS0),?_⟩
     have hS1:(fun w'=>Below W.heap.size W w') (setRow Wh16 (x5n15) 129 (mkA (marksM a))):=Below.row hS0 hb5 hS0.size
     refine S_store 6 (fun _=>trivial) U U rfl U (setRow Wh16 (x5n15) 129 (mkA (marksM a))) (exec_store _ _ rfl U U (stMk KA5.out rfl (marksM a))) (fun _=>hS1) ?_
     clear hS0
     have hS0:=hS1
     clear hS1
     replace KA6:=Z (Blk.rowOver (g':=x5n15) (t' := 129) (cs':=mkA (marksM a)) (by first|assumption|exact Nat.ne_of_lt (by assumption)|exact Nat.ne_of_gt (by assumption)|omega) KA6.out)
     replace KA5:=Z (Blk.row (t := 129) (cs:=mkA (marksM a)) KA5.out.lt)
     have hS1:(fun w'=>Below W.heap.size W w') (setRow (setRow Wh16 (x5n15) 129 (mkA (marksM a))) (x6n12) 129 (mkA (marksM b))):=Below.row hS0 hb6 hS0.size
     refine S_store 7 (fun _=>trivial) U U rfl U (setRow (setRow Wh16 (x5n15) 129 (mkA (marksM a))) (x6n12) 129 (mkA (marksM b))) (exec_store _ _ rfl U U (stMk KA6.out rfl (marksM b))) (fun _=>hS1) ?_
     clear hS0
     have hS0:=hS1
     clear hS1
     replace KA5:=Z (Blk.rowOver (g':=x6n12) (t' := 129) (cs':=mkA (marksM b)) (by first|assumption|exact Nat.ne_of_lt (by assumption)|exact Nat.ne_of_gt (by assumption)|omega) KA5.out)
     replace KA6:=Z (Blk.row (t := 129) (cs:=mkA (marksM b)) KA6.out.lt)
     refine⟨by kernel_rfl,rfl,?_⟩
     (try simp only[World.size_alloc]at hS0 KA5 KA6)
     go_wp2_with fail
     go_meet
     case rel =>
      refine⟨_,_,rfl,rfl,?_⟩
      (try simp only[World.size_alloc])
      exact⟨K0.out.below hS0,K1.out.below hS0,KA5.out,KA6.out,Below.on hS0 HB⟩
  ·show wpOpIn _ _ _ _ _ 4 _ _ _
   obtain⟨x5n17,hbx⟩:∃ x,W.drew.heap.size=x:=⟨_,rfl⟩
   have hbx2:=hbx
   (try simp[go_sem]at hbx2)
   have hb5:W.heap.size≤x5n17:=by rw[←hbx];exact hS0.size
   have KA5:=Blk.new0 W.drew 129 (mkA Mk.zero)
   rw[hbx]at KA5
   replace KA5:=Z KA5
   replace hS0:Below _ _ (W.drew.alloc (.cells (mkA Mk.zero) 129)):=hS0.alloc hS0.size _
   refine op_go (nd:=fun j=>true) (S:=fun w'=>Below W.heap.size W w') (i:=4) (fun _=>trivial) U rfl U (.pointer (some ⟨x5n17,0,none⟩)) (W.drew.alloc (.cells (mkA Mk.zero) 129)) (by first|(go_simp;done)|(go_simp;rfl)|(go_simp;exact⟨hbx2,rfl⟩)) (fun _=>hS0) ?_
   clear hbx hbx2
   refine S_list [1,5] U (by decide) ⟨?_,?_,trivial⟩
   ·show wpOpIn _ _ _ _ _ 1 _ _ _
    refine op_call (nd:=fun j=>true) (S:=fun w'=>Below W.heap.size W w') (i:=1) rfl (fun K hK=>?_)
    go_simp
    gi_wp2_with(gi_at_call 72; refine(callsIn_wide.2 (n1.out _)).mono ?_;rintro e Wh18 ⟨rfl,hN⟩)
    replace KA5:=hn_ KA5 hN
    replace hS0:=hS0.trans (hN.mono hS0.size)
    clear hN
    refine⟨(fun _=>hS0),?_⟩
    refine S_list [3,5] U (by decide) ⟨?_,?_,trivial⟩
    ·show wpOpIn _ _ _ _ _ 3 _ _ _
     refine op_call (nd:=fun j=>true) (S:=fun w'=>Below W.heap.size W w') (i:=3) rfl (fun K hK=>?_)
     go_simp
     gi_wp2_with(gi_at_call 72; refine(callsIn_wide.2 (n2.out _)).mono ?_;rintro e Wh19 ⟨rfl,hN⟩)
     replace KA5:=hn_ KA5 hN
     replace hS0:=hS0.trans (hN.mono hS0.size)
     clear hN
     refine⟨(fun _=>hS0),?_⟩
     obtain⟨x6n20,hbx⟩:∃ x,Wh19.heap.size=x:=⟨_,rfl⟩
     have hbx2:=hbx
     (try simp[go_sem]at hbx2)
     have hA5_6:x5n17<x6n20:=by rw[←hbx];exact KA5.out.lt
     have hb6:W.heap.size≤x6n20:=by rw[←hbx];exact hS0.size
     replace KA5:=Z (KA5.out.alloc (.cells (mkA Mk.zero) 129))
     have KA6:=Blk.new0 Wh19 129 (mkA Mk.zero)
     rw[hbx]at KA6
     replace KA6:=Z KA6
     replace hS0:Below _ _ (Wh19.alloc (.cells (mkA Mk.zero) 129)):=hS0.alloc hS0.size _
     refine S_go 5 (fun _=>trivial) U U rfl U (.pointer (some ⟨x6n20,0,none⟩)) (Wh19.alloc (.cells (mkA Mk.zero) 129)) (by first|(go_simp;done)|(go_simp;rfl)|(go_simp;exact⟨hbx2,rfl⟩)) (fun _=>hS0) ?_
     clear hbx hbx2
     have hS1:(fun w'=>Below W.heap.size W w') (setRow (Wh19.alloc (.cells (mkA Mk.zero) 129)) (x5n17) 129 (mkA (marksM a))):=Below.row hS0 hb5 hS0.size
     refine S_store 6 (fun _=>trivial) U U rfl U (setRow (Wh19.alloc (.cells (mkA Mk.zero) 129)) (x5n17) 129 (mkA (marksM a))) (exec_store _ _ rfl U U (stMk KA5.out rfl (marksM a))) (fun _=>hS1) ?_
     clear hS0
     have hS0:=hS1
     clear hS1
     replace KA6:=Z (Blk.rowOver (g':=x5n17) (t' := 129) (cs':=mkA (marksM a)) (by first|assumption|exact Nat.ne_of_lt (by assumption)|exact Nat.ne_of_gt (by assumption)|omega) KA6.out)
     replace KA5:=Z (Blk.row (t := 129) (cs:=mkA (marksM a)) KA5.out.lt)
     have hS1:(fun w'=>Below W.heap.size W w') (setRow (setRow (Wh19.alloc (.cells (mkA Mk.zero) 129)) (x5n17) 129 (mkA (marksM a))) (x6n20) 129 (mkA (marksM b))):=Below.row hS0 hb6 hS0.size
     refine S_store 7 (fun _=>trivial) U U rfl U (setRow (setRow (Wh19.alloc (.cells (mkA Mk.zero) 129)) (x5n17) 129 (mkA (marksM a))) (x6n20) 129 (mkA (marksM b))) (exec_store _ _ rfl U U (stMk KA6.out rfl (marksM b))) (fun _=>hS1) ?_
     clear hS0
     have hS0:=hS1
     clear hS1
     replace KA5:=Z (Blk.rowOver (g':=x6n20) (t' := 129) (cs':=mkA (marksM b)) (by first|assumption|exact Nat.ne_of_lt (by assumption)|exact Nat.ne_of_gt (by assumption)|omega) KA5.out)
     replace KA6:=Z (Blk.row (t := 129) (cs:=mkA (marksM b)) KA6.out.lt)
     refine⟨by kernel_rfl,rfl,?_⟩
     (try simp only[World.size_alloc]at hS0 KA5 KA6)
     go_wp2_with fail
     go_meet
     case rel =>
      refine⟨_,_,rfl,rfl,?_⟩
      (try simp only[World.size_alloc])
      exact⟨K0.out.below hS0,K1.out.below hS0,KA5.out,KA6.out,Below.on hS0 HB⟩
    ·show wpOpIn _ _ _ _ _ 5 _ _ _
     obtain⟨x6n21,hbx⟩:∃ x,Wh18.heap.size=x:=⟨_,rfl⟩
     have hbx2:=hbx
     (try simp[go_sem]at hbx2)
     have hA5_6:x5n17<x6n21:=by rw[←hbx];exact KA5.out.lt
     have hb6:W.heap.size≤x6n21:=by rw[←hbx];exact hS0.size
     replace KA5:=Z (KA5.out.alloc (.cells (mkA Mk.zero) 129))
     have KA6:=Blk.new0 Wh18 129 (mkA Mk.zero)
     rw[hbx]at KA6
     replace KA6:=Z KA6
     replace hS0:Below _ _ (Wh18.alloc (.cells (mkA Mk.zero) 129)):=hS0.alloc hS0.size _
     refine op_go (nd:=fun j=>true) (S:=fun w'=>Below W.heap.size W w') (i:=5) (fun _=>trivial) U rfl U (.pointer (some ⟨x6n21,0,none⟩)) (Wh18.alloc (.cells (mkA Mk.zero) 129)) (by first|(go_simp;done)|(go_simp;rfl)|(go_simp;exact⟨hbx2,rfl⟩)) (fun _=>hS0) ?_
     clear hbx hbx2
     refine S_one 3 U rfl (fun K hK=>?_)
     go_simp
     gi_wp2_with(gi_at_call 72; refine(callsIn_wide.2 (n2.out _)).mono ?_;rintro e Wh22 ⟨rfl,hN⟩)
     replace KA5:=hn_ KA5 hN
     replace KA6:=hn_ KA6 hN
     replace hS0:=hS0.trans (hN.mono hS0.size)
     clear hN
     refine⟨(fun _=>hS0),?_⟩
     have hS1:(fun w'=>Below W.heap.size W w') (setRow Wh22 (x5n17) 129 (mkA (marksM a))):=Below.row hS0 hb5 hS0.size
     refine S_store 6 (fun _=>trivial) U U rfl U (setRow Wh22 (x5n17) 129 (mkA (marksM a))) (exec_store _ _ rfl U U (stMk KA5.out rfl (marksM a))) (fun _=>hS1) ?_
     clear hS0
     have hS0:=hS1
     clear hS1
     replace KA6:=Z (Blk.rowOver (g':=x5n17) (t' := 129) (cs':=mkA (marksM a)) (by first|assumption|exact Nat.ne_of_lt (by assumption)|exact Nat.ne_of_gt (by assumption)|omega) KA6.out)
     replace KA5:=Z (Blk.row (t := 129) (cs:=mkA (marksM a)) KA5.out.lt)
     have hS1:(fun w'=>Below W.heap.size W w') (setRow (setRow Wh22 (x5n17) 129 (mkA (marksM a))) (x6n21) 129 (mkA (marksM b))):=Below.row hS0 hb6 hS0.size
     refine S_store 7 (fun _=>trivial) U U rfl U (setRow (setRow Wh22 (x5n17) 129 (mkA (marksM a))) (x6n21) 129 (mkA (marksM b))) (exec_store _ _ rfl U U (stMk KA6.out rfl (marksM b))) (fun _=>hS1) ?_
     clear hS0
     have hS0:=hS1
     clear hS1
     replace KA5:=Z (Blk.rowOver (g':=x6n21) (t' := 129) (cs':=mkA (marksM b)) (by first|assumption|exact Nat.ne_of_lt (by assumption)|exact Nat.ne_of_gt (by assumption)|omega) KA5.out)
     replace KA6:=Z (Blk.row (t := 129) (cs:=mkA (marksM b)) KA6.out.lt)
     refine⟨by kernel_rfl,rfl,?_⟩
     (try simp only[World.size_alloc]at hS0 KA5 KA6)
     go_wp2_with fail
     go_meet
     case rel =>
      refine⟨_,_,rfl,rfl,?_⟩
      (try simp only[World.size_alloc])
      exact⟨K0.out.below hS0,K1.out.below hS0,KA5.out,KA6.out,Below.on hS0 HB⟩
   ·show wpOpIn _ _ _ _ _ 5 _ _ _
    obtain⟨x6n23,hbx⟩:∃ x,(W.drew.alloc (.cells (mkA Mk.zero) 129)).heap.size=x:=⟨_,rfl⟩
    have hbx2:=hbx
    (try simp[go_sem]at hbx2)
    have hA5_6:x5n17<x6n23:=by rw[←hbx];exact KA5.out.lt
    have hb6:W.heap.size≤x6n23:=by rw[←hbx];exact hS0.size
    replace KA5:=Z (KA5.out.alloc (.cells (mkA Mk.zero) 129))
    have KA6:=Blk.new0 (W.drew.alloc (.cells (mkA Mk.zero) 129)) 129 (mkA Mk.zero)
    rw[hbx]at KA6
    replace KA6:=Z KA6
    replace hS0:Below _ _ ((W.drew.alloc (.cells (mkA Mk.zero) 129)).alloc (.cells (mkA Mk.zero) 129)):=hS0.alloc hS0.size _
    refine op_go (nd:=fun j=>true) (S:=fun w'=>Below W.heap.size W w') (i:=5) (fun _=>trivial) U rfl U (.pointer (some ⟨x6n23,0,none⟩)) ((W.drew.alloc (.cells (mkA Mk.zero) 129)).alloc (.cells (mkA Mk.zero) 129)) (by first|(go_simp;done)|(go_simp;rfl)|(go_simp;exact⟨hbx2,rfl⟩)) (fun _=>hS0) ?_
    clear hbx hbx2
    refine S_one 1 U rfl (fun K hK=>?_)
    go_simp
    gi_wp2_with(gi_at_call 72; refine(callsIn_wide.2 (n1.out _)).mono ?_;rintro e Wh24 ⟨rfl,hN⟩)
    replace KA5:=hn_ KA5 hN
    replace KA6:=hn_ KA6 hN
    replace hS0:=hS0.trans (hN.mono hS0.size)
    clear hN
    refine⟨(fun _=>hS0),?_⟩
    refine S_one 3 U rfl (fun K hK=>?_)
    go_simp
    gi_wp2_with(gi_at_call 72; refine(callsIn_wide.2 (n2.out _)).mono ?_;rintro e Wh25 ⟨rfl,hN⟩)
    replace KA5:=hn_ KA5 hN
    replace KA6:=hn_ KA6 hN
    replace hS0:=hS0.trans (hN.mono hS0.size)
    clear hN
    refine⟨(fun _=>hS0),?_⟩
    have hS1:(fun w'=>Below W.heap.size W w') (setRow Wh25 (x5n17) 129 (mkA (marksM a))):=Below.row hS0 hb5 hS0.size
    refine S_store 6 (fun _=>trivial) U U rfl U (setRow Wh25 (x5n17) 129 (mkA (marksM a))) (exec_store _ _ rfl U U (stMk KA5.out rfl (marksM a))) (fun _=>hS1) ?_
    clear hS0
    have hS0:=hS1
    clear hS1
    replace KA6:=Z (Blk.rowOver (g':=x5n17) (t' := 129) (cs':=mkA (marksM a)) (by first|assumption|exact Nat.ne_of_lt (by assumption)|exact Nat.ne_of_gt (by assumption)|omega) KA6.out)
    replace KA5:=Z (Blk.row (t := 129) (cs:=mkA (marksM a)) KA5.out.lt)
    have hS1:(fun w'=>Below W.heap.size W w') (setRow (setRow Wh25 (x5n17) 129 (mkA (marksM a))) (x6n23) 129 (mkA (marksM b))):=Below.row hS0 hb6 hS0.size
    refine S_store 7 (fun _=>trivial) U U rfl U (setRow (setRow Wh25 (x5n17) 129 (mkA (marksM a))) (x6n23) 129 (mkA (marksM b))) (exec_store _ _ rfl U U (stMk KA6.out rfl (marksM b))) (fun _=>hS1) ?_
    clear hS0
    have hS0:=hS1
    clear hS1
    replace KA5:=Z (Blk.rowOver (g':=x6n23) (t' := 129) (cs':=mkA (marksM b)) (by first|assumption|exact Nat.ne_of_lt (by assumption)|exact Nat.ne_of_gt (by assumption)|omega) KA5.out)
    replace KA6:=Z (Blk.row (t := 129) (cs:=mkA (marksM b)) KA6.out.lt)
    refine⟨by kernel_rfl,rfl,?_⟩
    (try simp only[World.size_alloc]at hS0 KA5 KA6)
    go_wp2_with fail
    go_meet
    case rel =>
     refine⟨_,_,rfl,rfl,?_⟩
     (try simp only[World.size_alloc])
     exact⟨K0.out.below hS0,K1.out.below hS0,KA5.out,KA6.out,Below.on hS0 HB⟩
  ·show wpOpIn _ _ _ _ _ 5 _ _ _
   obtain⟨x6n26,hbx⟩:∃ x,W.drew.heap.size=x:=⟨_,rfl⟩
   have hbx2:=hbx
   (try simp[go_sem]at hbx2)
   have hb6:W.heap.size≤x6n26:=by rw[←hbx];exact hS0.size
   have KA6:=Blk.new0 W.drew 129 (mkA Mk.zero)
   rw[hbx]at KA6
   replace KA6:=Z KA6
   replace hS0:Below _ _ (W.drew.alloc (.cells (mkA Mk.zero) 129)):=hS0.alloc hS0.size _
   refine op_go (nd:=fun j=>true) (S:=fun w'=>Below W.heap.size W w') (i:=5) (fun _=>trivial) U rfl U (.pointer (some ⟨x6n26,0,none⟩)) (W.drew.alloc (.cells (mkA Mk.zero) 129)) (by first|(go_simp;done)|(go_simp;rfl)|(go_simp;exact⟨hbx2,rfl⟩)) (fun _=>hS0) ?_
   clear hbx hbx2
   refine S_list [1,4] U (by decide) ⟨?_,?_,trivial⟩
   ·show wpOpIn _ _ _ _ _ 1 _ _ _
    refine op_call (nd:=fun j=>true) (S:=fun w'=>Below W.heap.size W w') (i:=1) rfl (fun K hK=>?_)
    go_simp
    gi_wp2_with(gi_at_call 72; refine(callsIn_wide.2 (n1.out _)).mono ?_;rintro e Wh27 ⟨rfl,hN⟩)
    replace KA6:=hn_ KA6 hN
    replace hS0:=hS0.trans (hN.mono hS0.size)
    clear hN
    refine⟨(fun _=>hS0),?_⟩
    refine S_list [3,4] U (by decide) ⟨?_,?_,trivial⟩
    ·show wpOpIn _ _ _ _ _ 3 _ _ _
     refine op_call (nd:=fun j=>true) (S:=fun w'=>Below W.heap.size W w') (i:=3) rfl (fun K hK=>?_)
     go_simp
     gi_wp2_with(gi_at_call 72; refine(callsIn_wide.2 (n2.out _)).mono ?_;rintro e Wh28 ⟨rfl,hN⟩)
     replace KA6:=hn_ KA6 hN
     replace hS0:=hS0.trans (hN.mono hS0.size)
     clear hN
     refine⟨(fun _=>hS0),?_⟩
     obtain⟨x5n29,hbx⟩:∃ x,Wh28.heap.size=x:=⟨_,rfl⟩
     have hbx2:=hbx
     (try simp[go_sem]at hbx2)
     have hA6_5:x6n26<x5n29:=by rw[←hbx];exact KA6.out.lt
     have hb5:W.heap.size≤x5n29:=by rw[←hbx];exact hS0.size
     replace KA6:=Z (KA6.out.alloc (.cells (mkA Mk.zero) 129))
     have KA5:=Blk.new0 Wh28 129 (mkA Mk.zero)
     rw[hbx]at KA5
     replace KA5:=Z KA5
     replace hS0:Below _ _ (Wh28.alloc (.cells (mkA Mk.zero) 129)):=hS0.alloc hS0.size _
     refine S_go 4 (fun _=>trivial) U U rfl U (.pointer (some ⟨x5n29,0,none⟩)) (Wh28.alloc (.cells (mkA Mk.zero) 129)) (by first|(go_simp;done)|(go_simp;rfl)|(go_simp;exact⟨hbx2,rfl⟩)) (fun _=>hS0) ?_
     clear hbx hbx2
     have hS1:(fun w'=>Below W.heap.size W w') (setRow (Wh28.alloc (.cells (mkA Mk.zero) 129)) (x5n29) 129 (mkA (marksM a))):=Below.row hS0 hb5 hS0.size
     refine S_store 6 (fun _=>trivial) U U rfl U (setRow (Wh28.alloc (.cells (mkA Mk.zero) 129)) (x5n29) 129 (mkA (marksM a))) (exec_store _ _ rfl U U (stMk KA5.out rfl (marksM a))) (fun _=>hS1) ?_
     clear hS0
     have hS0:=hS1
     clear hS1
     replace KA6:=Z (Blk.rowOver (g':=x5n29) (t' := 129) (cs':=mkA (marksM a)) (by first|assumption|exact Nat.ne_of_lt (by assumption)|exact Nat.ne_of_gt (by assumption)|omega) KA6.out)
     replace KA5:=Z (Blk.row (t := 129) (cs:=mkA (marksM a)) KA5.out.lt)
     have hS1:(fun w'=>Below W.heap.size W w') (setRow (setRow (Wh28.alloc (.cells (mkA Mk.zero) 129)) (x5n29) 129 (mkA (marksM a))) (x6n26) 129 (mkA (marksM b))):=Below.row hS0 hb6 hS0.size
     refine S_store 7 (fun _=>trivial) U U rfl U (setRow (setRow (Wh28.alloc (.cells (mkA Mk.zero) 129)) (x5n29) 129 (mkA (marksM a))) (x6n26) 129 (mkA (marksM b))) (exec_store _ _ rfl U U (stMk KA6.out rfl (marksM b))) (fun _=>hS1) ?_
     clear hS0
     have hS0:=hS1
     clear hS1
     replace KA5:=Z (Blk.rowOver (g':=x6n26) (t' := 129) (cs':=mkA (marksM b)) (by first|assumption|exact Nat.ne_of_lt (by assumption)|exact Nat.ne_of_gt (by assumption)|omega) KA5.out)
     replace KA6:=Z (Blk.row (t := 129) (cs:=mkA (marksM b)) KA6.out.lt)
     refine⟨by kernel_rfl,rfl,?_⟩
     (try simp only[World.size_alloc]at hS0 KA5 KA6)
     go_wp2_with fail
     go_meet
     case rel =>
      refine⟨_,_,rfl,rfl,?_⟩
      (try simp only[World.size_alloc])
      exact⟨K0.out.below hS0,K1.out.below hS0,KA5.out,KA6.out,Below.on hS0 HB⟩
    ·show wpOpIn _ _ _ _ _ 4 _ _ _
     obtain⟨x5n30,hbx⟩:∃ x,Wh27.heap.size=x:=⟨_,rfl⟩
     have hbx2:=hbx
     (try simp[go_sem]at hbx2)
     have hA6_5:x6n26<x5n30:=by rw[←hbx];exact KA6.out.lt
     have hb5:W.heap.size≤x5n30:=by rw[←hbx];exact hS0.size
     replace KA6:=Z (KA6.out.alloc (.cells (mkA Mk.zero) 129))
     have KA5:=Blk.new0 Wh27 129 (mkA Mk.zero)
     rw[hbx]at KA5
     replace KA5:=Z KA5
     replace hS0:Below _ _ (Wh27.alloc (.cells (mkA Mk.zero) 129)):=hS0.alloc hS0.size _
     refine op_go (nd:=fun j=>true) (S:=fun w'=>Below W.heap.size W w') (i:=4) (fun _=>trivial) U rfl U (.pointer (some ⟨x5n30,0,none⟩)) (Wh27.alloc (.cells (mkA Mk.zero) 129)) (by first|(go_simp;done)|(go_simp;rfl)|(go_simp;exact⟨hbx2,rfl⟩)) (fun _=>hS0) ?_
     clear hbx hbx2
     refine S_one 3 U rfl (fun K hK=>?_)
     go_simp
     gi_wp2_with(gi_at_call 72; refine(callsIn_wide.2 (n2.out _)).mono ?_;rintro e Wh31 ⟨rfl,hN⟩)
     replace KA6:=hn_ KA6 hN
     replace KA5:=hn_ KA5 hN
     replace hS0:=hS0.trans (hN.mono hS0.size)
     clear hN
     refine⟨(fun _=>hS0),?_⟩
     have hS1:(fun w'=>Below W.heap.size W w') (setRow Wh31 (x5n30) 129 (mkA (marksM a))):=Below.row hS0 hb5 hS0.size
     refine S_store 6 (fun _=>trivial) U U rfl U (setRow Wh31 (x5n30) 129 (mkA (marksM a))) (exec_store _ _ rfl U U (stMk KA5.out rfl (marksM a))) (fun _=>hS1) ?_
     clear hS0
     have hS0:=hS1
     clear hS1
     replace KA6:=Z (Blk.rowOver (g':=x5n30) (t' := 129) (cs':=mkA (marksM a)) (by first|assumption|exact Nat.ne_of_lt (by assumption)|exact Nat.ne_of_gt (by assumption)|omega) KA6.out)
     replace KA5:=Z (Blk.row (t := 129) (cs:=mkA (marksM a)) KA5.out.lt)
     have hS1:(fun w'=>Below W.heap.size W w') (setRow (setRow Wh31 (x5n30) 129 (mkA (marksM a))) (x6n26) 129 (mkA (marksM b))):=Below.row hS0 hb6 hS0.size
     refine S_store 7 (fun _=>trivial) U U rfl U (setRow (setRow Wh31 (x5n30) 129 (mkA (marksM a))) (x6n26) 129 (mkA (marksM b))) (exec_store _ _ rfl U U (stMk KA6.out rfl (marksM b))) (fun _=>hS1) ?_
     clear hS0
     have hS0:=hS1
     clear hS1
     replace KA5:=Z (Blk.rowOver (g':=x6n26) (t' := 129) (cs':=mkA (marksM b)) (by first|assumption|exact Nat.ne_of_lt (by assumption)|exact Nat.ne_of_gt (by assumption)|omega) KA5.out)
     replace KA6:=Z (Blk.row (t := 129) (cs:=mkA (marksM b)) KA6.out.lt)
     refine⟨by kernel_rfl,rfl,?_⟩
     (try simp only[World.size_alloc]at hS0 KA5 KA6)
     go_wp2_with fail
     go_meet
     case rel =>
      refine⟨_,_,rfl,rfl,?_⟩
      (try simp only[World.size_alloc])
      exact⟨K0.out.below hS0,K1.out.below hS0,KA5.out,KA6.out,Below.on hS0 HB⟩
   ·show wpOpIn _ _ _ _ _ 4 _ _ _
    obtain⟨x5n32,hbx⟩:∃ x,(W.drew.alloc (.cells (mkA Mk.zero) 129)).heap.size=x:=⟨_,rfl⟩
    have hbx2:=hbx
    (try simp[go_sem]at hbx2)
    have hA6_5:x6n26<x5n32:=by rw[←hbx];exact KA6.out.lt
    have hb5:W.heap.size≤x5n32:=by rw[←hbx];exact hS0.size
    replace KA6:=Z (KA6.out.alloc (.cells (mkA Mk.zero) 129))
    have KA5:=Blk.new0 (W.drew.alloc (.cells (mkA Mk.zero) 129)) 129 (mkA Mk.zero)
    rw[hbx]at KA5
    replace KA5:=Z KA5
    replace hS0:Below _ _ ((W.drew.alloc (.cells (mkA Mk.zero) 129)).alloc (.cells (mkA Mk.zero) 129)):=hS0.alloc hS0.size _
    refine op_go (nd:=fun j=>true) (S:=fun w'=>Below W.heap.size W w') (i:=4) (fun _=>trivial) U rfl U (.pointer (some ⟨x5n32,0,none⟩)) ((W.drew.alloc (.cells (mkA Mk.zero) 129)).alloc (.cells (mkA Mk.zero) 129)) (by first|(go_simp;done)|(go_simp;rfl)|(go_simp;exact⟨hbx2,rfl⟩)) (fun _=>hS0) ?_
    clear hbx hbx2
    refine S_one 1 U rfl (fun K hK=>?_)
    go_simp
    gi_wp2_with(gi_at_call 72; refine(callsIn_wide.2 (n1.out _)).mono ?_;rintro e Wh33 ⟨rfl,hN⟩)
    replace KA6:=hn_ KA6 hN
    replace KA5:=hn_ KA5 hN
    replace hS0:=hS0.trans (hN.mono hS0.size)
    clear hN
    refine⟨(fun _=>hS0),?_⟩
    refine S_one 3 U rfl (fun K hK=>?_)
    go_simp
    gi_wp2_with(gi_at_call 72; refine(callsIn_wide.2 (n2.out _)).mono ?_;rintro e Wh34 ⟨rfl,hN⟩)
    replace KA6:=hn_ KA6 hN
    replace KA5:=hn_ KA5 hN
    replace hS0:=hS0.trans (hN.mono hS0.size)
    clear hN
    refine⟨(fun _=>hS0),?_⟩
    have hS1:(fun w'=>Below W.heap.size W w') (setRow Wh34 (x5n32) 129 (mkA (marksM a))):=Below.row hS0 hb5 hS0.size
    refine S_store 6 (fun _=>trivial) U U rfl U (setRow Wh34 (x5n32) 129 (mkA (marksM a))) (exec_store _ _ rfl U U (stMk KA5.out rfl (marksM a))) (fun _=>hS1) ?_
    clear hS0
    have hS0:=hS1
    clear hS1
    replace KA6:=Z (Blk.rowOver (g':=x5n32) (t' := 129) (cs':=mkA (marksM a)) (by first|assumption|exact Nat.ne_of_lt (by assumption)|exact Nat.ne_of_gt (by assumption)|omega) KA6.out)
    replace KA5:=Z (Blk.row (t := 129) (cs:=mkA (marksM a)) KA5.out.lt)
    have hS1:(fun w'=>Below W.heap.size W w') (setRow (setRow Wh34 (x5n32) 129 (mkA (marksM a))) (x6n26) 129 (mkA (marksM b))):=Below.row hS0 hb6 hS0.size
    refine S_store 7 (fun _=>trivial) U U rfl U (setRow (setRow Wh34 (x5n32) 129 (mkA (marksM a))) (x6n26) 129 (mkA (marksM b))) (exec_store _ _ rfl U U (stMk KA6.out rfl (marksM b))) (fun _=>hS1) ?_
    clear hS0
    have hS0:=hS1
    clear hS1
    replace KA5:=Z (Blk.rowOver (g':=x6n26) (t' := 129) (cs':=mkA (marksM b)) (by first|assumption|exact Nat.ne_of_lt (by assumption)|exact Nat.ne_of_gt (by assumption)|omega) KA5.out)
    replace KA6:=Z (Blk.row (t := 129) (cs:=mkA (marksM b)) KA6.out.lt)
    refine⟨by kernel_rfl,rfl,?_⟩
    (try simp only[World.size_alloc]at hS0 KA5 KA6)
    go_wp2_with fail
    go_meet
    case rel =>
     refine⟨_,_,rfl,rfl,?_⟩
     (try simp only[World.size_alloc])
     exact⟨K0.out.below hS0,K1.out.below hS0,KA5.out,KA6.out,Below.on hS0 HB⟩
 case rest =>
  obtain⟨b1,b2,rfl,rfl,hW⟩:=hcut
  have j0:=Z hW.1
  have j1:=Z hW.2.1
  have j2:=Z hW.2.2.1
  have j3:=Z hW.2.2.2.1
  have HBn:=hW.2.2.2.2
  clear hW k0 f0 l0 m0 k1 f1 l1 m1 K0 K1 HB n1 n2
  have K0:=j0;have K1:=j1;have K2:=j2;have K3:=j3;have HB:=HBn
  clear j0 j1 j2 j3 HBn
  obtain⟨cl,hcl⟩:∃ cl,cmpL (marksM a) (marksM b) a b=cl:=⟨_,rfl⟩
  unfold cmpL at hcl
  have hv2:=hv.out
  generalize marksM a=x at *
  generalize marksM b=y at *
  have n1:∀ (p q:Int) (W:World),Calls Tryz.prog 73 #[.int .i64 p,.int .i64 q] W (fun e w'=>e=.returned (.int .i64 (cmpP p q))∧w'=W):=cmpI_calls
  have n2:∀ (p q:Int) (W:World),Calls Tryz.prog 74 #[.int .u64 p,.int .u64 q] W (fun e w'=>e=.returned (.int .i64 (cmpP p q))∧w'=W):=cmpU_calls
  replace n1:=Z n1
  replace n2:=Z n2
  replace hcl:=Z hcl
  go_upto_region 3 with fail
  refine wp_label ?_
  go_upto_region 3 with fail
  obtain⟨W,hWc⟩:∃ W,W=wc:=⟨_,rfl⟩
  subst hWc
  have hwf:∀ f,Fence.wide.fn f:=fun _=>trivial
  refine(wpIn_wide (n:=9)).1 ?_
  refine wpIn_round_held (fun w'=>Below W.heap.size W w') (fun j=>true) U ?_
  have hS0:(fun w'=>Below W.heap.size W w') W.drew:=(Below.refl _ _).drew
  refine S_tg 0 (.pointer (some ⟨b1,0,none⟩)) rfl hS0 ?_
  refine S_tk 1 (.int .i64 x.many) rfl hS0 (fun w' hw=>exec_load rfl U (run_load_cell (i:=0) (K2.out.below hw) rfl szInt nrInt)) ?_
  refine S_tg 2 (.pointer (some ⟨b2,0,none⟩)) rfl hS0 ?_
  refine S_tk 3 (.int .i64 y.many) rfl hS0 (fun w' hw=>exec_load rfl U (run_load_cell (i:=0) (K3.out.below hw) rfl szInt nrInt)) ?_
  refine S_tg 5 (.pointer (some ⟨b1,1,none⟩)) rfl hS0 ?_
  refine S_tk 6 (.int .i64 x.few) rfl hS0 (fun w' hw=>exec_load rfl U (run_load_cell (i:=1) (K2.out.below hw) rfl szInt nrInt)) ?_
  refine S_tg 7 (.pointer (some ⟨b2,1,none⟩)) rfl hS0 ?_
  refine S_tk 8 (.int .i64 y.few) rfl hS0 (fun w' hw=>exec_load rfl U (run_load_cell (i:=1) (K3.out.below hw) rfl szInt nrInt)) ?_
  refine S_tg 10 (.pointer (some ⟨b1,2,none⟩)) rfl hS0 ?_
  refine S_tk 11 (.int .i64 x.next) rfl hS0 (fun w' hw=>exec_load rfl U (run_load_cell (i:=2) (K2.out.below hw) rfl szInt nrInt)) ?_
  refine S_tg 12 (.pointer (some ⟨b2,2,none⟩)) rfl hS0 ?_
  refine S_tk 13 (.int .i64 y.next) rfl hS0 (fun w' hw=>exec_load rfl U (run_load_cell (i:=2) (K3.out.below hw) rfl szInt nrInt)) ?_
  refine S_tg 15 (.pointer (some ⟨b1,3,none⟩)) rfl hS0 ?_
  refine S_tk 16 (.int .i64 x.final) rfl hS0 (fun w' hw=>exec_load rfl U (run_load_cell (i:=3) (K2.out.below hw) rfl szInt nrInt)) ?_
  refine S_tg 17 (.pointer (some ⟨b2,3,none⟩)) rfl hS0 ?_
  refine S_tk 18 (.int .i64 y.final) rfl hS0 (fun w' hw=>exec_load rfl U (run_load_cell (i:=3) (K3.out.below hw) rfl szInt nrInt)) ?_
  refine S_tg 20 (.pointer (some ⟨b1,4,none⟩)) rfl hS0 ?_
  refine S_tk 21 (.int .i64 x.own) rfl hS0 (fun w' hw=>exec_load rfl U (run_load_cell (i:=4) (K2.out.below hw) rfl szInt nrInt)) ?_
  refine S_tg 22 (.pointer (some ⟨b2,4,none⟩)) rfl hS0 ?_
  refine S_tk 23 (.int .i64 y.own) rfl hS0 (fun w' hw=>exec_load rfl U (run_load_cell (i:=4) (K3.out.below hw) rfl szInt nrInt)) ?_
  refine S_tg 25 (.pointer (some ⟨b1,5,none⟩)) rfl hS0 ?_
  refine S_tk 26 (.int .i64 x.all) rfl hS0 (fun w' hw=>exec_load rfl U (run_load_cell (i:=5) (K2.out.below hw) rfl szInt nrInt)) ?_
  refine S_tg 27 (.pointer (some ⟨b2,5,none⟩)) rfl hS0 ?_
  refine S_tk 28 (.int .i64 y.all) rfl hS0 (fun w' hw=>exec_load rfl U (run_load_cell (i:=5) (K3.out.below hw) rfl szInt nrInt)) ?_
  refine S_tg 30 (.pointer (some ⟨(g+1),0,none⟩)) rfl hS0 ?_
  refine S_tg 31 (.pointer (some ⟨(g+1),0,none⟩)) rfl hS0 ?_
  refine S_tg 32 (.pointer (some ⟨(g+1),0,none⟩)) rfl hS0 ?_
  refine S_tk 33 (.int .u64 (b.seen.b.slot:Int)) rfl hS0 (fun w' hw=>exec_load rfl U (run_load_cell (i:=0) (K1.out.below hw) rfl szU64 nrU64)) ?_
  refine S_tg 34 (.pointer (some ⟨g,0,none⟩)) rfl hS0 ?_
  refine S_tg 35 (.pointer (some ⟨g,0,none⟩)) rfl hS0 ?_
  refine S_tg 36 (.pointer (some ⟨g,0,none⟩)) rfl hS0 ?_
  refine S_tk 37 (.int .u64 (a.seen.b.slot:Int)) rfl hS0 (fun w' hw=>exec_load rfl U (run_load_cell (i:=0) (K0.out.below hw) rfl szU64 nrU64)) ?_
  refine S_tg 39 (.pointer (some ⟨(g+1),24,none⟩)) rfl hS0 ?_
  refine S_tk 40 (.int .u64 (b.slot:Int)) rfl hS0 (fun w' hw=>exec_load rfl U (run_load_cell (i:=24) (K1.out.below hw) rfl szU64 nrU64)) ?_
  refine S_tg 41 (.pointer (some ⟨g,24,none⟩)) rfl hS0 ?_
  refine S_tk 42 (.int .u64 (a.slot:Int)) rfl hS0 (fun w' hw=>exec_load rfl U (run_load_cell (i:=24) (K0.out.below hw) rfl szU64 nrU64)) ?_
  refine S_tg 46 (.int .i64 0) rfl hS0 ?_
  refine S_one 4 U rfl (fun K hK=>?_)
  go_simp
  gi_wp2_with(gi_at_call 73; refine(callsIn_wide.2 (n1.out _ _ _)).mono ?_;rintro e Wh1 ⟨rfl,hN⟩;obtain rfl:W.drew=Wh1:=(by first|exact hN|exact hN.symm))
  refine⟨(fun _=>hS0),?_⟩
  refine S_one 9 U rfl (fun K hK=>?_)
  go_simp
  gi_wp2_with(gi_at_call 73; refine(callsIn_wide.2 (n1.out _ _ _)).mono ?_;rintro e Wh2 ⟨rfl,hN⟩;obtain rfl:W.drew=Wh2:=(by first|exact hN|exact hN.symm))
  refine⟨(fun _=>hS0),?_⟩
  refine S_one 14 U rfl (fun K hK=>?_)
  go_simp
  gi_wp2_with(gi_at_call 73; refine(callsIn_wide.2 (n1.out _ _ _)).mono ?_;rintro e Wh3 ⟨rfl,hN⟩;obtain rfl:W.drew=Wh3:=(by first|exact hN|exact hN.symm))
  refine⟨(fun _=>hS0),?_⟩
  refine S_one 19 U rfl (fun K hK=>?_)
  go_simp
  gi_wp2_with(gi_at_call 73; refine(callsIn_wide.2 (n1.out _ _ _)).mono ?_;rintro e Wh4 ⟨rfl,hN⟩;obtain rfl:W.drew=Wh4:=(by first|exact hN|exact hN.symm))
  refine⟨(fun _=>hS0),?_⟩
  refine S_one 24 U rfl (fun K hK=>?_)
  go_simp
  gi_wp2_with(gi_at_call 73; refine(callsIn_wide.2 (n1.out _ _ _)).mono ?_;rintro e Wh5 ⟨rfl,hN⟩;obtain rfl:W.drew=Wh5:=(by first|exact hN|exact hN.symm))
  refine⟨(fun _=>hS0),?_⟩
  refine S_one 29 U rfl (fun K hK=>?_)
  go_simp
  gi_wp2_with(gi_at_call 73; refine(callsIn_wide.2 (n1.out _ _ _)).mono ?_;rintro e Wh6 ⟨rfl,hN⟩;obtain rfl:W.drew=Wh6:=(by first|exact hN|exact hN.symm))
  refine⟨(fun _=>hS0),?_⟩
  refine S_one 38 U rfl (fun K hK=>?_)
  go_simp
  gi_wp2_with(gi_at_call 74; refine(callsIn_wide.2 (n2.out _ _ _)).mono ?_;rintro e Wh7 ⟨rfl,hN⟩;obtain rfl:W.drew=Wh7:=(by first|exact hN|exact hN.symm))
  refine⟨(fun _=>hS0),?_⟩
  refine S_one 43 U rfl (fun K hK=>?_)
  go_simp
  gi_wp2_with(gi_at_call 74; refine(callsIn_wide.2 (n2.out _ _ _)).mono ?_;rintro e Wh8 ⟨rfl,hN⟩;obtain rfl:W.drew=Wh8:=(by first|exact hN|exact hN.symm))
  refine⟨(fun _=>hS0),?_⟩
  replace hS0:Below _ _ (W.drew.alloc (.cells #[.int .i64 (cmpP x.many y.many),.int .i64 (cmpP x.few y.few),.int .i64 (cmpP x.next y.next),.int .i64 (cmpP x.final y.final),.int .i64 (cmpP x.own y.own),.int .i64 (cmpP x.all y.all),.int .i64 (cmpP (b.seen.b.slot:Int) (a.seen.b.slot:Int)),.int .i64 (cmpP (b.slot:Int) (a.slot:Int))] 3)):=hS0.alloc hS0.size _
  refine S_go 44 (fun _=>trivial) U U rfl U (.slice (some ⟨W.drew.heap.size,0,none⟩) 8 8) (W.drew.alloc (.cells #[.int .i64 (cmpP x.many y.many),.int .i64 (cmpP x.few y.few),.int .i64 (cmpP x.next y.next),.int .i64 (cmpP x.final y.final),.int .i64 (cmpP x.own y.own),.int .i64 (cmpP x.all y.all),.int .i64 (cmpP (b.seen.b.slot:Int) (a.seen.b.slot:Int)),.int .i64 (cmpP (b.slot:Int) (a.slot:Int))] 3)) (by first|(go_simp;done)|(go_simp;rfl)|(go_simp;exact⟨hbx2,rfl⟩)) (fun _=>hS0) ?_
  refine S_tg 45 (.int .i64 8) rfl hS0 ?_
  refine⟨by kernel_rfl,rfl,?_⟩
  have KL:=Z (show Blk (W.drew.alloc (.cells #[.int .i64 (cmpP x.many y.many),.int .i64 (cmpP x.few y.few),.int .i64 (cmpP x.next y.next),.int .i64 (cmpP x.final y.final),.int .i64 (cmpP x.own y.own),.int .i64 (cmpP x.all y.all),.int .i64 (cmpP (b.seen.b.slot:Int) (a.seen.b.slot:Int)),.int .i64 (cmpP (b.slot:Int) (a.slot:Int))] 3)) W.drew.heap.size 3 (cl.map fun n=>Value.int .i64 n).toArray by rw[←hcl.out];exact Blk.new0 W.drew _ _)
  have hlen:cl.length=8:=by rw[←hcl.out];rfl
  have hBf:=hS0
  generalize hWN:W.drew.alloc _=WN at KL hBf ⊢
  have KM:Blk WN W.heap.size 3 (cl.map fun n=>Value.int .i64 n).toArray:=KL.out
  replace KM:=Z KM
  have hBe:Below w.heap.size w WN:=Below.on hBf HB
  have hr:firstB cl=r:=by rw[←hcl.out];exact hv.out
  replace hr:=Z hr
  clear hWN hS0 hwf K0 K1 K2 K3 HB hcl hv2 hv n1 n2 hBf
  have hcell:∀ k,k<8→WN.cell? ⟨W.heap.size,k,none⟩=some (.int .i64 (cl.getD k 0)):=fun k hk=>by
   rw[KM.out.cell]
   have:k<cl.length:=by omega
   simp[List.getD,List.getElem?_eq_getElem this]
  replace hcell:=Z hcell
  replace hlen:=Z hlen
  clear KL KM
  go_simp
  go_wp2_with fail
  go_loop [7,60] (fun t i=>t=.bool false∧∃ k:Nat,k≤8∧i=.int .i64 k∧ZeroTo cl k) (fun _ i=>(8 - intOf i).toNat)
  case atStart=>exact⟨rfl,0,by omega,rfl,fun j hj=>absurd hj (by omega)⟩
  case round =>
   obtain⟨rfl,k,hk,rfl,hz⟩:=hrel
   replace hz:=Z hz
   by_cases hlt:k<8
   ·have hc:=hcell.out k hlt
    obtain⟨n,hn⟩:∃ n,cl.getD k 0=n:=⟨_,rfl⟩
    rw[hn]at hc
    replace hn:=Z hn
    by_cases h0:n=0
    ·have hz2:ZeroTo cl (k+1):=fun j hj=>by
      by_cases hjk:j=k
      ·rw[hjk,hn.out,h0]
      ·exact hz.out j (by omega)
     replace hz2:=Z hz2
     have h0b:(n != 0)=false:=by simp[h0]
     clear h0
     go_wp2_with fail
     go_round
     case rel=>exact⟨rfl,k+1,by omega,by go_num,hz2.out⟩
     case measure=>simp[intOf];omega
    ·have hd:decide (0<n)=r:=by rw[←hr.out,←hn.out];exact(first_at cl k (by rw[hlen.out];omega) hz.out (by rw[hn.out];exact h0)).symm
     have h0b:(n != 0)=true:=by simp[h0]
     clear h0
     go_wp2_with fail
     (try rw[Exit.noGoto_ret])
     go_ret
     exact⟨rfl,hBe⟩
   ·have hk8:k=8:=by omega
    have hd:r=false:=by rw[←hr.out];exact first_none cl fun j hj=>hz.out j (by rw[hlen.out]at hj;omega)
    subst hk8
    subst hd
    go_wp2_with fail
    (try rw[Exit.noGoto_ret])
    go_ret
    exact⟨rfl,hBe⟩
end
end Go.Proofs.YtobgigcdpiikaaaGreatDoor
