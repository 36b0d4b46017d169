/- Plain laws and walks, each by its own conditions. -/
import Derived.Test.YtegaaccioppfjaaGreatDoorFm21
import Derived.Test.YtegaaccioppfjaaGreatDoorFm17
import Derived.Test.YtegaaccioppfjaaGreatDoorFm22
import Derived.Test.YtegaaccioppfjaaGreatDoorFm24
import Derived.Test.YtegaaccioppfjaaGreatDoorFm16
import Derived.Test.YtegaaccioppfjaaGreatDoorFm2
import Derived.Test.YtegaaccioppfjaaGreatDoorFm10
set_option linter.unusedSimpArgs false
set_option linter.unusedVariables false
set_option maxRecDepth 100000
set_option maxHeartbeats 16000000
section
namespace Go.Proofs.YtegaaccioppfjaaGreatDoor
open BigFrame Go.RowKit Go.Phx Go.Shelf
attribute [local go_sem] Oper.semAt_some

theorem rchunks_calls (h : Hd) (w : World) (hh : HdIn w h) : Calls Tryz.prog 93 #[hdV h] w (fun e w' => ∃ g, e = .returned (.slice (some ⟨g, 0, none⟩) 5 5) ∧ Txts w' (some ⟨g, 0, none⟩) (hdL h) ∧ Below w.heap.size w w') := by
 have n1 := fun W => rnumber_calls h.slot hh.1 W
 have n2 := fun W => rnumber_calls h.prop hh.2.1 W
 have n3 : ∀ W : World, Txts (W.alloc (.cells #[.string (bs (numP h.slot)), .string (bs (numP h.prop)), .string (bs h.parent), .string (bs h.state), .string (bs h.body)] 9)) (some ⟨W.heap.size, 0, none⟩) (hdL h) := fun W => txts_new W (hdL h)
 generalize hdL h = L at *
 generalize numP h.slot = a at *
 generalize numP h.prop = b at *
 have K0 := Lib.hid (Blk.new0 w 24 (hdA h))
 replace n1 := Lib.hid n1
 replace n2 := Lib.hid n2
 replace n3 := Lib.hid n3
 clear hh
 go_enter Tryz.func93, Tryz.ntmps93
 go_wp2_with fail
 have hB0 : Below w.heap.size w (w.alloc (.cells (hdA h) 24)) := bel
 obtain ⟨W, hW⟩ : ∃ W, w.alloc (.cells (hdA h) 24) = W := ⟨_, rfl⟩
 rw [hW] at K0 hB0 ⊢
 obtain ⟨g, hg⟩ : ∃ g, w.heap.size = g := ⟨_, rfl⟩
 rw [hg] at K0 ⊢
 replace hB0 := Lib.hid hB0
 clear hW
 replace hg := Lib.hid hg
 have hwf : ∀ f, Fence.wide.fn f := fun _ => trivial
 refine (wpIn_wide (n := 9)).1 ?_
 refine wpIn_round_held (fun w' => Below W.heap.size W w') (fun j => true) (by kernel_rfl) ?_
 have hS0 : (fun w' => Below W.heap.size W w') W.drew := (Below.refl _ _).drew
 refine S_tg 0 (.pointer (some ⟨g, 0, none⟩)) rfl hS0 ?_
 refine S_tk 1 (.int .u64 (h.slot : Int)) rfl hS0 (fun w' hw => exec_load rfl (by kernel_rfl) (run_load_cell (i := 0) (K0.out.below hw) rfl szU64 nrU64)) ?_
 refine S_tg 3 (.pointer (some ⟨g, 1, none⟩)) rfl hS0 ?_
 refine S_tk 4 (.int .u64 (h.prop : Int)) rfl hS0 (fun w' hw => exec_load rfl (by kernel_rfl) (run_load_cell (i := 1) (K0.out.below hw) rfl szU64 nrU64)) ?_
 refine S_tg 6 (.pointer (some ⟨g, 2, none⟩)) rfl hS0 ?_
 refine S_tk 7 (.string (bs h.parent)) rfl hS0 (fun w' hw => exec_load rfl (by kernel_rfl) (run_load_cell (i := 2) (K0.out.below hw) rfl szStr nrStr)) ?_
 refine S_tg 8 (.pointer (some ⟨g, 3, none⟩)) rfl hS0 ?_
 refine S_tk 9 (.string (bs h.state)) rfl hS0 (fun w' hw => exec_load rfl (by kernel_rfl) (run_load_cell (i := 3) (K0.out.below hw) rfl szStr nrStr)) ?_
 refine S_tg 10 (.pointer (some ⟨g, 4, none⟩)) rfl hS0 ?_
 refine S_tk 11 (.string (bs h.body)) rfl hS0 (fun w' hw => exec_load rfl (by kernel_rfl) (run_load_cell (i := 4) (K0.out.below hw) rfl szStr nrStr)) ?_
 refine S_one 2 (by kernel_rfl) rfl (fun K hK => ?_)
 go_simp
 gi_wp2_with (gi_at_call 91; refine (callsIn_wide.2 (n1.out _)).mono ?_; rintro e Wh1 ⟨rfl, hN⟩)
 replace hS0 := hS0.trans (hN.mono hS0.size)
 clear hN
 refine ⟨(fun _ => hS0), ?_⟩
 refine S_one 5 (by kernel_rfl) rfl (fun K hK => ?_)
 go_simp
 gi_wp2_with (gi_at_call 91; refine (callsIn_wide.2 (n2.out _)).mono ?_; rintro e Wh2 ⟨rfl, hN⟩)
 replace hS0 := hS0.trans (hN.mono hS0.size)
 clear hN
 refine ⟨(fun _ => hS0), ?_⟩
 replace hS0 : Below _ _ (Wh2.alloc (.cells #[.string (bs a), .string (bs b), .string (bs h.parent), .string (bs h.state), .string (bs h.body)] 9)) := hS0.alloc hS0.size _
 refine S_go 12 (fun _ => trivial) (by kernel_rfl) (by kernel_rfl) rfl (by kernel_rfl) (.slice (some ⟨Wh2.heap.size, 0, none⟩) 5 5) (Wh2.alloc (.cells #[.string (bs a), .string (bs b), .string (bs h.parent), .string (bs h.state), .string (bs h.body)] 9)) (by first | (go_simp; done) | (go_simp; rfl) | (go_simp; exact ⟨hbx2, rfl⟩)) (fun _ => hS0) ?_
 refine S_tg 13 (.slice (some ⟨Wh2.heap.size, 0, none⟩) 5 5) rfl hS0 ?_
 refine ⟨by kernel_rfl, rfl, ?_⟩
 have hT := Lib.hid (n3.out Wh2)
 go_wp2_with fail
 go_ret
 exact ⟨_, rfl, hT.out, Below.on hS0 hB0.out⟩
theorem rhroot_calls (h : Hd) (w : World) (hh : HdIn w h) : Calls Tryz.prog 35 #[hdV h] w (Ret w (.tuple #[.string (bs (hdRoot h)), .int .i64 (hdE h)])) := by
 have n1 := fun W (hB : Below w.heap.size w W) => rchunks_calls h W (hh.below hB)
 have n2 : ∀ W g, Txts W (some ⟨g, 0, none⟩) (hdL h) → Calls Tryz.prog 92 #[.slice (some ⟨g, 0, none⟩) 5 5, .int .i64 3] W (Ret W (rootV (hdL h) 3)) := fun W g hs => zrroot_calls (some ⟨g, 0, none⟩) 5 (hdL h) 3 (hdL_le hh) W hs
 have K0 := Lib.hid (Blk.new0 w 24 (hdA h))
 unfold rootV at n2
 unfold hdRoot hdE hdOk
 by_cases hR : RightP (hdL h) 3
 ·rw [if_pos hR] at n2
  rw [decide_eq_true hR, if_pos rfl, if_pos rfl]
  rw [show (3 : Int).toNat = 3 from rfl] at n2
  generalize rootP (hdL h) 3 = r at *
  replace n1 := Lib.hid n1
  replace n2 := Lib.hid n2
  clear hR hh
  go_enter Tryz.func35, Tryz.ntmps35
  go_wp2_with fail
  refine (n1.out _ bel).mono ?_
  rintro e w1 ⟨g, rfl, hs, h1⟩
  have hB1 : Below w.heap.size w w1 := Below.on h1 bel
  replace hs := Lib.hid hs
  clear h1
  go_wp2_with fail
  refine (n2.out _ _ hs.out).mono ?_
  rintro e w2 ⟨rfl, h2⟩
  go_wp2_with fail
  go_ret2
  exact ⟨rfl, Below.on h2 hB1⟩
 ·rw [if_neg hR] at n2
  rw [decide_eq_false hR, if_neg (by simp), if_neg (by simp)]
  replace n1 := Lib.hid n1
  replace n2 := Lib.hid n2
  clear hR hh
  go_enter Tryz.func35, Tryz.ntmps35
  go_wp2_with fail
  refine (n1.out _ bel).mono ?_
  rintro e w1 ⟨g, rfl, hs, h1⟩
  have hB1 : Below w.heap.size w w1 := Below.on h1 bel
  replace hs := Lib.hid hs
  clear h1
  go_wp2_with fail
  refine (n2.out _ _ hs.out).mono ?_
  rintro e w2 ⟨rfl, h2⟩
  go_wp2_with fail
  go_ret2
  exact ⟨rfl, Below.on h2 hB1⟩
theorem reroot_calls (x : Ex) (w : World) (hh : ExIn w x) : Calls Tryz.prog 103 #[exV x] w (Ret w (.tuple #[.string (bs (exRoot x)), .int .i64 (exE x)])) := by
 have n1 := fun W => rnumber_calls x.num hh.2.2 W
 have n2 : ∀ W : World, Calls Tryz.prog 92 #[.slice (some ⟨W.heap.size, 0, none⟩) 3 3, .int .i64 2] (W.alloc (.cells #[.string (bs x.acc), .string (bs x.rcp), .string (bs (numP x.num))] 9)) (Ret (W.alloc (.cells #[.string (bs x.acc), .string (bs x.rcp), .string (bs (numP x.num))] 9)) (rootV (exL x) 2)) := fun W => zrroot_calls (some ⟨W.heap.size, 0, none⟩) 3 (exL x) 2 (exL_le hh) _ (txts_new W (exL x))
 have K0 := Lib.hid (Blk.new0 w 26 (exA x))
 unfold rootV at n2
 unfold exRoot exE exOk
 by_cases hR : RightP (exL x) 2
 ·rw [if_pos hR] at n2
  rw [decide_eq_true hR, if_pos rfl, if_pos rfl]
  rw [show (2 : Int).toNat = 2 from rfl] at n2
  generalize rootP (exL x) 2 = r at *
  generalize numP x.num = a at *
  replace n1 := Lib.hid n1
  replace n2 := Lib.hid n2
  clear hR hh
  go_enter Tryz.func103, Tryz.ntmps103
  go_wp2_with fail
  have hB0 : Below w.heap.size w (w.alloc (.cells (exA x) 26)) := bel
  obtain ⟨W, hW⟩ : ∃ W, w.alloc (.cells (exA x) 26) = W := ⟨_, rfl⟩
  rw [hW] at K0 hB0 ⊢
  obtain ⟨g, hg⟩ : ∃ g, w.heap.size = g := ⟨_, rfl⟩
  rw [hg] at K0 ⊢
  replace hB0 := Lib.hid hB0
  clear hW
  replace hg := Lib.hid hg
  have hwf : ∀ f, Fence.wide.fn f := fun _ => trivial
  refine (wpIn_wide (n := 9)).1 ?_
  refine wpIn_round_held (fun w' => Below W.heap.size W w') (fun j => true) (by kernel_rfl) ?_
  have hS0 : (fun w' => Below W.heap.size W w') W.drew := (Below.refl _ _).drew
  refine S_tg 0 (.pointer (some ⟨g, 0, none⟩)) rfl hS0 ?_
  refine S_tk 1 (.string (bs x.acc)) rfl hS0 (fun w' hw => exec_load rfl (by kernel_rfl) (run_load_cell (i := 0) (K0.out.below hw) rfl szStr nrStr)) ?_
  refine S_tg 2 (.pointer (some ⟨g, 1, none⟩)) rfl hS0 ?_
  refine S_tk 3 (.string (bs x.rcp)) rfl hS0 (fun w' hw => exec_load rfl (by kernel_rfl) (run_load_cell (i := 1) (K0.out.below hw) rfl szStr nrStr)) ?_
  refine S_tg 4 (.pointer (some ⟨g, 2, none⟩)) rfl hS0 ?_
  refine S_tk 5 (.int .u64 (x.num : Int)) rfl hS0 (fun w' hw => exec_load rfl (by kernel_rfl) (run_load_cell (i := 2) (K0.out.below hw) rfl szU64 nrU64)) ?_
  refine S_one 6 (by kernel_rfl) rfl (fun K hK => ?_)
  go_simp
  gi_wp2_with (gi_at_call 91; refine (callsIn_wide.2 (n1.out _)).mono ?_; rintro e Wh1 ⟨rfl, hN⟩)
  replace hS0 := hS0.trans (hN.mono hS0.size)
  clear hN
  refine ⟨(fun _ => hS0), ?_⟩
  replace hS0 : Below _ _ (Wh1.alloc (.cells #[.string (bs x.acc), .string (bs x.rcp), .string (bs a)] 9)) := hS0.alloc hS0.size _
  refine S_go 7 (fun _ => trivial) (by kernel_rfl) (by kernel_rfl) rfl (by kernel_rfl) (.slice (some ⟨Wh1.heap.size, 0, none⟩) 3 3) (Wh1.alloc (.cells #[.string (bs x.acc), .string (bs x.rcp), .string (bs a)] 9)) (by first | (go_simp; done) | (go_simp; rfl) | (go_simp; exact ⟨hbx2, rfl⟩)) (fun _ => hS0) ?_
  refine S_one 8 (by kernel_rfl) rfl (fun K hK => ?_)
  go_simp
  gi_wp2_with (gi_at_call 92; refine (callsIn_wide.2 (n2.out _)).mono ?_; rintro e Wh2 ⟨rfl, hN⟩)
  replace hS0 := hS0.trans (hN.mono hS0.size)
  clear hN
  refine ⟨(fun _ => hS0), ?_⟩
  refine S_tg 9 (.tuple #[.string (bs r), .int .i64 0]) rfl hS0 ?_
  refine S_tg 10 (.string (bs r)) rfl hS0 ?_
  refine S_tg 11 (.int .i64 0) rfl hS0 ?_
  refine S_tg 12 (.string (bs r)) rfl hS0 ?_
  refine S_tg 13 (.int .i64 0) rfl hS0 ?_
  refine ⟨by kernel_rfl, rfl, ?_⟩
  go_wp2_with fail
  go_ret2
  exact ⟨rfl, Below.on hS0 hB0.out⟩
 ·rw [if_neg hR] at n2
  rw [decide_eq_false hR, if_neg (by simp), if_neg (by simp)]
  generalize numP x.num = a at *
  replace n1 := Lib.hid n1
  replace n2 := Lib.hid n2
  clear hR hh
  go_enter Tryz.func103, Tryz.ntmps103
  go_wp2_with fail
  have hB0 : Below w.heap.size w (w.alloc (.cells (exA x) 26)) := bel
  obtain ⟨W, hW⟩ : ∃ W, w.alloc (.cells (exA x) 26) = W := ⟨_, rfl⟩
  rw [hW] at K0 hB0 ⊢
  obtain ⟨g, hg⟩ : ∃ g, w.heap.size = g := ⟨_, rfl⟩
  rw [hg] at K0 ⊢
  replace hB0 := Lib.hid hB0
  clear hW
  replace hg := Lib.hid hg
  have hwf : ∀ f, Fence.wide.fn f := fun _ => trivial
  refine (wpIn_wide (n := 9)).1 ?_
  refine wpIn_round_held (fun w' => Below W.heap.size W w') (fun j => true) (by kernel_rfl) ?_
  have hS0 : (fun w' => Below W.heap.size W w') W.drew := (Below.refl _ _).drew
  refine S_tg 0 (.pointer (some ⟨g, 0, none⟩)) rfl hS0 ?_
  refine S_tk 1 (.string (bs x.acc)) rfl hS0 (fun w' hw => exec_load rfl (by kernel_rfl) (run_load_cell (i := 0) (K0.out.below hw) rfl szStr nrStr)) ?_
  refine S_tg 2 (.pointer (some ⟨g, 1, none⟩)) rfl hS0 ?_
  refine S_tk 3 (.string (bs x.rcp)) rfl hS0 (fun w' hw => exec_load rfl (by kernel_rfl) (run_load_cell (i := 1) (K0.out.below hw) rfl szStr nrStr)) ?_
  refine S_tg 4 (.pointer (some ⟨g, 2, none⟩)) rfl hS0 ?_
  refine S_tk 5 (.int .u64 (x.num : Int)) rfl hS0 (fun w' hw => exec_load rfl (by kernel_rfl) (run_load_cell (i := 2) (K0.out.below hw) rfl szU64 nrU64)) ?_
  refine S_one 6 (by kernel_rfl) rfl (fun K hK => ?_)
  go_simp
  gi_wp2_with (gi_at_call 91; refine (callsIn_wide.2 (n1.out _)).mono ?_; rintro e Wh1 ⟨rfl, hN⟩)
  replace hS0 := hS0.trans (hN.mono hS0.size)
  clear hN
  refine ⟨(fun _ => hS0), ?_⟩
  replace hS0 : Below _ _ (Wh1.alloc (.cells #[.string (bs x.acc), .string (bs x.rcp), .string (bs a)] 9)) := hS0.alloc hS0.size _
  refine S_go 7 (fun _ => trivial) (by kernel_rfl) (by kernel_rfl) rfl (by kernel_rfl) (.slice (some ⟨Wh1.heap.size, 0, none⟩) 3 3) (Wh1.alloc (.cells #[.string (bs x.acc), .string (bs x.rcp), .string (bs a)] 9)) (by first | (go_simp; done) | (go_simp; rfl) | (go_simp; exact ⟨hbx2, rfl⟩)) (fun _ => hS0) ?_
  refine S_one 8 (by kernel_rfl) rfl (fun K hK => ?_)
  go_simp
  gi_wp2_with (gi_at_call 92; refine (callsIn_wide.2 (n2.out _)).mono ?_; rintro e Wh2 ⟨rfl, hN⟩)
  replace hS0 := hS0.trans (hN.mono hS0.size)
  clear hN
  refine ⟨(fun _ => hS0), ?_⟩
  refine S_tg 9 (.tuple #[.string { data := #[] }, .int .i64 80]) rfl hS0 ?_
  refine S_tg 10 (.string { data := #[] }) rfl hS0 ?_
  refine S_tg 11 (.int .i64 80) rfl hS0 ?_
  refine S_tg 12 (.string { data := #[] }) rfl hS0 ?_
  refine S_tg 13 (.int .i64 80) rfl hS0 ?_
  refine ⟨by kernel_rfl, rfl, ?_⟩
  go_wp2_with fail
  go_ret2
  exact ⟨rfl, Below.on hS0 hB0.out⟩
theorem lrowsame (A B : Option Addr) (c d : Nat) (L M : List Bytes) (hL : L.length ≤ 1048576) (hM : M.length ≤ 1048576) (w : World) (h1 : Txts w A L) (h2 : Txts w B M) :
  Calls Tryz.prog 86 #[.slice A L.length c, .slice B M.length d] w (Ret w (.bool (L == M))) := by
 rw [show (L == M) = decide (L = M) by rw [Bool.eq_iff_iff]; simp]
 exact same_calls A B c d L M (by omega) (by omega) w h1 h2
theorem rsameLt_calls (a b : Lt) (w : World) (ha : LtIn w a) (hb : LtIn w b) : Calls Tryz.prog 31 #[ltV a, ltV b] w (Ret w (.bool (sameLt a b))) := by
 have n1 := fun W (hB : Below w.heap.size w W) => lrowsame a.br.addr b.br.addr a.br.cap b.br.cap a.br.l b.br.l ha.2.2.2.2.1 hb.2.2.2.2.1 W (Txts.below ha.2.2.1 hB) (Txts.below hb.2.2.1 hB)
 have e1 := eqHd_run a.b b.b
 have e2 := eqEx_run a.x b.x
 unfold sameLt
 generalize eqHd a.b b.b = r1 at *
 generalize eqEx a.x b.x = r2 at *
 generalize (a.br.l == b.br.l) = r3 at *
 replace n1 := Lib.hid n1
 clear ha hb
 cases r1
 ·go_enter Tryz.func31, Tryz.ntmps31
  go_wp2_with fail
  go_ret
  exact ⟨rfl, bel⟩
 ·cases r2
  ·go_enter Tryz.func31, Tryz.ntmps31
   go_wp2_with fail
   go_ret
   exact ⟨rfl, bel⟩
  ·go_enter Tryz.func31, Tryz.ntmps31
   go_wp2_with fail
   refine (n1.out _ bel).mono ?_
   rintro e w1 ⟨rfl, h1⟩
   go_wp2_with fail
   go_ret
   exact ⟨rfl, Below.on h1 bel⟩
theorem rsameCm_calls (a b : Cm) (w : World) (ha : CmIn w a) (hb : CmIn w b) : Calls Tryz.prog 38 #[cmV a, cmV b] w (Ret w (.bool (sameCm a b))) := by
 have n1 := fun W (hB : Below w.heap.size w W) => lrowsame a.ks.addr b.ks.addr a.ks.cap b.ks.cap a.ks.l b.ks.l ha.1.2.2.1 hb.1.2.2.1 W (Txts.below ha.1.1 hB) (Txts.below hb.1.1 hB)
 unfold sameCm
 generalize (a.ks.l == b.ks.l) = r at *
 replace n1 := Lib.hid n1
 clear ha hb
 by_cases he : a.sum = b.sum
 ·have e1 : (a.sum == b.sum) = true := by simpa using he
  rw [e1]
  go_enter Tryz.func38, Tryz.ntmps38
  go_wp2_with fail
  refine (n1.out _ bel).mono ?_
  rintro e w1 ⟨rfl, h1⟩
  go_wp2_with fail
  go_ret
  exact ⟨rfl, Below.on h1 bel⟩
 ·have e1 : (a.sum == b.sum) = false := by simpa using he
  rw [e1]
  go_enter Tryz.func38, Tryz.ntmps38
  go_wp2_with fail
  go_ret
  exact ⟨rfl, bel⟩
theorem r3 (n : Nat) : IntKind.i64.wrap (3 * ((onesP n : Nat) : Int)) = 3 * ((onesP n : Nat) : Int) := mul3 n
theorem rcroot_calls (c : Cm) (w : World) (hc : CmIn w c) : Calls Tryz.prog 70 #[cmV c] w (Ret w (.tuple #[.string (bs (cmRoot c)), .int .i64 (cmE c)])) := by
 have K0 := Lib.hid (Blk.new0 w 31 (cmA c))
 have HB : Below w.heap.size w (w.alloc (.cells (cmA c) 31)) := bel
 by_cases h16 : c.ks.l.length = 16
 ·have e16 : ((c.ks.l.length : Int) != 16) = false := by simp; omega
  by_cases h5s : c.sum.length = 5
  ·have e5s : ((c.sum.length : Int) != 5) = false := by simp; omega
   obtain ⟨W, hW⟩ : ∃ W, w.alloc (.cells (cmA c) 31) = W := ⟨_, rfl⟩
   rw [hW] at K0 HB
   obtain ⟨g, hg⟩ : ∃ g, w.heap.size = g := ⟨_, rfl⟩
   rw [hg] at K0
   have T1 := Lib.hid (Txts.below hc.1.1 HB)
   have hRall : ∀ y ∈ c.ks.l, y.length ≤ 1048576 := hc.1.2.2.2
   have hok : FiveB c.ks.l 16 → cmOk c = true := fun h => five_ok c 17 (by omega) (fun i hi => by
    cases i with
    | zero => exact h5s
    | succ i => exact h i (by omega)) h16
   have hnot : ∀ j, j < 16 → (c.ks.l.getD j []).length ≠ 5 → cmOk c = false := fun j hj h => five_not c (j + 1) (by omega) (by simpa using h)
   replace hRall := Lib.hid hRall
   replace hok := Lib.hid hok
   replace hnot := Lib.hid hnot
   have hl16 := Lib.hid h16
   clear h16
   obtain ⟨b1, o1, hb1, hb0, _⟩ := Txts.at T1.out 0 (by have := hl16.out; omega)
   (obtain ⟨k0, f0, l0, m0⟩ := rl_ K0)
   go_enter Tryz.func70, Tryz.ntmps70
   go_upto_region 4 with fail
   clear hW hg k0 f0 l0 m0
   go_wp2_with fail
   clear e16
   go_loopw [4, 5] (fun u i wr => ∃ (v : Value) (k : Nat), v = u ∧ k ≤ 16 ∧ i = .int .i64 k ∧ FiveB c.ks.l k ∧ LRow W.heap.size wr v ((c.ks.l.take k).map chk) ∧ Below W.heap.size W wr) (fun _ i _ => (16 - intOf i).toNat)
   case atStart => exact ⟨_, 0, rfl, by omega, rfl, fun i hi => absurd hi (by omega), World.ownsRow_nil _ _ _ _, Below.refl _ _⟩
   case round =>
    obtain ⟨v, k, rfl, hk3, rfl, h5, OWN, HBr⟩ := hrel
    have K2 := Lib.hid (K0.out.below HBr)
    have HBw := Below.on HBr HB
    by_cases hlt : k < 16
    ·have hkR : k < c.ks.l.length := by have := hl16.out; omega
     obtain ⟨b9, o9, hb9, hb2, hcell⟩ := Txts.at (Txts.below T1.out HBr) k hkR
     have hb8 := hb9.symm.trans hb1
     simp only [Option.some.injEq, Addr.mk.injEq, and_true] at hb8
     obtain ⟨rfl, rfl⟩ := hb8
     clear hb9
     have hy := hRall.out _ (getD_mem hkR)
     have hst : (c.ks.l.take (k + 1)).map chk = (c.ks.l.take k).map chk ++ [chk (c.ks.l.getD k [])] := by
      have e : c.ks.l.take (k + 1) = c.ks.l.take k ++ [c.ks.l[k]] := by rw [List.take_add_one, List.getElem?_eq_getElem hkR]; rfl
      rw [e, List.map_append, List.getD, List.getElem?_eq_getElem hkR]
      rfl
     have hno := hnot.out k hlt
     have h5s2 : (c.ks.l.getD k []).length = 5 → FiveB c.ks.l (k + 1) := fun h i hi => by
      by_cases hik : i = k
      ·rw [hik]; exact h
      ·exact h5 i (by omega)
     have hq : ((c.ks.l.take k).map chk).length ≤ 16 := by rw [List.length_map, List.length_take]; omega
     generalize c.ks.l.getD k [] = y at *
     generalize (c.ks.l.take k).map chk = q at *
     replace hst := Lib.hid hst
     clear h5
     (obtain ⟨k2, f2, l2, m2⟩ := rl_ K2)
     by_cases hy5 : y.length = 5
     ·have e1 : ((y.length : Int) != 5) = false := by simp; omega
      have h6 := Lib.hid (h5s2 hy5)
      replace OWN := Lib.hid OWN
      clear h5s2 hno
      go_wp2_with fail
      refine (rpack_calls y (by omega) _).mono ?_
      rintro e w3 ⟨v3, rfl, Rv, h3⟩
      rw [pack_five hy5] at Rv
      obtain ⟨A3, c3, rfl, T3⟩ := Rv.txts
      have OWN3 := LRow.below OWN.out h3
      have HB3 := Below.on h3 HBr
      obtain ⟨v4, w4, hr4, OWN4, hg4⟩ := app_rows w3 W.heap.size HB3.size v q OWN3 A3 c3 [chk y] (by omega) (by simp) T3
      have HB4 := HB3.grown hg4 HB3.size fun j e => (OWN3.lt j e).1
      replace OWN4 := Lib.hid OWN4
      replace hr4 := Lib.hid hr4
      clear Rv T3 OWN3 OWN hg4 h3 HB3 hy5 hy
      go_wp2_with (at_builtin; refine wpList_append_run rfl _ _ 27 27 rfl _ _ _ rfl rfl hr4.out ?_)
      clear hr4
      go_wp2_with fail
      go_roundw
      case rel => exact ⟨_, k + 1, rfl, by omega, by go_num, h6.out, by rw [hst.out]; exact OWN4.out, HB4⟩
      case measure => simp [intOf]; omega
     ·have e1 : ((y.length : Int) != 5) = true := by simp; omega
      obtain ⟨f1, f2⟩ := cm_no (hno hy5)
      replace f1 := Lib.hid f1
      replace f2 := Lib.hid f2
      clear h5s2 hno hy5 OWN hy
      go_wp2_with fail
      go_ret2
      exact ⟨by rw [f1.out, f2.out]; rfl, HBw⟩
    ·obtain rfl : k = 16 := by omega
     have hRt : c.ks.l.take 16 = c.ks.l := List.take_of_length_le (by have := hl16.out; omega)
     rw [hRt] at OWN
     have hyes := hok.out h5
     obtain ⟨f1, f2⟩ := cm_yes hyes
     have hright := (cm_right hyes).1
     obtain ⟨A5, c5, rfl, T5⟩ := OWN.txts
     have hll : (c.ks.l.map chk).length = 16 := by rw [List.length_map, hl16.out]
     have n5 := zrroot_calls A5 c5 (c.ks.l.map chk) 4 (fun x hx => by
      obtain ⟨k, _, rfl⟩ := List.mem_map.1 hx
      rw [chk_len]
      decide) wr T5
     unfold rootV at n5
     rw [if_pos hright, hll, show (4 : Int).toNat = 4 from rfl] at n5
     have hrl : (rootP (c.ks.l.map chk) 4).length = 32 := rootP_len hright.2.2.2.2
     have n6 := fun W => rpack_calls c.sum (by omega) W
     rw [pack_five h5s] at n6
     have hcl := chk_len c.sum
     have n7 := fun W => rsum_calls (rootP (c.ks.l.map chk) 4 ++ chk c.sum) (by rw [List.length_append]; omega) W
     rw [hll]
     generalize rootP (c.ks.l.map chk) 4 = rt at *
     generalize chk c.sum = c0 at *
     replace f1 := Lib.hid f1
     replace f2 := Lib.hid f2
     replace n5 := Lib.hid n5
     replace n6 := Lib.hid n6
     replace n7 := Lib.hid n7
     clear hyes hright OWN T5 hll hRt h5 hok hnot T1 hRall h5s e5s
     (obtain ⟨k2, f2, l2, m2⟩ := rl_ K2)
     have e17 : decide ((16 : Int) < (c.ks.l.length : Int)) = false := decide_eq_false (by have := hl16.out; omega)
     replace hl16 := hl16
     go_wp2_with fail
     refine n5.out.mono ?_
     rintro e w5 ⟨rfl, h5⟩
     have HB5 := Below.on h5 HBw
     have K3 := Lib.hid (K2.out.below h5)
     clear h5 n5 k2 f2 l2 m2 K2
     (obtain ⟨k3, f3, l3, m3⟩ := rl_ K3)
     go_wp2_with fail
     refine (n6.out _).mono ?_
     rintro e w6 ⟨v6, rfl, R6, h6⟩
     obtain ⟨g6, c6, rfl, _, _⟩ := R6.form1 (by simp)
     have hx6 := LRow.at R6 0 (by simp)
     replace hx6 : w6.cell? ⟨g6, 0, none⟩ = some (.string (bs c0)) := hx6
     have HB6 := Below.on h6 HB5
     clear R6 h6
     go_wp2_with fail
     refine (n7.out _).mono ?_
     rintro e w7 ⟨rfl, h7⟩
     go_wp2_with fail
     go_ret2
     exact ⟨by rw [f1.out, f2.out]; rfl, Below.on h7 HB6⟩
  ·have e5s : ((c.sum.length : Int) != 5) = true := by simp; omega
   have hno : cmOk c = false := five_not c 0 (by omega) h5s
   obtain ⟨f1, f2⟩ := cm_no hno
   replace f1 := Lib.hid f1
   replace f2 := Lib.hid f2
   clear hno h16 h5s hc
   go_enter Tryz.func70, Tryz.ntmps70
   go_wp2_with fail
   go_ret2
   exact ⟨by rw [f1.out, f2.out]; rfl, HB⟩
 ·have e16 : ((c.ks.l.length : Int) != 16) = true := by simp; omega
  have hno : cmOk c = false := by
   cases hc : cmOk c with
   | false => rfl
   | true => exact absurd (cm_right hc).2 h16
  obtain ⟨f1, f2⟩ := cm_no hno
  replace f1 := Lib.hid f1
  replace f2 := Lib.hid f2
  clear hno h16 hc
  go_enter Tryz.func70, Tryz.ntmps70
  go_wp2_with fail
  go_ret2
  exact ⟨by rw [f1.out, f2.out]; rfl, HB⟩
theorem lgfinal_calls (u : Up) (w : World) (hk : HasK w) (hu : UpIn w u) : Calls Tryz.prog 59 #[upV u] w (Ret w (.int .i64 (finalE u))) := by
 have n1 := fun W => isFinal_calls u W
 have n2 := fun W (hB : Below w.heap.size w W) => lholds_calls u.fin W (hk.on hB) (hu.2.2.2.1.below hB)
 have n3 := fun W (hB : Below w.heap.size w W) => hroot_calls u.fin.b W (hk.on hB) (hu.2.2.2.1.1.below hB)
 have n4 := fun W (hB : Below w.heap.size w W) => under_calls (hdRoot u.fin.b) u.fb 3 u.seen.b.state W (hk.on hB) (by have := hdRoot_len u.fin.b; omega) hu.1.1.2.2.2.1 (by decide) (hu.2.2.2.2.1.below hB)
 have hE : finalE u = if isFinalP u then if holdsP u.fin then if underP (hdRoot u.fin.b) u.fb.l 3 u.seen.b.state then 0 else 145 else 130 else 0 := rfl
 unfold rwV at n4
 generalize finalE u = E at *
 generalize isFinalP u = r1 at *
 generalize holdsP u.fin = r2 at *
 generalize hdRoot u.fin.b = hr at *
 generalize hdE u.fin.b = he at *
 generalize underP hr u.fb.l 3 u.seen.b.state = r4 at *
 replace hE := Lib.hid hE
 replace n1 := Lib.hid n1
 replace n2 := Lib.hid n2
 replace n3 := Lib.hid n3
 replace n4 := Lib.hid n4
 clear hu hk
 go_enter Tryz.func59, Tryz.ntmps59
 go_upto_region 1 with fail
 have HB : Below w.heap.size w (w.alloc (.cells (upA u) 33)) := bel
 have K0 := Blk.new0 w 33 (upA u)
 obtain ⟨W, hW⟩ : ∃ W, w.alloc (.cells (upA u) 33) = W := ⟨_, rfl⟩
 rw [hW] at HB K0 ⊢
 clear hW
 have hgl : w.heap.size ≤ w.heap.size := Nat.le_refl _
 obtain ⟨g, hg⟩ : ∃ g, w.heap.size = g := ⟨_, rfl⟩
 rw [hg] at K0 ⊢
 replace hgl : w.heap.size ≤ g := by omega
 replace K0 := Lib.hid K0
 clear hg
 (obtain ⟨k0, f0, l0, m0⟩ := rl_ K0)
 go_wp2_with (first | (with_reducible refine wlr (ldUp _ K0.out) rfl ?_) | (with_reducible refine wlg (ldUp _ K0.out) (by with_unfolding_all rfl) rfl ?_))
 (refine (n1.out _).mono ?_; rintro e w1 ⟨rfl, hN⟩; replace K0 := hn_ K0 hN; replace HB : Below w.heap.size w w1 := Below.on hN HB; clear hN k0 f0 l0 m0; obtain ⟨k0, f0, l0, m0⟩ := rl_ K0)
 cases r1 with
 | false =>
  go_wp2_with fail
  go_ret
  exact ⟨by rw [hE.out]; rfl, HB⟩
 | true =>
  go_wp2_with fail
  (refine (n2.out _ HB).mono ?_; rintro e w2 ⟨rfl, hN⟩; replace K0 := hn_ K0 hN; replace HB : Below w.heap.size w w2 := Below.on hN HB; clear hN k0 f0 l0 m0; obtain ⟨k0, f0, l0, m0⟩ := rl_ K0)
  cases r2 with
  | false =>
   go_wp2_with fail
   go_ret
   exact ⟨by rw [hE.out]; rfl, HB⟩
  | true =>
   go_wp2_with fail
   (refine (n3.out _ HB).mono ?_; rintro e w3 ⟨rfl, hN⟩; replace K0 := hn_ K0 hN; replace HB : Below w.heap.size w w3 := Below.on hN HB; clear hN k0 f0 l0 m0; obtain ⟨k0, f0, l0, m0⟩ := rl_ K0)
   go_wp2_with fail
   (refine (n4.out _ HB).mono ?_; rintro e w4 ⟨rfl, hN⟩; replace K0 := hn_ K0 hN; replace HB : Below w.heap.size w w4 := Below.on hN HB; clear hN k0 f0 l0 m0; obtain ⟨k0, f0, l0, m0⟩ := rl_ K0)
   cases r4
   all_goals
    go_wp2_with fail
    go_ret
    exact ⟨by rw [hE.out]; rfl, HB⟩
theorem lgnext_calls (s : Sr) (u : Up) (w : World) (hk : HasK w) (hs : SrIn w s) (hu : UpIn w u) : Calls Tryz.prog 60 #[srV s, upV u] w (Ret w (.int .i64 (nextE s u))) := by
 have n1 := fun W => hasNext_calls u W
 have n2 := fun W => period_q u.seen.b.slot hu.1.1.1 W
 have n3 := fun W => period_q s.fin.b.slot hs.1.1.1 W
 have n4 := fun W => known_calls s.next W
 have n5 := fun W (hB : Below w.heap.size w W) => lsame_calls u.next s.next W (hu.2.1.below hB) (hs.2.2.2.1.below hB)
 have n6 := fun W (hB : Below w.heap.size w W) => croot_calls u.next W (hk.on hB) (hu.2.1.below hB)
 have n7 := fun W (hB : Below w.heap.size w W) => under_calls (cmRoot u.next) u.nb 5 u.seen.b.state W (hk.on hB) (cmRoot_len u.next) hu.1.1.2.2.2.1 (by decide) (hu.2.2.1.below hB)
 have hE : nextE s u = if hasNextP u then if knownP s.next && (decide (period u.seen.b.slot = period s.fin.b.slot) && !sameCm u.next s.next) then 146 else if cmOk u.next then if underP (cmRoot u.next) u.nb.l 5 u.seen.b.state then 0 else 145 else 130 else 0 := rfl
 unfold rwV at n7
 unfold cmE at n6
 generalize nextE s u = E at *
 generalize hasNextP u = r1 at *
 generalize knownP s.next = kn at *
 generalize period u.seen.b.slot = ps at *
 generalize period s.fin.b.slot = pf at *
 have e1 : ((ps : Int) == (pf : Int)) = decide (ps = pf) := by rw [Bool.eq_iff_iff]; simp; omega
 generalize decide (ps = pf) = b1 at *
 generalize sameCm u.next s.next = sm at *
 generalize cmRoot u.next = cr at *
 generalize cmOk u.next = ok at *
 generalize underP cr u.nb.l 5 u.seen.b.state = r7 at *
 replace hE := Lib.hid hE
 replace n1 := Lib.hid n1
 replace n2 := Lib.hid n2
 replace n3 := Lib.hid n3
 replace n4 := Lib.hid n4
 replace n5 := Lib.hid n5
 replace n6 := Lib.hid n6
 replace n7 := Lib.hid n7
 clear hs hu hk
 go_enter Tryz.func60, Tryz.ntmps60
 go_upto_region 1 with fail
 have HB : Below w.heap.size w ((w.alloc (.cells (srA s) 35)).alloc (.cells (upA u) 33)) := bel
 have K0 := (Blk.new0 w 35 (srA s)).alloc (.cells (upA u) 33)
 have K1 := Blk.new1 w (.cells (srA s) 35) 33 (upA u)
 obtain ⟨W, hW⟩ : ∃ W, ((w.alloc (.cells (srA s) 35)).alloc (.cells (upA u) 33)) = W := ⟨_, rfl⟩
 rw [hW] at HB K0 K1 ⊢
 clear hW
 have hgl : w.heap.size ≤ w.heap.size := Nat.le_refl _
 obtain ⟨g, hg⟩ : ∃ g, w.heap.size = g := ⟨_, rfl⟩
 rw [hg] at K0 K1 ⊢
 replace hgl : w.heap.size ≤ g := by omega
 replace K0 := Lib.hid K0
 replace K1 := Lib.hid K1
 clear hg
 (obtain ⟨k0, f0, l0, m0⟩ := rl_ K0; obtain ⟨k1, f1, l1, m1⟩ := rl_ K1)
 go_wp2_with (first | (with_reducible refine wlr (ldUp _ K1.out) rfl ?_) | (with_reducible refine wlg (ldUp _ K1.out) (by with_unfolding_all rfl) rfl ?_))
 (refine (n1.out _).mono ?_; rintro e w1 ⟨rfl, hN⟩; replace K0 := hn_ K0 hN; replace K1 := hn_ K1 hN; replace HB : Below w.heap.size w w1 := Below.on hN HB; clear hN k0 f0 l0 m0 k1 f1 l1 m1; obtain ⟨k0, f0, l0, m0⟩ := rl_ K0; obtain ⟨k1, f1, l1, m1⟩ := rl_ K1)
 cases r1 with
 | false =>
  go_wp2_with fail
  go_ret
  exact ⟨by rw [hE.out]; rfl, HB⟩
 | true =>
  go_wp2_with fail
  go_quiet ((first | (go_at_call 82; exact qs (n2.out _)) | (go_at_call 82; exact qs (n3.out _))))
  (generalize hWN : World.drewN w1 _ = w2; replace K0 := Lib.hid (show Blk w2 _ _ _ by rw [← hWN]; exact K0.out.drewN _); replace K1 := Lib.hid (show Blk w2 _ _ _ by rw [← hWN]; exact K1.out.drewN _); replace HB : Below w.heap.size w w2 := (by rw [← hWN]; exact below_drewN HB _); clear hWN k0 f0 l0 m0 k1 f1 l1 m1; obtain ⟨k0, f0, l0, m0⟩ := rl_ K0; obtain ⟨k1, f1, l1, m1⟩ := rl_ K1)
  go_upto_region 4 with fail
  go_cut [35] (fun s35 wx => s35 = .bool (kn && (b1 && !sm)) ∧ SuW w g s u wx)
  case first =>
   go_wp2_with fail
   (refine (n4.out _).mono ?_; rintro e w3 ⟨rfl, hN⟩; replace K0 := hn_ K0 hN; replace K1 := hn_ K1 hN; replace HB : Below w.heap.size w w3 := Below.on hN HB; clear hN k0 f0 l0 m0 k1 f1 l1 m1; obtain ⟨k0, f0, l0, m0⟩ := rl_ K0; obtain ⟨k1, f1, l1, m1⟩ := rl_ K1)
   cases kn with
   | false =>
    go_wp2_with fail
    go_meet
    case rel => exact ⟨rfl, K0.out, K1.out, HB⟩
   | true =>
    cases b1 with
    | false =>
     go_wp2_with fail
     go_meet
     case rel => exact ⟨rfl, K0.out, K1.out, HB⟩
    | true =>
     go_wp2_with fail
     (refine (n5.out _ HB).mono ?_; rintro e w4 ⟨rfl, hN⟩; replace K0 := hn_ K0 hN; replace K1 := hn_ K1 hN; replace HB : Below w.heap.size w w4 := Below.on hN HB; clear hN k0 f0 l0 m0 k1 f1 l1 m1; obtain ⟨k0, f0, l0, m0⟩ := rl_ K0; obtain ⟨k1, f1, l1, m1⟩ := rl_ K1)
     go_wp2_with fail
     go_meet
     case rel => exact ⟨rfl, K0.out, K1.out, HB⟩
  case rest =>
   obtain ⟨rfl, hW⟩ := hcut
   have j0 := Lib.hid hW.1
   have j1 := Lib.hid hW.2.1
   have HBn := hW.2.2
   clear hW k0 f0 l0 m0 k1 f1 l1 m1 K0 K1 HB
   have K0 := j0; have K1 := j1; have HB := HBn
   clear j0 j1 HBn
   (obtain ⟨k0, f0, l0, m0⟩ := rl_ K0; obtain ⟨k1, f1, l1, m1⟩ := rl_ K1)
   clear n1 n2 n3 n4 n5 e1
   have hE2 := hE.out
   generalize (kn && (b1 && !sm)) = q at *
   replace hE := Lib.hid hE2
   clear hE2
   cases q with
   | true =>
    go_wp2_with fail
    go_ret
    exact ⟨by rw [hE.out]; rfl, HB⟩
   | false =>
    cases ok with
    | false =>
     have n8 := n6.out
     rw [if_neg (by simp)] at n8
     replace n6 := Lib.hid n8
     clear n8
     go_wp2_with fail
     (refine (n6.out _ HB).mono ?_; rintro e w5 ⟨rfl, hN⟩; replace K0 := hn_ K0 hN; replace K1 := hn_ K1 hN; replace HB : Below w.heap.size w w5 := Below.on hN HB; clear hN k0 f0 l0 m0 k1 f1 l1 m1; obtain ⟨k0, f0, l0, m0⟩ := rl_ K0; obtain ⟨k1, f1, l1, m1⟩ := rl_ K1)
     go_wp2_with fail
     go_ret
     exact ⟨by rw [hE.out]; rfl, HB⟩
    | true =>
     have n8 := n6.out
     rw [if_pos rfl] at n8
     replace n6 := Lib.hid n8
     clear n8
     go_wp2_with fail
     (refine (n6.out _ HB).mono ?_; rintro e w5 ⟨rfl, hN⟩; replace K0 := hn_ K0 hN; replace K1 := hn_ K1 hN; replace HB : Below w.heap.size w w5 := Below.on hN HB; clear hN k0 f0 l0 m0 k1 f1 l1 m1; obtain ⟨k0, f0, l0, m0⟩ := rl_ K0; obtain ⟨k1, f1, l1, m1⟩ := rl_ K1)
     go_wp2_with fail
     (refine (n7.out _ HB).mono ?_; rintro e w6 ⟨rfl, hN⟩; replace K0 := hn_ K0 hN; replace K1 := hn_ K1 hN; replace HB : Below w.heap.size w w6 := Below.on hN HB; clear hN k0 f0 l0 m0 k1 f1 l1 m1; obtain ⟨k0, f0, l0, m0⟩ := rl_ K0; obtain ⟨k1, f1, l1, m1⟩ := rl_ K1)
     cases r7
     all_goals
      go_wp2_with fail
      go_ret
      exact ⟨by rw [hE.out]; rfl, HB⟩
def keysK (l : List Bytes) (n k : Nat) : List Bytes := ((l.take k).zipIdx.filter fun p => n.testBit p.2).map (·.1)
theorem keysK_succ (l : List Bytes) (n k : Nat) (h : k < l.length) : keysK l n (k + 1) = keysK l n k ++ if n / 2 ^ k % 2 = 1 then [l.getD k []] else [] := by
 unfold keysK
 have e : l.take (k + 1) = l.take k ++ [l.getD k []] := by rw [List.take_add_one, List.getElem?_eq_getElem h, List.getD, List.getElem?_eq_getElem h]; rfl
 have ek : (l.take k).length = k := by rw [List.length_take]; omega
 rw [e, List.zipIdx_append, List.filter_append, List.map_append, ek, Nat.zero_add]
 congr 1
 have hb : n.testBit k = decide (n / 2 ^ k % 2 = 1) := by rw [Nat.testBit_eq_decide_div_mod_eq]
 by_cases h1 : n / 2 ^ k % 2 = 1
 ·rw [if_pos h1]
  simp [hb, h1]
 ·rw [if_neg h1]
  simp [hb, h1]
theorem keysK_len (l : List Bytes) (n k : Nat) : (keysK l n k).length ≤ k := by
 unfold keysK
 rw [List.length_map]
 refine Nat.le_trans (List.length_filter_le _ _) ?_
 rw [List.length_zipIdx, List.length_take]
 omega
theorem keysK_all (l : List Bytes) (n k : Nat) (hk : k ≤ 16) (h : k = 16 ∨ k = l.length) : keysK l n k = keysP l n := by
 unfold keysK keysP
 rcases h with rfl | rfl
 ·rfl
 ·rw [List.take_of_length_le (Nat.le_refl _), List.take_of_length_le hk]
theorem keysP_len (l : List Bytes) (n : Nat) : (keysP l n).length ≤ 16 := by
 unfold keysP
 rw [List.length_map]
 refine Nat.le_trans (List.length_filter_le _ _) ?_
 simp
 omega
theorem textP_len (h : Hd) (n : Nat) : (textP h n).length ≤ 1048576 := by
 unfold textP
 rw [sha_len]
 decide
def KeepN (B : Nat) (W W' : World) : Prop := W.heap.size ≤ W'.heap.size ∧ ∀ b, b < B → W'.heap[b]? = W.heap[b]?
theorem KeepN.trans {B : Nat} {a b c : World} (h : KeepN B a b) (k : KeepN B b c) : KeepN B a c := ⟨Nat.le_trans h.1 k.1, fun j hj => (k.2 j hj).trans (h.2 j hj)⟩
theorem KeepN.put {B : Nat} {W : World} {l : Nat} (o : Obj) (hl : B ≤ l) : KeepN B W (W.putObj l o) := ⟨by simp, fun j hj => World.putObj_heap_other (by omega)⟩
theorem KeepN.below {n B : Nat} {W W' : World} (h : Below n W W') (hB : B ≤ n) : KeepN B W W' := ⟨h.size, fun j hj => h.block j (by omega)⟩
theorem KeepN.blk {B b : Nat} {W W' : World} {t : TypeId} {cs : Array Value} (h : KeepN B W W') (hb : b < B) (k : Blk W b t cs) : Blk W' b t cs := (h.2 b hb).trans k
theorem KeepN.txts {W W' : World} {A : Option Addr} {L : List Bytes} (h : KeepN W.heap.size W W') (k : Txts W A L) : Txts W' A L := Strs.keep k h.1 fun b o hb => World.cell?_of_block (w := W) (h.2 b hb)
theorem lgkeys1_in (n : Nat) (hn : 1 ≤ n) (lp b : Nat) (c : Cm) (set : Nat) (hset : set < 18446744073709551616) (w0 : World) (hc : RwIn w0 c.ks) (K0 : Blk w0 b 31 (cmA c)) (K1 : Blk w0 (b + 1) 22 #[.int .u64 set])
  (J Jx : List Bytes → Unit → World → Prop)
  (hY : ∀ pre y x A, J pre x A → pre.length < 16 → YieldAt Fence.wide (n - 1) Tryz.prog lp #[.string (bs y)] A fun e B =>
   (e = .returned (.bool true) ∧ J (pre ++ [y]) x B ∧ KeepN w0.heap.size A B) ∨ (e = .returned (.bool false) ∧ Jx (pre ++ [y]) x B))
  (W : World) (hW : KeepN w0.heap.size w0 W) (h0 : J [] () W) :
  CallsIn Fence.wide n Tryz.prog 166 #[.func (.yield lp) #[] #[], .pointer (some ⟨b, 0, none⟩), .pointer (some ⟨b + 1, 0, none⟩)] W fun e B => (∃ v, e = .returned v) ∧
   ((∃ xs x, xs = keysP c.ks.l set ∧ J xs x B) ∨ (∃ pre x, True ∧ Jx pre x B)) := by
 have hwf : ∀ f, Fence.wide.fn f := fun _ => trivial
 obtain ⟨m, hm⟩ : ∃ m, min c.ks.l.length 16 = m := ⟨_, rfl⟩
 have e3 : min (c.ks.l.length : Int) 16 = (m : Int) := by omega
 have hmc : m ≤ c.ks.cap := by have := hc.2.1; omega
 have hmi : (m : Int) ≤ (c.ks.cap : Int) := by omega
 have hm0 : (0 : Int) ≤ (m : Int) := by omega
 have hml : m ≤ c.ks.l.length := by omega
 have hme : m = 16 ∨ m = c.ks.l.length := by omega
 have hm16 : m ≤ 16 := by omega
 have hlb : b < w0.heap.size := K0.lt
 have hlb1 : b + 1 < w0.heap.size := K1.lt
 have K2 := Lib.hid (hW.blk hlb K0)
 have hc1 := Lib.hid hc.1
 replace K0 := Lib.hid K0
 replace K1 := Lib.hid K1
 replace hY := Lib.hid hY
 (obtain ⟨k2, f2, l2, m2⟩ := rl_ K2)
 refine callsIn_of_wp Tryz.func166 rfl trivial ?_ rfl
 simp only [Tryz.ntmps166, List.size_toArray, List.length_cons, List.length_nil, Nat.reduceAdd, Nat.reduceSub, Array.replicate_succ, Array.replicate_zero, List.push_toArray, List.append_toArray, List.nil_append, List.cons_append]
 by_cases hz : c.ks.l.length = 0
 ·obtain rfl : m = 0 := by omega
  have hk0 : keysP c.ks.l set = [] := by rw [List.eq_nil_of_length_eq_zero hz]; rfl
  rw [hk0]
  replace h0 := Lib.hid h0
  clear hc hm hz hk0 hW hme hml
  gi_wp2_with fail
  clear k2 f2 l2 m2 K2
  gi_loopw [4, 5, 14] (fun _ _ i wr => i = .int .i64 0 ∧ J [] () wr) (fun _ _ i _ => 0)
  case atStart => exact ⟨rfl, h0.out⟩
  case round =>
   obtain ⟨rfl, hj⟩ := hrel
   replace hj := Lib.hid hj
   gi_wp2_with fail
   go_end0
   first | exact ⟨⟨_, rfl⟩, .inl ⟨_, (), rfl, hj.out⟩⟩ | exact ⟨⟨_, rfl⟩, .inl ⟨(), hj.out⟩⟩ | exact ⟨⟨_, rfl⟩, .inl hj.out⟩
 obtain ⟨b9, o9, hb9, _, _⟩ := hc.1.at 0 (by omega)
 clear hc hm hz
 gi_wp2_with fail
 clear k2 f2 l2 m2 K2
 gi_loopw [4, 5, 14] (fun _ _ i wr => ∃ k : Nat, k ≤ m ∧ i = .int .i64 k ∧ KeepN w0.heap.size w0 wr ∧ J (keysK c.ks.l set k) () wr) (fun _ _ i _ => (m - intOf i).toNat)
 case atStart => exact ⟨0, by omega, rfl, hW, h0⟩
 case round =>
  clear hW h0
  obtain ⟨k, hk, rfl, hkp, hj⟩ := hrel
  by_cases hlt : k < m
  ·have hl1 : (k : Int) < (m : Int) := by omega
   have hlm : k < m := hlt
   obtain ⟨b8, o8, hb8, hb2, hcell⟩ := (hkp.txts hc1.out).at k (by omega)
   rw [hb9] at hb8
   injection hb8 with hb8
   injection hb8 with h8 h8b
   subst h8 h8b
   have hst := keysK_succ c.ks.l set k (by omega)
   have hsm : set / 2 ^ k < 18446744073709551616 := Nat.lt_of_le_of_lt (Nat.div_le_self _ _) hset
   have hsh : (set : Int) / 2 ^ k = ((set / 2 ^ k : Nat) : Int) := by simp
   have hql := keysK_len c.ks.l set k
   have K3 := Lib.hid (hkp.blk hlb1 K1.out)
   generalize set / 2 ^ k = s2 at *
   have hand := and_one s2 hsm
   generalize c.ks.l.getD k [] = y at *
   obtain ⟨q, hq⟩ : ∃ q, keysK c.ks.l set k = q := ⟨_, rfl⟩
   rw [hq] at hj hst hql
   clear hq
   obtain ⟨fn, tmps, assign, body, hy, hR⟩ := hY.out q y () wr hj (by omega)
   replace hkp := Lib.hid hkp
   (obtain ⟨k3, f3, l3, m3⟩ := rl_ K3)
   rcases Nat.mod_two_eq_zero_or_one s2 with hm2 | hm2
   ·rw [hm2] at hand hst
    rw [if_neg (by omega), List.append_nil] at hst
    rw [← hst] at hj
    replace hj := Lib.hid hj
    clear hm2 hst hR hy
    gi_wp2_with fail
    go_roundw
    case rel => exact ⟨k + 1, by omega, by go_num, hkp.out, hj.out⟩
    case measure => simp [intOf]; omega
   ·rw [hm2] at hand hst
    rw [if_pos rfl] at hst
    replace hst := Lib.hid hst
    clear hm2 hj
    gi_wp2_with fail
    refine hR.mono ?_
    rintro e W3 (⟨rfl, hJ3, hk3⟩ | ⟨rfl, hJx3⟩)
    ·rw [← hst.out] at hJ3
     replace hJ3 := Lib.hid hJ3
     have hk4 := Lib.hid (hkp.out.trans hk3)
     clear hk3 hkp hst k3 f3 l3 m3 K3 hb2 hcell hy hR
     gi_wp2_with fail
     go_roundw
     case rel => exact ⟨k + 1, by omega, by go_num, hk4.out, hJ3.out⟩
     case measure => simp [intOf]; omega
    ·replace hJx3 := Lib.hid hJx3
     clear hkp hst k3 f3 l3 m3 K3 hb2 hcell hy hR
     gi_wp2_with fail
     refine bodyPost_ret (results_none rfl _ _ _) rfl ?_
     exact ⟨⟨_, rfl⟩, .inr ⟨_, (), trivial, hJx3.out⟩⟩
  ·obtain rfl : k = m := by omega
   have hl1 : ¬ (k : Int) < (k : Int) := by omega
   rw [keysK_all c.ks.l set k hm16 hme] at hj
   replace hj := Lib.hid hj
   clear hkp
   gi_wp2_with fail
   go_end0
   first | exact ⟨⟨_, rfl⟩, .inl ⟨_, (), rfl, hj.out⟩⟩ | exact ⟨⟨_, rfl⟩, .inl ⟨(), hj.out⟩⟩ | exact ⟨⟨_, rfl⟩, .inl hj.out⟩ | exact ⟨rfl, .inl hj.out⟩ | (trace_state; fail)
theorem lgkeys_stops (n : Nat) (hn : 1 ≤ n) (b : Nat) (c : Cm) (set : Nat) (hset : set < 18446744073709551616) (w0 : World) (hc : RwIn w0 c.ks) (K0 : Blk w0 b 31 (cmA c)) (K1 : Blk w0 (b + 1) 22 #[.int .u64 set]) (W0 : World) (hB0 : Below w0.heap.size w0 W0) :
  SeqSt Fence.wide n Tryz.prog 166 #[.pointer (some ⟨b, 0, none⟩), .pointer (some ⟨b + 1, 0, none⟩)] (fun y : Bytes => #[.string (bs y)]) (fun pre _ _ _ => pre.length < 16) (fun (_ : Unit) A B => KeepN w0.heap.size A B) (fun _ A _ B => A = B) () (fun xs => xs = keysP c.ks.l set) (fun _ => True) W0 :=
 fun lp J Jx W hW hJ hJx hY h0 => lgkeys1_in n hn lp b c set hset w0 hc K0 K1 J Jx hY W ((KeepN.below hB0 (Nat.le_refl _)).trans (KeepN.below hW hB0.size)) h0
def AqI (w : World) (pre : List Bytes) (W : World) : Prop := ∃ v, Blk W w.heap.size 27 #[v] ∧ LRow (w.heap.size + 1) W v pre ∧ Below w.heap.size w W ∧ w.heap.size + 1 ≤ W.heap.size
theorem AqI.own {w A B : World} {pre : List Bytes} {r : Option Nat} {N : Nat} (h : AqI w pre A) (hg : A.grownBy B r) (hr : ∀ j, r = some j → N ≤ j ∧ ∃ o : Obj, A.heap[j]? = some o ∧ o.isCells = false) (hN : w.heap.size + 1 ≤ N) : AqI w pre B := by
 obtain ⟨v, h1, h2, h3, h4⟩ := h
 refine ⟨v, h1.grown hg (fun e => by have := (hr _ e.symm).1; omega), h2.keep hg fun j hj e => ?_, h3.grown hg h3.size fun j e => by have := (hr j e).1; omega, Nat.le_trans h4 hg.size⟩
 obtain ⟨_, o, ho, hc⟩ := hr j e
 obtain ⟨_, cs, t, fz, hcs⟩ := LRow.cells h2 j hj
 rw [hcs] at ho
 injection ho with ho
 subst ho
 cases hc
theorem lgappend_calls (b : Nat) (c : Cm) (set : Nat) (hset : set < 18446744073709551616) (w : World) (hc : RwIn w c.ks) (K0 : Blk w b 31 (cmA c)) (K1 : Blk w (b + 1) 22 #[.int .u64 set]) :
  Calls Tryz.prog 165 #[.slice none 0 0, .func (.func 166) #[] #[.pointer (some ⟨b, 0, none⟩), .pointer (some ⟨b + 1, 0, none⟩)]] w
   (fun e w' => ∃ v, e = .returned v ∧ LRow w.heap.size w' v (keysP c.ks.l set) ∧ Below w.heap.size w w') := by
 refine (callsIn_wide (n := 9)).1 ?_
 have hwf : ∀ f, Fence.wide.fn f := fun _ => trivial
 refine callsIn_of_wp_marks Tryz.func165 rfl trivial ?_ rfl
 simp only [Tryz.ntmps165, List.size_toArray, List.length_cons, List.length_nil, Nat.reduceAdd, Nat.reduceSub, Array.replicate_succ, Array.replicate_zero, List.push_toArray, List.append_toArray, List.nil_append, List.cons_append]
 gi_wp2
 obtain ⟨W0, hW0⟩ : ∃ W0, w.alloc (.cells #[.slice none 0 0] 27) = W0 := ⟨_, rfl⟩
 have hs0 : W0.heap.size = w.heap.size + 1 := by rw [← hW0]; simp
 have KR : Blk W0 w.heap.size 27 #[.slice none 0 0] := by rw [← hW0]; exact Blk.new0 _ _ _
 have hB0 : Below w.heap.size w W0 := by rw [← hW0]; exact bel
 rw [hW0]
 clear hW0
 have hf := enters_of Tryz.func166 (by kernel_rfl) rfl
 have hrow0 : LRow (w.heap.size + 1) W0 (.slice none 0 0) [] := World.ownsRow_nil _ _ _ _
 have hI0 : AqI w [] W0 := ⟨_, KR, hrow0, hB0, by omega⟩
 clear hrow0 KR
 refine wpIn_rangeFunc_st rfl (by decide) (gf := 166) (lb := #[.pointer (some ⟨b, 0, none⟩), .pointer (some ⟨b + 1, 0, none⟩)]) rfl trivial hf
  (lgkeys_stops 8 (by decide) b c set hset w hc K0 K1 W0 hB0) (fun _ => rfl) (fun _ _ _ _ h k => h.trans k) (fun x W l o o' hl h1 h2 h3 => KeepN.put o' (by omega))
  (fun x A y B k o hab hkk hA ho _ => by rw [← hab]; exact hA)
  (fun pre y x W l o o' h _ h1 h2 => h)
  (fun pre x W => AqI w pre W) (fun c _ x W => False)
  (fun _ s A B row h hg hr => AqI.own h hg hr (by omega)) (fun _ _ s A B row h hg hr => h)
  (fun s x A y B h hab => by rw [← hab]; exact h) (fun _ s x A y B h hab => h) hI0
  (fun y => { tmps := #[.slice none 0 0, .func (.func 166) #[] #[.pointer (some ⟨b, 0, none⟩), .pointer (some ⟨b + 1, 0, none⟩)], .pointer (some ⟨w.heap.size, 0, none⟩), undef, .slice none 0 0, .string (bs y),
   .func (.func 166) #[] #[.pointer (some ⟨b, 0, none⟩), .pointer (some ⟨b + 1, 0, none⟩)], .string (bs y), undef, undef, undef, undef, undef], defers := [] })
  ?assign ?body ?done ?stop
 case assign =>
  intro l y W K hK
  gi_wp2
  exact hK
 case stop =>
  rintro D c pre x W hD _ h hK
  exact h.elim
 case done =>
  rintro D xs x W hD rfl ⟨v, h1, h2, h3, h4⟩ hK
  have K2 := Lib.hid h1
  have hKD := Lib.hid hK
  have H2 := Lib.hid h2
  have H3 := Lib.hid h3
  clear h1 h2 h3 hK
  (obtain ⟨k2, f2, l2, m2⟩ := rl_ K2)
  gi_wp2
  refine ⟨by simp, .inl ⟨_, _, rfl, run_takeDeferred hKD.out, ?_⟩⟩
  refine ⟨_, results_tmp rfl _ _ _, v, rfl, ?_, below_shut H3.out (Nat.le_refl _) (by omega)⟩
  refine (H2.out.mono (by omega)).keep (grownBy_putObj' W D _) fun j hj e => ?_
  injection e with e
  subst e
  obtain ⟨_, cs, t, fz, hcs⟩ := LRow.cells H2.out D hj
  rw [hKD.out] at hcs
  cases hcs
 case body =>
  rintro l pre y x W ⟨v, h1, h2, h3, h4⟩ hat
  have K2 := Lib.hid h1
  have H2 := Lib.hid h2
  have H3 := Lib.hid h3
  obtain ⟨g, hg0⟩ : ∃ g, w.heap.size = g := ⟨_, rfl⟩
  rw [hg0] at K2 H2 h4 ⊢
  have hlr : ∀ j, v.ownBlock = some j → g + 1 ≤ j ∧ j < W.heap.size := fun j hj => H2.out.lt j hj
  clear h1 h2 h3 hs0 hI0
  (obtain ⟨k2, f2, l2, m2⟩ := rl_ K2)
  gi_wp2_with (gi_at_builtin; refine wpListIn_append_txt rfl _ _ rfl (g + 1) v pre rfl (H2.out.on _) y ⟨W.heap.size, 0, none⟩ rfl (new_cell _ _ _) (by omega) (by simp; omega) ?_)
  intro v4 w4 OWN4 hg4 hx4
  have hgW : W.grownBy w4 v.ownBlock := ⟨hg4.os, hg4.tape, hg4.output, Nat.le_trans (by simp) hg4.size, fun j hj hr => (hg4.block j (by simp; omega) hr).trans (Below.heap_alloc _ _ j hj)⟩
  have P2 := Lib.hid (K2.out.grown hgW (fun e => by have := (hlr _ e.symm).1; omega))
  have hKO : KeepsOthers W w4 := KeepsOthers.of_grownBy hgW fun j o e ho => by
   obtain ⟨_, cs, t, fz, hcs⟩ := LRow.cells H2.out j e
   rw [hcs] at ho
   injection ho with ho
   subst ho
   rfl
  have hKp : KeepN g W w4 := ⟨hgW.size, fun j hj => hgW.block j (by omega) (fun e => by have := (hlr _ e.symm).1; omega)⟩
  have HB4 : Below w.heap.size w w4 := H3.out.grown hgW H3.out.size fun j e => by have := (hlr j e).1; omega
  have hz4 : g + 1 ≤ w4.heap.size := Nat.le_trans h4 hgW.size
  have hlt4 : ∀ j, v4.ownBlock = some j → g + 1 ≤ j := fun j hj => (OWN4.lt j hj).1
  obtain ⟨A4, c4, hv4, _⟩ := OWN4.txts
  have hv5 : v4 = .slice A4 (pre.length + 1) c4 := by rw [hv4]; simp
  clear hv4
  subst hv5
  replace OWN4 := Lib.hid OWN4
  replace hKO := Lib.hid hKO
  replace hKp := Lib.hid hKp
  replace HB4 := Lib.hid HB4
  clear hg4 hgW hx4 hlr k2 f2 l2 m2 K2 H2 H3
  have K2 := P2
  clear P2
  (obtain ⟨k2, f2, l2, m2⟩ := rl_ K2)
  gi_wp2_with fail
  refine ⟨hKO.out.trans (KeepsOthers.setCell _ _ _), hKp.out.trans ⟨by simp, fun j hj => Below.heap_setCell _ _ _ j (by simp; omega)⟩, ?_⟩
  refine ⟨.slice A4 (pre.length + 1) c4, ?_, ?_, HB4.out.setCell (by simp; omega) _, by simp; omega⟩
  ·rw [hg0]; exact Blk.to (Blk.set_ K2.out 0 _) rfl
  ·rw [hg0]; exact OWN4.out.keep (grown_set (World.grownBy.refl _ _)) (fun j hj e => by have := hlt4 j hj; injection e with e; omega)
theorem lgcollect_calls (b : Nat) (c : Cm) (set : Nat) (hset : set < 18446744073709551616) (w : World) (hc : RwIn w c.ks) (K0 : Blk w b 31 (cmA c)) (K1 : Blk w (b + 1) 22 #[.int .u64 set]) :
  Calls Tryz.prog 121 #[.func (.func 166) #[] #[.pointer (some ⟨b, 0, none⟩), .pointer (some ⟨b + 1, 0, none⟩)]] w
   (fun e w' => ∃ A cp, e = .returned (.slice A (keysP c.ks.l set).length cp) ∧ Txts w' A (keysP c.ks.l set) ∧ Below w.heap.size w w') := by
 have n1 := Lib.hid (lgappend_calls b c set hset w hc K0 K1)
 clear hc K0 K1
 go_enter Tryz.func121, Tryz.ntmps121
 go_wp2_with fail
 refine n1.out.mono ?_
 rintro e w2 ⟨v, rfl, hR, hB⟩
 obtain ⟨A5, c5, rfl, T5⟩ := hR.txts
 clear hR
 go_wp2_with fail
 go_ret
 exact ⟨_, _, rfl, T5, hB⟩
theorem lgkeys_calls (c : Cm) (set : Nat) (w : World) :
  Calls Tryz.prog 122 #[cmV c, .int .u64 set] w (fun e w' => e = .returned (.func (.func 166) #[] #[.pointer (some ⟨w.heap.size, 0, none⟩), .pointer (some ⟨w.heap.size + 1, 0, none⟩)]) ∧
   w' = (w.alloc (.cells (cmA c) 31)).alloc (.cells #[.int .u64 set] 22)) := by
 go_enter Tryz.func122, Tryz.ntmps122
 go_wp2
 go_ret
 exact ⟨rfl, rfl⟩
theorem or_chain (a b c X : Int) : (if a ≠ 0 then a else if b ≠ 0 then b else if c ≠ 0 then c else X) = if orE a b c = 0 then X else orE a b c := by
 unfold orE
 by_cases h : a = 0
 ·by_cases k : b = 0
  ·by_cases m : c = 0
   ·simp [h, k, m]
   ·simp [h, k, m]
  ·simp [h, k]
 ·simp [h]
def SgW (w : World) (g b : Nat) (s : Sr) (u : Up) (c : Cm) (wx : World) : Prop := Blk wx g 35 (srA s) ∧ Blk wx (g + 1) 33 (upA u) ∧ Blk wx b 31 (cmA c) ∧ Below w.heap.size w wx
theorem lgsig_calls (s : Sr) (u : Up) (w : World) (hk : HasK w) (hs : SrIn w s) (hu : UpIn w u) : Calls Tryz.prog 61 #[srV s, upV u] w (Ret w (.int .i64 (sigE s u))) := by
 have p1 := fun W => period_q u.slot hu.2.2.2.2.2.2.2 W
 have p2 := fun W => period_q s.fin.b.slot hs.1.1.1 W
 have p3 := fun b W => pickC_calls b s.now s.next W
 have hcc : CmIn w (commP s u) := by
  unfold commP
  split
  ·exact hs.2.2.1
  ·exact hs.2.2.2.1
 have hpick : (if decide (period u.slot = period s.fin.b.slot) = true then s.now else s.next) = commP s u := by simp [commP]
 have hE : sigE s u = if allB (keysP (commP s u).ks.l u.bits) (textP u.seen.b u.slot) u.sig then 0 else 147 := rfl
 have q3 := fun W (hB : Below w.heap.size w W) => text_calls u.seen.b u.slot W (hk.on hB) (hu.1.1.below hB) hu.2.2.2.2.2.2.2
 have ht := textP_len u.seen.b u.slot
 have hl := keysP_len (commP s u).ks.l u.bits
 generalize sigE s u = E at *
 generalize period u.slot = pu at *
 generalize period s.fin.b.slot = pf at *
 have e1 : ((pu : Int) == (pf : Int)) = decide (pu = pf) := by rw [Bool.eq_iff_iff]; simp; omega
 generalize decide (pu = pf) = b1 at *
 generalize commP s u = cc at *
 generalize textP u.seen.b u.slot = tx at *
 have p4 := fun W => p3 b1 W
 rw [hpick] at p4
 have q1 : ∀ W, Calls Tryz.prog 122 #[cmV cc, .int .u64 u.bits] W (fun e w' => ∃ b, e = .returned (.func (.func 166) #[] #[.pointer (some ⟨b, 0, none⟩), .pointer (some ⟨b + 1, 0, none⟩)]) ∧ (Blk w' b 31 (cmA cc) ∧ Blk w' (b + 1) 22 #[.int .u64 u.bits]) ∧ Below W.heap.size W w') := fun W => (lgkeys_calls cc u.bits W).mono fun e w' ⟨he, hw⟩ => ⟨_, he, by rw [hw]; exact ⟨(Blk.new0 _ _ _).alloc _, Blk.new1 _ _ _ _⟩, by rw [hw]; exact bel⟩
 have q2 := fun b W (hB : Below w.heap.size w W) K0 K1 => lgcollect_calls b cc u.bits hu.2.2.2.2.2.1 W ((hcc.below hB).1) K0 K1
 have q4 := fun A cp W (hB : Below w.heap.size w W) (hT : Txts W A (keysP cc.ks.l u.bits)) => all_calls A cp (keysP cc.ks.l u.bits) (by omega) tx u.sig ht W (hk.on hB) hT
 generalize allB (keysP cc.ks.l u.bits) tx u.sig = al at *
 replace hE := Lib.hid hE
 replace p1 := Lib.hid p1
 replace p2 := Lib.hid p2
 replace p4 := Lib.hid p4
 replace q1 := Lib.hid q1
 replace q2 := Lib.hid q2
 replace q3 := Lib.hid q3
 replace q4 := Lib.hid q4
 clear hs hu hk p3 hcc hpick ht hl
 go_enter Tryz.func61, Tryz.ntmps61
 go_upto_region 1 with fail
 have HB : Below w.heap.size w ((w.alloc (.cells (srA s) 35)).alloc (.cells (upA u) 33)) := bel
 have K0 := (Blk.new0 w 35 (srA s)).alloc (.cells (upA u) 33)
 have K1 := Blk.new1 w (.cells (srA s) 35) 33 (upA u)
 obtain ⟨W, hW⟩ : ∃ W, ((w.alloc (.cells (srA s) 35)).alloc (.cells (upA u) 33)) = W := ⟨_, rfl⟩
 rw [hW] at HB K0 K1 ⊢
 clear hW
 have hgl : w.heap.size ≤ w.heap.size := Nat.le_refl _
 obtain ⟨g, hg⟩ : ∃ g, w.heap.size = g := ⟨_, rfl⟩
 rw [hg] at K0 K1 ⊢
 replace hgl : w.heap.size ≤ g := by omega
 replace K0 := Lib.hid K0
 replace K1 := Lib.hid K1
 clear hg
 (obtain ⟨k0, f0, l0, m0⟩ := rl_ K0; obtain ⟨k1, f1, l1, m1⟩ := rl_ K1)
 go_cut [5] (fun s5 wx => ∃ b, s5 = .pointer (some ⟨b, 0, none⟩) ∧ SgW w g b s u cc wx)
 case first =>
  have hwf : ∀ f, Fence.wide.fn f := fun _ => trivial
  refine (wpIn_wide (n := 9)).1 ?_
  refine wpIn_round_held (fun w' => Below W.heap.size W w') (fun j => true) (by kernel_rfl) ?_
  have hS0 : (fun w' => Below W.heap.size W w') W.drew := (Below.refl _ _).drew
  refine S_tg 0 (.pointer (some ⟨(g + 1), 24, none⟩)) rfl hS0 ?_
  refine S_tk 1 (.int .u64 (u.slot : Int)) rfl hS0 (fun w' hw => exec_load rfl (by kernel_rfl) (run_load_cell (i := 24) (K1.out.below hw) rfl szU64 nrU64)) ?_
  refine S_tg 3 (.pointer (some ⟨g, 0, none⟩)) rfl hS0 ?_
  refine S_tg 4 (.pointer (some ⟨g, 0, none⟩)) rfl hS0 ?_
  refine S_tg 5 (.pointer (some ⟨g, 0, none⟩)) rfl hS0 ?_
  refine S_tk 6 (.int .u64 (s.fin.b.slot : Int)) rfl hS0 (fun w' hw => exec_load rfl (by kernel_rfl) (run_load_cell (i := 0) (K0.out.below hw) rfl szU64 nrU64)) ?_
  refine S_tg 9 (.pointer (some ⟨g, 18, none⟩)) rfl hS0 ?_
  refine S_tk 10 (cmV (s.now)) rfl hS0 (fun w' hw => exec_load rfl (by kernel_rfl) (ldSr_now (s) (K0.out.below hw))) ?_
  refine S_tg 11 (.pointer (some ⟨g, 20, none⟩)) rfl hS0 ?_
  refine S_tk 12 (cmV (s.next)) rfl hS0 (fun w' hw => exec_load rfl (by kernel_rfl) (ldSr_next (s) (K0.out.below hw))) ?_
  refine S_list [2, 14] (by kernel_rfl) (by decide) ⟨?_, ?_, trivial⟩
  ·show wpOpIn _ _ _ _ _ 2 _ _ _
   refine op_call (nd := fun j => true) (S := fun w' => Below W.heap.size W w') (i := 2) rfl (fun K hK => ?_)
   go_simp
   gi_wp2_with (gi_at_call 82; refine (callsIn_wide.2 (p1.out _)).mono ?_; rintro e Wh1 ⟨rfl, hN⟩; obtain rfl : W.drew = Wh1 := (by first | exact hN | exact hN.symm))
   refine ⟨(fun _ => hS0), ?_⟩
   refine S_list [7, 14] (by kernel_rfl) (by decide) ⟨?_, ?_, trivial⟩
   ·show wpOpIn _ _ _ _ _ 7 _ _ _
    refine op_call (nd := fun j => true) (S := fun w' => Below W.heap.size W w') (i := 7) rfl (fun K hK => ?_)
    go_simp
    gi_wp2_with (gi_at_call 82; refine (callsIn_wide.2 (p2.out _)).mono ?_; rintro e Wh2 ⟨rfl, hN⟩; obtain rfl : W.drew = Wh2 := (by first | exact hN | exact hN.symm))
    refine ⟨(fun _ => hS0), ?_⟩
    refine S_tg 8 (.bool b1) rfl hS0 ?_
    refine S_list [13, 14] (by kernel_rfl) (by decide) ⟨?_, ?_, trivial⟩
    ·show wpOpIn _ _ _ _ _ 13 _ _ _
     refine op_call (nd := fun j => true) (S := fun w' => Below W.heap.size W w') (i := 13) rfl (fun K hK => ?_)
     go_simp
     gi_wp2_with (gi_at_call 119; refine (callsIn_wide.2 (p4.out _)).mono ?_; rintro e Wh3 ⟨rfl, hN⟩)
     replace hS0 := hS0.trans (hN.mono hS0.size)
     clear hN
     refine ⟨(fun _ => hS0), ?_⟩
     obtain ⟨x5n4, hbx⟩ : ∃ x, Wh3.heap.size = x := ⟨_, rfl⟩
     have hbx2 := hbx
     (try simp [go_sem] at hbx2)
     have hb5 : W.heap.size ≤ x5n4 := by rw [← hbx]; exact hS0.size
     have KA5 := Blk.new0 Wh3 31 (cmA Cm.zero)
     rw [hbx] at KA5
     replace KA5 := Lib.hid KA5
     replace hS0 : Below _ _ (Wh3.alloc (.cells (cmA Cm.zero) 31)) := hS0.alloc hS0.size _
     refine S_go 14 (fun _ => trivial) (by kernel_rfl) (by kernel_rfl) rfl (by kernel_rfl) (.pointer (some ⟨x5n4, 0, none⟩)) (Wh3.alloc (.cells (cmA Cm.zero) 31)) (by first | (go_simp; done) | (go_simp; rfl) | (go_simp; exact ⟨hbx2, rfl⟩)) (fun _ => hS0) ?_
     clear hbx hbx2
     have hS1 : (fun w' => Below W.heap.size W w') (setRow (Wh3.alloc (.cells (cmA Cm.zero) 31)) (x5n4) 31 (cmA cc)) := Below.row hS0 hb5 hS0.size
     refine S_store 15 (fun _ => trivial) (by kernel_rfl) (by kernel_rfl) rfl (by kernel_rfl) (setRow (Wh3.alloc (.cells (cmA Cm.zero) 31)) (x5n4) 31 (cmA cc)) (exec_store _ _ rfl (by kernel_rfl) (by kernel_rfl) (stCm Cm.zero KA5.out cc)) (fun _ => hS1) ?_
     clear hS0
     have hS0 := hS1
     clear hS1
     replace KA5 := Lib.hid (Blk.row (t := 31) (cs := cmA cc) KA5.out.lt)
     refine ⟨by kernel_rfl, rfl, ?_⟩
     (try simp only [World.size_alloc] at hS0 KA5)
     go_wp2_with fail
     go_meet
     case rel =>
      refine ⟨_, rfl, ?_⟩
      (try simp only [World.size_alloc])
      exact ⟨K0.out.below hS0, K1.out.below hS0, KA5.out, Below.on hS0 HB⟩
    ·show wpOpIn _ _ _ _ _ 14 _ _ _
     obtain ⟨x5n5, hbx⟩ : ∃ x, W.drew.heap.size = x := ⟨_, rfl⟩
     have hbx2 := hbx
     (try simp [go_sem] at hbx2)
     have hb5 : W.heap.size ≤ x5n5 := by rw [← hbx]; exact hS0.size
     have KA5 := Blk.new0 W.drew 31 (cmA Cm.zero)
     rw [hbx] at KA5
     replace KA5 := Lib.hid KA5
     replace hS0 : Below _ _ (W.drew.alloc (.cells (cmA Cm.zero) 31)) := hS0.alloc hS0.size _
     refine op_go (nd := fun j => true) (S := fun w' => Below W.heap.size W w') (i := 14) (fun _ => trivial) (by kernel_rfl) rfl (by kernel_rfl) (.pointer (some ⟨x5n5, 0, none⟩)) (W.drew.alloc (.cells (cmA Cm.zero) 31)) (by first | (go_simp; done) | (go_simp; rfl) | (go_simp; exact ⟨hbx2, rfl⟩)) (fun _ => hS0) ?_
     clear hbx hbx2
     refine S_one 13 (by kernel_rfl) rfl (fun K hK => ?_)
     go_simp
     gi_wp2_with (gi_at_call 119; refine (callsIn_wide.2 (p4.out _)).mono ?_; rintro e Wh6 ⟨rfl, hN⟩)
     replace KA5 := hn_ KA5 hN
     replace hS0 := hS0.trans (hN.mono hS0.size)
     clear hN
     refine ⟨(fun _ => hS0), ?_⟩
     have hS1 : (fun w' => Below W.heap.size W w') (setRow Wh6 (x5n5) 31 (cmA cc)) := Below.row hS0 hb5 hS0.size
     refine S_store 15 (fun _ => trivial) (by kernel_rfl) (by kernel_rfl) rfl (by kernel_rfl) (setRow Wh6 (x5n5) 31 (cmA cc)) (exec_store _ _ rfl (by kernel_rfl) (by kernel_rfl) (stCm Cm.zero KA5.out cc)) (fun _ => hS1) ?_
     clear hS0
     have hS0 := hS1
     clear hS1
     replace KA5 := Lib.hid (Blk.row (t := 31) (cs := cmA cc) KA5.out.lt)
     refine ⟨by kernel_rfl, rfl, ?_⟩
     (try simp only [World.size_alloc] at hS0 KA5)
     go_wp2_with fail
     go_meet
     case rel =>
      refine ⟨_, rfl, ?_⟩
      (try simp only [World.size_alloc])
      exact ⟨K0.out.below hS0, K1.out.below hS0, KA5.out, Below.on hS0 HB⟩
   ·show wpOpIn _ _ _ _ _ 14 _ _ _
    obtain ⟨x5n7, hbx⟩ : ∃ x, W.drew.heap.size = x := ⟨_, rfl⟩
    have hbx2 := hbx
    (try simp [go_sem] at hbx2)
    have hb5 : W.heap.size ≤ x5n7 := by rw [← hbx]; exact hS0.size
    have KA5 := Blk.new0 W.drew 31 (cmA Cm.zero)
    rw [hbx] at KA5
    replace KA5 := Lib.hid KA5
    replace hS0 : Below _ _ (W.drew.alloc (.cells (cmA Cm.zero) 31)) := hS0.alloc hS0.size _
    refine op_go (nd := fun j => true) (S := fun w' => Below W.heap.size W w') (i := 14) (fun _ => trivial) (by kernel_rfl) rfl (by kernel_rfl) (.pointer (some ⟨x5n7, 0, none⟩)) (W.drew.alloc (.cells (cmA Cm.zero) 31)) (by first | (go_simp; done) | (go_simp; rfl) | (go_simp; exact ⟨hbx2, rfl⟩)) (fun _ => hS0) ?_
    clear hbx hbx2
    refine S_one 7 (by kernel_rfl) rfl (fun K hK => ?_)
    go_simp
    gi_wp2_with (gi_at_call 82; refine (callsIn_wide.2 (p2.out _)).mono ?_; rintro e Wh8 ⟨rfl, hN⟩; obtain rfl : (W.drew.alloc (.cells (cmA Cm.zero) 31)) = Wh8 := (by first | exact hN | exact hN.symm); clear hN)
    refine ⟨(fun _ => hS0), ?_⟩
    refine S_tg 8 (.bool b1) rfl hS0 ?_
    refine S_one 13 (by kernel_rfl) rfl (fun K hK => ?_)
    go_simp
    gi_wp2_with (gi_at_call 119; refine (callsIn_wide.2 (p4.out _)).mono ?_; rintro e Wh9 ⟨rfl, hN⟩)
    replace KA5 := hn_ KA5 hN
    replace hS0 := hS0.trans (hN.mono hS0.size)
    clear hN
    refine ⟨(fun _ => hS0), ?_⟩
    have hS1 : (fun w' => Below W.heap.size W w') (setRow Wh9 (x5n7) 31 (cmA cc)) := Below.row hS0 hb5 hS0.size
    refine S_store 15 (fun _ => trivial) (by kernel_rfl) (by kernel_rfl) rfl (by kernel_rfl) (setRow Wh9 (x5n7) 31 (cmA cc)) (exec_store _ _ rfl (by kernel_rfl) (by kernel_rfl) (stCm Cm.zero KA5.out cc)) (fun _ => hS1) ?_
    clear hS0
    have hS0 := hS1
    clear hS1
    replace KA5 := Lib.hid (Blk.row (t := 31) (cs := cmA cc) KA5.out.lt)
    refine ⟨by kernel_rfl, rfl, ?_⟩
    (try simp only [World.size_alloc] at hS0 KA5)
    go_wp2_with fail
    go_meet
    case rel =>
     refine ⟨_, rfl, ?_⟩
     (try simp only [World.size_alloc])
     exact ⟨K0.out.below hS0, K1.out.below hS0, KA5.out, Below.on hS0 HB⟩
  ·show wpOpIn _ _ _ _ _ 14 _ _ _
   obtain ⟨x5n10, hbx⟩ : ∃ x, W.drew.heap.size = x := ⟨_, rfl⟩
   have hbx2 := hbx
   (try simp [go_sem] at hbx2)
   have hb5 : W.heap.size ≤ x5n10 := by rw [← hbx]; exact hS0.size
   have KA5 := Blk.new0 W.drew 31 (cmA Cm.zero)
   rw [hbx] at KA5
   replace KA5 := Lib.hid KA5
   replace hS0 : Below _ _ (W.drew.alloc (.cells (cmA Cm.zero) 31)) := hS0.alloc hS0.size _
   refine op_go (nd := fun j => true) (S := fun w' => Below W.heap.size W w') (i := 14) (fun _ => trivial) (by kernel_rfl) rfl (by kernel_rfl) (.pointer (some ⟨x5n10, 0, none⟩)) (W.drew.alloc (.cells (cmA Cm.zero) 31)) (by first | (go_simp; done) | (go_simp; rfl) | (go_simp; exact ⟨hbx2, rfl⟩)) (fun _ => hS0) ?_
   clear hbx hbx2
   refine S_one 2 (by kernel_rfl) rfl (fun K hK => ?_)
   go_simp
   gi_wp2_with (gi_at_call 82; refine (callsIn_wide.2 (p1.out _)).mono ?_; rintro e Wh11 ⟨rfl, hN⟩; obtain rfl : (W.drew.alloc (.cells (cmA Cm.zero) 31)) = Wh11 := (by first | exact hN | exact hN.symm); clear hN)
   refine ⟨(fun _ => hS0), ?_⟩
   refine S_one 7 (by kernel_rfl) rfl (fun K hK => ?_)
   go_simp
   gi_wp2_with (gi_at_call 82; refine (callsIn_wide.2 (p2.out _)).mono ?_; rintro e Wh12 ⟨rfl, hN⟩; obtain rfl : (W.drew.alloc (.cells (cmA Cm.zero) 31)) = Wh12 := (by first | exact hN | exact hN.symm); clear hN)
   refine ⟨(fun _ => hS0), ?_⟩
   refine S_tg 8 (.bool b1) rfl hS0 ?_
   refine S_one 13 (by kernel_rfl) rfl (fun K hK => ?_)
   go_simp
   gi_wp2_with (gi_at_call 119; refine (callsIn_wide.2 (p4.out _)).mono ?_; rintro e Wh13 ⟨rfl, hN⟩)
   replace KA5 := hn_ KA5 hN
   replace hS0 := hS0.trans (hN.mono hS0.size)
   clear hN
   refine ⟨(fun _ => hS0), ?_⟩
   have hS1 : (fun w' => Below W.heap.size W w') (setRow Wh13 (x5n10) 31 (cmA cc)) := Below.row hS0 hb5 hS0.size
   refine S_store 15 (fun _ => trivial) (by kernel_rfl) (by kernel_rfl) rfl (by kernel_rfl) (setRow Wh13 (x5n10) 31 (cmA cc)) (exec_store _ _ rfl (by kernel_rfl) (by kernel_rfl) (stCm Cm.zero KA5.out cc)) (fun _ => hS1) ?_
   clear hS0
   have hS0 := hS1
   clear hS1
   replace KA5 := Lib.hid (Blk.row (t := 31) (cs := cmA cc) KA5.out.lt)
   refine ⟨by kernel_rfl, rfl, ?_⟩
   (try simp only [World.size_alloc] at hS0 KA5)
   go_wp2_with fail
   go_meet
   case rel =>
    refine ⟨_, rfl, ?_⟩
    (try simp only [World.size_alloc])
    exact ⟨K0.out.below hS0, K1.out.below hS0, KA5.out, Below.on hS0 HB⟩
 case rest =>
  obtain ⟨b5, rfl, hW⟩ := hcut
  have j0 := Lib.hid hW.1
  have j1 := Lib.hid hW.2.1
  have j2 := Lib.hid hW.2.2.1
  have HBn := hW.2.2.2
  clear hW k0 f0 l0 m0 k1 f1 l1 m1 K0 K1 HB p1 p2 p4 e1
  have K0 := j0; have K1 := j1; have K2 := j2; have HB := HBn
  clear j0 j1 j2 HBn
  go_upto_region 2 with fail
  have hwf : ∀ f, Fence.wide.fn f := fun _ => trivial
  refine (wpIn_wide (n := 9)).1 ?_
  refine wpIn_round_held (fun w' => Below wc.heap.size wc w') (fun j => true) (by kernel_rfl) ?_
  have hS0 : (fun w' => Below wc.heap.size wc w') wc.drew := (Below.refl _ _).drew
  refine S_tk 0 (cmV (cc)) rfl hS0 (fun w' hw => exec_load rfl (by kernel_rfl) (ldCm (cc) (K2.out.below hw))) ?_
  refine S_tg 1 (.pointer (some ⟨(g + 1), 22, none⟩)) rfl hS0 ?_
  refine S_tk 2 (.int .u64 (u.bits : Int)) rfl hS0 (fun w' hw => exec_load rfl (by kernel_rfl) (run_load_cell (i := 22) (K1.out.below hw) rfl szU64 nrU64)) ?_
  refine S_tg 5 (.pointer (some ⟨(g + 1), 0, none⟩)) rfl hS0 ?_
  refine S_tg 6 (.pointer (some ⟨(g + 1), 0, none⟩)) rfl hS0 ?_
  refine S_tk 7 (hdV (u.seen.b)) rfl hS0 (fun w' hw => exec_load rfl (by kernel_rfl) (ldUp_seen_b (u) (K1.out.below hw))) ?_
  refine S_tg 8 (.pointer (some ⟨(g + 1), 24, none⟩)) rfl hS0 ?_
  refine S_tk 9 (.int .u64 (u.slot : Int)) rfl hS0 (fun w' hw => exec_load rfl (by kernel_rfl) (run_load_cell (i := 24) (K1.out.below hw) rfl szU64 nrU64)) ?_
  refine S_tg 11 (.pointer (some ⟨(g + 1), 23, none⟩)) rfl hS0 ?_
  refine S_tk 12 (.string (bs u.sig)) rfl hS0 (fun w' hw => exec_load rfl (by kernel_rfl) (run_load_cell (i := 23) (K1.out.below hw) rfl szStr nrStr)) ?_
  refine S_one 3 (by kernel_rfl) rfl (fun K hK => ?_)
  go_simp
  gi_wp2_with (gi_at_call 122; refine (callsIn_wide.2 (q1.out _)).mono ?_; rintro e wch1 ⟨B23, rfl, FX23, hN⟩)
  replace hS0 := hS0.trans (hN.mono hS0.size)
  clear hN
  refine ⟨(fun _ => hS0), ?_⟩
  refine S_one 4 (by kernel_rfl) rfl (fun K hK => ?_)
  go_simp
  gi_wp2_with (gi_at_call 121; refine (callsIn_wide.2 (q2.out _ _ (Below.on hS0 HB) FX23.1 FX23.2)).mono ?_; rintro e wch2 ⟨A24, C24, rfl, hT, hN⟩)
  have TX24 := Lib.hid hT
  clear hT
  replace hS0 := hS0.trans (hN.mono hS0.size)
  clear hN
  refine ⟨(fun _ => hS0), ?_⟩
  refine S_one 10 (by kernel_rfl) rfl (fun K hK => ?_)
  go_simp
  gi_wp2_with (gi_at_call 123; refine (callsIn_wide.2 (q3.out _ (Below.on hS0 HB))).mono ?_; rintro e wch3 ⟨rfl, hN⟩)
  replace TX24 := Lib.hid (Txts.below TX24.out hN)
  replace hS0 := hS0.trans (hN.mono hS0.size)
  clear hN
  refine ⟨(fun _ => hS0), ?_⟩
  refine S_one 13 (by kernel_rfl) rfl (fun K hK => ?_)
  go_simp
  gi_wp2_with (gi_at_call 120; refine (callsIn_wide.2 (q4.out _ _ _ (Below.on hS0 HB) TX24.out)).mono ?_; rintro e wch4 ⟨rfl, hN⟩)
  replace TX24 := Lib.hid (Txts.below TX24.out hN)
  replace hS0 := hS0.trans (hN.mono hS0.size)
  clear hN
  refine ⟨(fun _ => hS0), ?_⟩
  refine S_tg 14 (.bool (!al)) rfl hS0 ?_
  refine ⟨by kernel_rfl, rfl, ?_⟩
  cases al
  all_goals
   go_wp2_with fail
   go_ret
   exact ⟨by rw [hE.out]; rfl, Below.on hS0 HB⟩
theorem lgcheck_calls (s : Sr) (u : Up) (now : Nat) (w : World) (hk : HasK w) (hs : SrIn w s) (hu : UpIn w u) (hn : now < 18446744073709551616) : Calls Tryz.prog 20 #[srV s, upV u, .int .u64 now] w (Ret w (.int .i64 (checkE s u now))) := by
 have hE : checkE s u now = if onesP u.bits = 0 then 141 else if holdsP u.seen then if orE (slotsE s u now) (finalE u) (nextE s u) = 0 then sigE s u else orE (slotsE s u now) (finalE u) (nextE s u) else 130 := by
  unfold checkE
  rw [or_chain]
 by_cases h0 : onesP u.bits = 0
 ·rw [hE, if_pos h0]
  exact check_few s u now h0 w
 rw [if_neg h0] at hE
 cases hh : holdsP u.seen with
 | false =>
  rw [hE, if_neg (by rw [hh]; decide)]
  exact check_head s u now h0 hh w hk hu.1
 | true =>
  rw [if_pos hh] at hE
  have p1 := fun W => signers_calls u W
  have p2 := fun W (hB : Below w.heap.size w W) => lholds_calls u.seen W (hk.on hB) (hu.1.below hB)
  have p3 := fun W => lgslots_calls s u now hs.1.1.1 hu.1.1.1 hu.2.2.2.2.2.2.2 hn W
  have p4 := fun W (hB : Below w.heap.size w W) => lgfinal_calls u W (hk.on hB) (hu.below hB)
  have p5 := fun W (hB : Below w.heap.size w W) => lgnext_calls s u W (hk.on hB) (hs.below hB) (hu.below hB)
  have p6 := or_calls (slotsE s u now) (finalE u) (nextE s u)
  have p7 := fun W (hB : Below w.heap.size w W) => lgsig_calls s u W (hk.on hB) (hs.below hB) (hu.below hB)
  rw [hh] at p2
  have e1 : (((onesP u.bits : Nat) : Int) == 0) = false := by simp; exact h0
  generalize onesP u.bits = k at *
  generalize checkE s u now = C at *
  generalize slotsE s u now = E1 at *
  generalize finalE u = E2 at *
  generalize nextE s u = E3 at *
  generalize orE E1 E2 E3 = E at *
  generalize sigE s u = S at *
  replace hE := Lib.hid hE
  replace p1 := Lib.hid p1
  replace p2 := Lib.hid p2
  replace p3 := Lib.hid p3
  replace p4 := Lib.hid p4
  replace p5 := Lib.hid p5
  replace p6 := Lib.hid p6
  replace p7 := Lib.hid p7
  clear h0 hh hu hs hk hn
  go_enter Tryz.func20, Tryz.ntmps20
  go_upto_region 1 with fail
  have HB : Below w.heap.size w ((w.alloc (.cells (srA s) 35)).alloc (.cells (upA u) 33)) := bel
  have K0 := (Blk.new0 w 35 (srA s)).alloc (.cells (upA u) 33)
  have K1 := Blk.new1 w (.cells (srA s) 35) 33 (upA u)
  obtain ⟨W, hW⟩ : ∃ W, ((w.alloc (.cells (srA s) 35)).alloc (.cells (upA u) 33)) = W := ⟨_, rfl⟩
  rw [hW] at HB K0 K1 ⊢
  clear hW
  have hgl : w.heap.size ≤ w.heap.size := Nat.le_refl _
  obtain ⟨g, hg⟩ : ∃ g, w.heap.size = g := ⟨_, rfl⟩
  rw [hg] at K0 K1 ⊢
  replace hgl : w.heap.size ≤ g := by omega
  replace K0 := Lib.hid K0
  replace K1 := Lib.hid K1
  clear hg
  (obtain ⟨k0, f0, l0, m0⟩ := rl_ K0; obtain ⟨k1, f1, l1, m1⟩ := rl_ K1)
  go_wp2_with (first | (with_reducible refine wlr (ldUp _ K1.out) rfl ?_) | (with_reducible refine wlg (ldUp _ K1.out) (by with_unfolding_all rfl) rfl ?_))
  (refine (p1.out _).mono ?_; rintro e w1 ⟨rfl, hN⟩; replace K0 := hn_ K0 hN; replace K1 := hn_ K1 hN; replace HB : Below w.heap.size w w1 := Below.on hN HB; clear hN k0 f0 l0 m0 k1 f1 l1 m1; obtain ⟨k0, f0, l0, m0⟩ := rl_ K0; obtain ⟨k1, f1, l1, m1⟩ := rl_ K1)
  go_wp2_with fail
  (refine (p2.out _ HB).mono ?_; rintro e w2 ⟨rfl, hN⟩; replace K0 := hn_ K0 hN; replace K1 := hn_ K1 hN; replace HB : Below w.heap.size w w2 := Below.on hN HB; clear hN k0 f0 l0 m0 k1 f1 l1 m1; obtain ⟨k0, f0, l0, m0⟩ := rl_ K0; obtain ⟨k1, f1, l1, m1⟩ := rl_ K1)
  go_upto_region 5 with fail
  go_cut [7] (fun s7 wx => s7 = .int .i64 E ∧ SuW w g s u wx)
  case first =>
   have hwf : ∀ f, Fence.wide.fn f := fun _ => trivial
   refine (wpIn_wide (n := 9)).1 ?_
   refine wpIn_round_held (fun w' => Below w2.heap.size w2 w') (fun j => true) (by kernel_rfl) ?_
   have hS0 : (fun w' => Below w2.heap.size w2 w') w2.drew := (Below.refl _ _).drew
   refine S_tk 0 (srV (s)) rfl hS0 (fun w' hw => exec_load rfl (by kernel_rfl) (ldSr (s) (K0.out.below hw))) ?_
   refine S_tk 1 (upV (u)) rfl hS0 (fun w' hw => exec_load rfl (by kernel_rfl) (ldUp (u) (K1.out.below hw))) ?_
   refine S_tg 2 (.int .u64 (now : Int)) rfl hS0 ?_
   refine S_tk 4 (upV (u)) rfl hS0 (fun w' hw => exec_load rfl (by kernel_rfl) (ldUp (u) (K1.out.below hw))) ?_
   refine S_tk 6 (srV (s)) rfl hS0 (fun w' hw => exec_load rfl (by kernel_rfl) (ldSr (s) (K0.out.below hw))) ?_
   refine S_tk 7 (upV (u)) rfl hS0 (fun w' hw => exec_load rfl (by kernel_rfl) (ldUp (u) (K1.out.below hw))) ?_
   refine S_one 3 (by kernel_rfl) rfl (fun K hK => ?_)
   go_simp
   gi_wp2_with (gi_at_call 58; refine (callsIn_wide.2 (p3.out _)).mono ?_; rintro e w2h1 ⟨rfl, hN⟩)
   replace hS0 := hS0.trans (hN.mono hS0.size)
   clear hN
   refine ⟨(fun _ => hS0), ?_⟩
   refine S_one 5 (by kernel_rfl) rfl (fun K hK => ?_)
   go_simp
   gi_wp2_with (gi_at_call 59; refine (callsIn_wide.2 (p4.out _ (Below.on hS0 HB))).mono ?_; rintro e w2h2 ⟨rfl, hN⟩)
   replace hS0 := hS0.trans (hN.mono hS0.size)
   clear hN
   refine ⟨(fun _ => hS0), ?_⟩
   refine S_one 8 (by kernel_rfl) rfl (fun K hK => ?_)
   go_simp
   gi_wp2_with (gi_at_call 60; refine (callsIn_wide.2 (p5.out _ (Below.on hS0 HB))).mono ?_; rintro e w2h3 ⟨rfl, hN⟩)
   replace hS0 := hS0.trans (hN.mono hS0.size)
   clear hN
   refine ⟨(fun _ => hS0), ?_⟩
   replace hS0 : Below _ _ (w2h3.alloc (.cells #[.int .i64 E1, .int .i64 E2, .int .i64 E3] 37)) := hS0.alloc hS0.size _
   refine S_go 9 (fun _ => trivial) (by kernel_rfl) (by kernel_rfl) rfl (by kernel_rfl) (.slice (some ⟨w2h3.heap.size, 0, none⟩) 3 3) (w2h3.alloc (.cells #[.int .i64 E1, .int .i64 E2, .int .i64 E3] 37)) (by first | (go_simp; done) | (go_simp; rfl) | (go_simp; exact ⟨hbx2, rfl⟩)) (fun _ => hS0) ?_
   refine S_one 10 (by kernel_rfl) rfl (fun K hK => ?_)
   go_simp
   gi_wp2_with (gi_at_call 57; refine (callsIn_wide.2 (p6.out _ _ _ (Blk.new0 _ _ _))).mono ?_; rintro e w2h4 ⟨rfl, hN⟩; obtain rfl : (w2h3.alloc (.cells #[.int .i64 E1, .int .i64 E2, .int .i64 E3] 37)) = w2h4 := (by first | exact hN | exact hN.symm); clear hN)
   refine ⟨(fun _ => hS0), ?_⟩
   refine S_tg 11 (.int .i64 E) rfl hS0 ?_
   refine ⟨by kernel_rfl, rfl, ?_⟩
   go_wp2_with fail
   go_meet
   case rel => exact ⟨rfl, K0.out.below hS0, K1.out.below hS0, Below.on hS0 HB⟩
  case rest =>
   obtain ⟨rfl, hW⟩ := hcut
   have j0 := Lib.hid hW.1
   have j1 := Lib.hid hW.2.1
   have HBn := hW.2.2
   clear hW k0 f0 l0 m0 k1 f1 l1 m1 K0 K1 HB
   have K0 := j0; have K1 := j1; have HB := HBn
   clear j0 j1 HBn
   (obtain ⟨k0, f0, l0, m0⟩ := rl_ K0; obtain ⟨k1, f1, l1, m1⟩ := rl_ K1)
   clear p1 p2 p3 p4 p5 p6 e1
   by_cases h7 : E = 0
   ·subst h7
    have hE2 : C = S := by rw [hE.out, if_pos rfl]
    replace hE := Lib.hid hE2
    clear hE2
    go_wp2_with (first | (with_reducible refine wlr (ldSr _ K0.out) rfl ?_) | (with_reducible refine wlg (ldSr _ K0.out) (by with_unfolding_all rfl) rfl ?_) | (with_reducible refine wlr (ldUp _ K1.out) rfl ?_) | (with_reducible refine wlg (ldUp _ K1.out) (by with_unfolding_all rfl) rfl ?_))
    (refine (p7.out _ HB).mono ?_; rintro e w3 ⟨rfl, hN⟩; replace K0 := hn_ K0 hN; replace K1 := hn_ K1 hN; replace HB : Below w.heap.size w w3 := Below.on hN HB; clear hN k0 f0 l0 m0 k1 f1 l1 m1; obtain ⟨k0, f0, l0, m0⟩ := rl_ K0; obtain ⟨k1, f1, l1, m1⟩ := rl_ K1)
    go_wp2_with fail
    go_ret
    exact ⟨by rw [hE.out]; rfl, HB⟩
   ·have e3 : (E == 0) = false := by simpa using h7
    have e4 : (E != 0) = true := by simpa using h7
    have hE2 : C = E := by rw [hE.out, if_neg h7]
    replace hE := Lib.hid hE2
    clear hE2 h7 p7
    go_wp2_with fail
    go_ret
    exact ⟨by rw [hE.out]; rfl, HB⟩
theorem rtext_calls (h : Hd) (slot : Nat) (w : World) (hh : HdIn w h) (hs : slot < 18446744073709551616) : Calls Tryz.prog 34 #[hdV h, .int .u64 slot] w (Ret w (.string (bs (textP h slot)))) := by
 have n1 := fun W (hB : Below w.heap.size w W) => rhroot_calls h W (hh.below hB)
 obtain ⟨q, hq⟩ : ∃ q, (max slot 1 - 1) / 128 = q := ⟨_, rfl⟩
 have hq2 : q < 18446744073709551616 := by omega
 obtain ⟨f, hf⟩ : ∃ f, min 2 q = f := ⟨_, rfl⟩
 have e3 : min (q : Int) 2 = (f : Int) := by omega
 have hf2 : f ≤ 2 := by omega
 have ht : textP h slot = sha (hdRoot h ++ numP (7 + f)) := by
  unfold textP forkP
  rw [hq, hf]
 rw [ht]
 have n2 : ∀ W, Calls Tryz.prog 91 #[.int .u64 (7 + (f : Int))] W (Ret W (.string (bs (numP (7 + f))))) := fun W => by
  have := rnumber_calls (7 + f) (by omega) W
  simpa using this
 have hl1 := hdRoot_len h
 have hl2 := numP_len (7 + f)
 have n3 := fun W => rsum_calls (hdRoot h ++ numP (7 + f)) (by rw [List.length_append]; omega) W
 generalize hdRoot h = r at *
 generalize hdE h = z at *
 generalize numP (7 + f) = y at *
 have K0 := Lib.hid (Blk.new0 w 24 (hdA h))
 replace n1 := Lib.hid n1
 replace n2 := Lib.hid n2
 replace n3 := Lib.hid n3
 have hl3 : y.length ≤ 32 := by omega
 clear ht hh hl2
 by_cases h0 : 0 < slot
 ·have e1 : (0 : Int) < (slot : Int) := by omega
  have e2 : ((slot : Int) - 1) / 128 = (q : Int) := by omega
  have e4 : 1 ≤ slot := h0
  clear hq hf h0
  go_enter Tryz.func34, Tryz.ntmps34
  go_wp2_with fail
  refine (n1.out _ bel).mono ?_
  rintro e w1 ⟨rfl, h1⟩
  have hB1 : Below w.heap.size w w1 := Below.on h1 bel
  clear h1
  go_wp2_with fail
  refine (n2.out _).mono ?_
  rintro e w2 ⟨rfl, h2⟩
  have hB2 := Below.on h2 hB1
  clear h2 hB1
  go_wp2_with fail
  refine (n3.out _).mono ?_
  rintro e w3 ⟨rfl, h3⟩
  go_wp2_with fail
  go_ret
  exact ⟨rfl, Below.on h3 hB2⟩
 ·obtain rfl : slot = 0 := by omega
  have e5 : min (0 : Int) 2 = (f : Int) := by omega
  clear hq hf h0 e3
  go_enter Tryz.func34, Tryz.ntmps34
  go_wp2_with fail
  refine (n1.out _ bel).mono ?_
  rintro e w1 ⟨rfl, h1⟩
  have hB1 : Below w.heap.size w w1 := Below.on h1 bel
  clear h1
  go_wp2_with fail
  refine (n2.out _).mono ?_
  rintro e w2 ⟨rfl, h2⟩
  have hB2 := Below.on h2 hB1
  clear h2 hB1
  go_wp2_with fail
  refine (n3.out _).mono ?_
  rintro e w3 ⟨rfl, h3⟩
  go_wp2_with fail
  go_ret
  exact ⟨rfl, Below.on h3 hB2⟩
theorem rsameUp_calls (a b : Up) (w : World) (ha : UpIn w a) (hb : UpIn w b) : Calls Tryz.prog 49 #[upV a, upV b] w (Ret w (.bool (sameUp a b))) := by
 have n1 := fun W (hB : Below w.heap.size w W) => rsameLt_calls a.seen b.seen W (ha.1.below hB) (hb.1.below hB)
 have n2 := fun W (hB : Below w.heap.size w W) => rsameLt_calls a.fin b.fin W (ha.2.2.2.1.below hB) (hb.2.2.2.1.below hB)
 have n3 := fun W (hB : Below w.heap.size w W) => rsameCm_calls a.next b.next W (ha.2.1.below hB) (hb.2.1.below hB)
 have n4 := fun W (hB : Below w.heap.size w W) => lrowsame a.nb.addr b.nb.addr a.nb.cap b.nb.cap a.nb.l b.nb.l ha.2.2.1.2.2.1 hb.2.2.1.2.2.1 W (Txts.below ha.2.2.1.1 hB) (Txts.below hb.2.2.1.1 hB)
 have n5 := fun W (hB : Below w.heap.size w W) => lrowsame a.fb.addr b.fb.addr a.fb.cap b.fb.cap a.fb.l b.fb.l ha.2.2.2.2.1.2.2.1 hb.2.2.2.2.1.2.2.1 W (Txts.below ha.2.2.2.2.1.1 hB) (Txts.below hb.2.2.2.2.1.1 hB)
 have hE : sameUp a b = (sameLt a.seen b.seen && (sameLt a.fin b.fin && (sameCm a.next b.next && (a.nb.l == b.nb.l && (a.fb.l == b.fb.l && (a.bits == b.bits && (a.sig == b.sig && a.slot == b.slot))))))) := rfl
 rw [hE]
 clear hE
 have e6 : ((a.bits : Int) == (b.bits : Int)) = (a.bits == b.bits) := by rw [Bool.eq_iff_iff]; simp; omega
 have e8 : ((a.slot : Int) == (b.slot : Int)) = (a.slot == b.slot) := by rw [Bool.eq_iff_iff]; simp; omega
 generalize sameLt a.seen b.seen = r1 at *
 generalize sameLt a.fin b.fin = r2 at *
 generalize sameCm a.next b.next = r3 at *
 generalize (a.nb.l == b.nb.l) = r4 at *
 generalize (a.fb.l == b.fb.l) = r5 at *
 generalize (a.bits == b.bits) = r6 at *
 obtain ⟨r7, e7⟩ : ∃ r7, (a.sig == b.sig) = r7 := ⟨_, rfl⟩
 rw [e7]
 generalize (a.slot == b.slot) = r8 at *
 replace n1 := Lib.hid n1
 replace n2 := Lib.hid n2
 replace n3 := Lib.hid n3
 replace n4 := Lib.hid n4
 replace n5 := Lib.hid n5
 clear ha hb
 go_enter Tryz.func49, Tryz.ntmps49
 go_upto_region 1 with fail
 have HB : Below w.heap.size w ((w.alloc (.cells (upA a) 33)).alloc (.cells (upA b) 33)) := bel
 have K0 := (Blk.new0 w 33 (upA a)).alloc (.cells (upA b) 33)
 have K1 := Blk.new1 w (.cells (upA a) 33) 33 (upA b)
 obtain ⟨W, hW⟩ : ∃ W, ((w.alloc (.cells (upA a) 33)).alloc (.cells (upA b) 33)) = W := ⟨_, rfl⟩
 rw [hW] at HB K0 K1 ⊢
 clear hW
 have hgl : w.heap.size ≤ w.heap.size := Nat.le_refl _
 obtain ⟨g, hg⟩ : ∃ g, w.heap.size = g := ⟨_, rfl⟩
 rw [hg] at K0 K1 ⊢
 replace hgl : w.heap.size ≤ g := by omega
 replace K0 := Lib.hid K0
 replace K1 := Lib.hid K1
 clear hg
 (obtain ⟨k0, f0, l0, m0⟩ := rl_ K0; obtain ⟨k1, f1, l1, m1⟩ := rl_ K1)
 go_wp2_with fail
 (refine (n1.out _ HB).mono ?_; rintro e w1 ⟨rfl, hN⟩; replace K0 := hn_ K0 hN; replace K1 := hn_ K1 hN; replace HB : Below w.heap.size w w1 := Below.on hN HB; clear hN k0 f0 l0 m0 k1 f1 l1 m1; obtain ⟨k0, f0, l0, m0⟩ := rl_ K0; obtain ⟨k1, f1, l1, m1⟩ := rl_ K1)
 go_wp2_with fail
 (refine (n2.out _ HB).mono ?_; rintro e w2 ⟨rfl, hN⟩; replace K0 := hn_ K0 hN; replace K1 := hn_ K1 hN; replace HB : Below w.heap.size w w2 := Below.on hN HB; clear hN k0 f0 l0 m0 k1 f1 l1 m1; obtain ⟨k0, f0, l0, m0⟩ := rl_ K0; obtain ⟨k1, f1, l1, m1⟩ := rl_ K1)
 go_wp2_with fail
 (refine (n3.out _ HB).mono ?_; rintro e w3 ⟨rfl, hN⟩; replace K0 := hn_ K0 hN; replace K1 := hn_ K1 hN; replace HB : Below w.heap.size w w3 := Below.on hN HB; clear hN k0 f0 l0 m0 k1 f1 l1 m1; obtain ⟨k0, f0, l0, m0⟩ := rl_ K0; obtain ⟨k1, f1, l1, m1⟩ := rl_ K1)
 cases r1 with
 | false =>
  go_wp2_with fail
  go_ret
  exact ⟨rfl, HB⟩
 | true =>
  cases r2 with
  | false =>
   go_wp2_with fail
   go_ret
   exact ⟨rfl, HB⟩
  | true =>
   cases r3 with
   | false =>
    go_wp2_with fail
    go_ret
    exact ⟨rfl, HB⟩
   | true =>
    go_wp2_with fail
    (refine (n4.out _ HB).mono ?_; rintro e w4 ⟨rfl, hN⟩; replace K0 := hn_ K0 hN; replace K1 := hn_ K1 hN; replace HB : Below w.heap.size w w4 := Below.on hN HB; clear hN k0 f0 l0 m0 k1 f1 l1 m1; obtain ⟨k0, f0, l0, m0⟩ := rl_ K0; obtain ⟨k1, f1, l1, m1⟩ := rl_ K1)
    cases r4 with
    | false =>
     go_wp2_with fail
     go_ret
     exact ⟨rfl, HB⟩
    | true =>
     go_wp2_with fail
     (refine (n5.out _ HB).mono ?_; rintro e w5 ⟨rfl, hN⟩; replace K0 := hn_ K0 hN; replace K1 := hn_ K1 hN; replace HB : Below w.heap.size w w5 := Below.on hN HB; clear hN k0 f0 l0 m0 k1 f1 l1 m1; obtain ⟨k0, f0, l0, m0⟩ := rl_ K0; obtain ⟨k1, f1, l1, m1⟩ := rl_ K1)
     cases r5 with
     | false =>
      go_wp2_with fail
      go_ret
      exact ⟨rfl, HB⟩
     | true =>
      cases r6 with
      | false =>
       go_wp2_with fail
       go_ret
       exact ⟨rfl, HB⟩
      | true =>
       cases r7 with
       | false =>
        go_wp2_with fail
        go_ret
        exact ⟨rfl, HB⟩
       | true =>
        go_wp2_with fail
        go_ret
        exact ⟨rfl, HB⟩
end Go.Proofs.YtegaaccioppfjaaGreatDoor
end
