/- What the later texts stand on (RHd1, RLg1, RLg3, RLg4, RHd2): plain laws and walks, each by its own conditions. -/
import Derived.Test.YtegaaccioppfjaaGreatDoorFr18
import Derived.Test.YtegaaccioppfjaaGreatDoorFr19
import Derived.Test.YtegaaccioppfjaaGreatDoorFr21
set_option linter.unusedSimpArgs false
set_option linter.unusedVariables false
section
namespace Go.Proofs.YtegaaccioppfjaaGreatDoor
open BigFrame Go.RowKit Go.Phx Go.Shelf
attribute [local go_sem] Oper.semAt_some

set_option maxRecDepth 100000 in
set_option maxHeartbeats 1000000 in
theorem rchunks_calls (h : Hd) (w : World) (hh : HdIn w h) : Calls Tryz.prog 93 #[hdV h] w (fun e w' => ∃ g, e = .returned (.slice (some ⟨g, 0, none⟩) 5 5) ∧ Txts w' (some ⟨g, 0, none⟩) (hdL h) ∧ Below w.heap.size w w') := by
 have n1 := fun W => rnumber_calls h.slot hh.1 W
 have n2 := fun W => rnumber_calls h.prop hh.2.1 W
 have n3 : ∀ W : World, Txts (W.alloc (.cells #[.string (bs (numP h.slot)), .string (bs (numP h.prop)), .string (bs h.parent), .string (bs h.state), .string (bs h.body)] 9)) (some ⟨W.heap.size, 0, none⟩) (hdL h) := fun W => txts_new W (hdL h)
 generalize hdL h = L at *
 generalize numP h.slot = a at *
 generalize numP h.prop = b at *
 have K0 := Lib.hid (Blk.new0 w 24 (hdA h))
 replace n1 := Lib.hid n1
 replace n2 := Lib.hid n2
 replace n3 := Lib.hid n3
 clear hh
 go_enter Tryz.func93, Tryz.ntmps93
 go_wp2_with fail
 have hB0 : Below w.heap.size w (w.alloc (.cells (hdA h) 24)) := bel
 obtain ⟨W, hW⟩ : ∃ W, w.alloc (.cells (hdA h) 24) = W := ⟨_, rfl⟩
 rw [hW] at K0 hB0 ⊢
 obtain ⟨g, hg⟩ : ∃ g, w.heap.size = g := ⟨_, rfl⟩
 rw [hg] at K0 ⊢
 replace hB0 := Lib.hid hB0
 clear hW
 replace hg := Lib.hid hg
 have hwf : ∀ f, Fence.wide.fn f := fun _ => trivial
 refine (wpIn_wide (n := 9)).1 ?_
 refine wpIn_round_held (fun w' => Below W.heap.size W w') (fun j => true) (by kernel_rfl) ?_
 have hS0 : (fun w' => Below W.heap.size W w') W.drew := (Below.refl _ _).drew
 refine S_tk 0 (.pointer (some ⟨g, 0, none⟩)) rfl hS0 (fun w' hw => by go_simp) ?_
 refine S_tk 1 (.int .u64 (h.slot : Int)) rfl hS0 (fun w' hw => exec_load rfl (by kernel_rfl) (run_load_cell (i := 0) (K0.out.below hw) rfl szU64 nrU64)) ?_
 refine S_tk 3 (.pointer (some ⟨g, 1, none⟩)) rfl hS0 (fun w' hw => by go_simp) ?_
 refine S_tk 4 (.int .u64 (h.prop : Int)) rfl hS0 (fun w' hw => exec_load rfl (by kernel_rfl) (run_load_cell (i := 1) (K0.out.below hw) rfl szU64 nrU64)) ?_
 refine S_tk 6 (.pointer (some ⟨g, 2, none⟩)) rfl hS0 (fun w' hw => by go_simp) ?_
 refine S_tk 7 (.string (bs h.parent)) rfl hS0 (fun w' hw => exec_load rfl (by kernel_rfl) (run_load_cell (i := 2) (K0.out.below hw) rfl szStr nrStr)) ?_
 refine S_tk 8 (.pointer (some ⟨g, 3, none⟩)) rfl hS0 (fun w' hw => by go_simp) ?_
 refine S_tk 9 (.string (bs h.state)) rfl hS0 (fun w' hw => exec_load rfl (by kernel_rfl) (run_load_cell (i := 3) (K0.out.below hw) rfl szStr nrStr)) ?_
 refine S_tk 10 (.pointer (some ⟨g, 4, none⟩)) rfl hS0 (fun w' hw => by go_simp) ?_
 refine S_tk 11 (.string (bs h.body)) rfl hS0 (fun w' hw => exec_load rfl (by kernel_rfl) (run_load_cell (i := 4) (K0.out.below hw) rfl szStr nrStr)) ?_
 refine S_one 2 (by kernel_rfl) rfl (fun K hK => ?_)
 go_simp
 gi_wp2_with (gi_at_call 91; refine (callsIn_wide.2 (n1.out _)).mono ?_; rintro e Wh1 ⟨rfl, hN⟩)
 have hS1 : (fun w' => Below W.heap.size W w') Wh1 := hS0.trans (hN.mono hS0.size)
 clear hS0
 have hS0 := hS1
 clear hS1
 clear hN
 refine ⟨(fun _ => hS0), ?_⟩
 refine S_one 5 (by kernel_rfl) rfl (fun K hK => ?_)
 go_simp
 gi_wp2_with (gi_at_call 91; refine (callsIn_wide.2 (n2.out _)).mono ?_; rintro e Wh2 ⟨rfl, hN⟩)
 have hS1 : (fun w' => Below W.heap.size W w') Wh2 := hS0.trans (hN.mono hS0.size)
 clear hS0
 have hS0 := hS1
 clear hS1
 clear hN
 refine ⟨(fun _ => hS0), ?_⟩
 have hS1 : (fun w' => Below W.heap.size W w') (Wh2.alloc (.cells #[.string (bs a), .string (bs b), .string (bs h.parent), .string (bs h.state), .string (bs h.body)] 9)) := hS0.alloc hS0.size _
 clear hS0
 have hS0 := hS1
 clear hS1
 refine S_go 12 (fun _ => trivial) (by kernel_rfl) (by kernel_rfl) rfl (by kernel_rfl) (.slice (some ⟨Wh2.heap.size, 0, none⟩) 5 5) (Wh2.alloc (.cells #[.string (bs a), .string (bs b), .string (bs h.parent), .string (bs h.state), .string (bs h.body)] 9)) (by first | (go_simp; done) | (go_simp; rfl) | (go_simp; exact ⟨hbx2, rfl⟩)) (fun _ => hS0) ?_
 refine S_tk 13 (.slice (some ⟨Wh2.heap.size, 0, none⟩) 5 5) rfl hS0 (fun w' hw => by go_simp) ?_
 refine ⟨by kernel_rfl, rfl, ?_⟩
 have hT := Lib.hid (n3.out Wh2)
 go_wp2_with fail
 go_ret
 exact ⟨_, rfl, hT.out, Below.on hS0 hB0.out⟩
set_option maxRecDepth 100000 in
theorem rhroot_calls (h : Hd) (w : World) (hh : HdIn w h) : Calls Tryz.prog 35 #[hdV h] w (Ret w (.tuple #[.string (bs (hdRoot h)), .int .i64 (hdE h)])) := by
 have n1 := fun W (hB : Below w.heap.size w W) => rchunks_calls h W (hh.below hB)
 have n2 : ∀ W g, Txts W (some ⟨g, 0, none⟩) (hdL h) → Calls Tryz.prog 92 #[.slice (some ⟨g, 0, none⟩) 5 5, .int .i64 3] W (Ret W (rootV (hdL h) 3)) := fun W g hs => zrroot_calls (some ⟨g, 0, none⟩) 5 (hdL h) 3 (hdL_le hh) W hs
 have K0 := Lib.hid (Blk.new0 w 24 (hdA h))
 unfold rootV at n2
 unfold hdRoot hdE hdOk
 by_cases hR : RightP (hdL h) 3
 ·rw [if_pos hR] at n2
  rw [decide_eq_true hR, if_pos rfl, if_pos rfl]
  rw [show (3 : Int).toNat = 3 from rfl] at n2
  generalize rootP (hdL h) 3 = r at *
  replace n1 := Lib.hid n1
  replace n2 := Lib.hid n2
  clear hR hh
  go_enter Tryz.func35, Tryz.ntmps35
  go_wp2_with fail
  refine (n1.out _ bel).mono ?_
  rintro e w1 ⟨g, rfl, hs, h1⟩
  have hB1 : Below w.heap.size w w1 := Below.on h1 bel
  replace hs := Lib.hid hs
  clear h1
  go_wp2_with fail
  refine (n2.out _ _ hs.out).mono ?_
  rintro e w2 ⟨rfl, h2⟩
  go_wp2_with fail
  go_ret2
  exact ⟨rfl, Below.on h2 hB1⟩
 ·rw [if_neg hR] at n2
  rw [decide_eq_false hR, if_neg (by simp), if_neg (by simp)]
  replace n1 := Lib.hid n1
  replace n2 := Lib.hid n2
  clear hR hh
  go_enter Tryz.func35, Tryz.ntmps35
  go_wp2_with fail
  refine (n1.out _ bel).mono ?_
  rintro e w1 ⟨g, rfl, hs, h1⟩
  have hB1 : Below w.heap.size w w1 := Below.on h1 bel
  replace hs := Lib.hid hs
  clear h1
  go_wp2_with fail
  refine (n2.out _ _ hs.out).mono ?_
  rintro e w2 ⟨rfl, h2⟩
  go_wp2_with fail
  go_ret2
  exact ⟨rfl, Below.on h2 hB1⟩
set_option maxRecDepth 100000 in
set_option maxHeartbeats 1000000 in
theorem reroot_calls (x : Ex) (w : World) (hh : ExIn w x) : Calls Tryz.prog 103 #[exV x] w (Ret w (.tuple #[.string (bs (exRoot x)), .int .i64 (exE x)])) := by
 have n1 := fun W => rnumber_calls x.num hh.2.2 W
 have n2 : ∀ W : World, Calls Tryz.prog 92 #[.slice (some ⟨W.heap.size, 0, none⟩) 3 3, .int .i64 2] (W.alloc (.cells #[.string (bs x.acc), .string (bs x.rcp), .string (bs (numP x.num))] 9)) (Ret (W.alloc (.cells #[.string (bs x.acc), .string (bs x.rcp), .string (bs (numP x.num))] 9)) (rootV (exL x) 2)) := fun W => zrroot_calls (some ⟨W.heap.size, 0, none⟩) 3 (exL x) 2 (exL_le hh) _ (txts_new W (exL x))
 have K0 := Lib.hid (Blk.new0 w 26 (exA x))
 unfold rootV at n2
 unfold exRoot exE exOk
 by_cases hR : RightP (exL x) 2
 ·rw [if_pos hR] at n2
  rw [decide_eq_true hR, if_pos rfl, if_pos rfl]
  rw [show (2 : Int).toNat = 2 from rfl] at n2
  generalize rootP (exL x) 2 = r at *
  generalize numP x.num = a at *
  replace n1 := Lib.hid n1
  replace n2 := Lib.hid n2
  clear hR hh
  go_enter Tryz.func103, Tryz.ntmps103
  go_wp2_with fail
  have hB0 : Below w.heap.size w (w.alloc (.cells (exA x) 26)) := bel
  obtain ⟨W, hW⟩ : ∃ W, w.alloc (.cells (exA x) 26) = W := ⟨_, rfl⟩
  rw [hW] at K0 hB0 ⊢
  obtain ⟨g, hg⟩ : ∃ g, w.heap.size = g := ⟨_, rfl⟩
  rw [hg] at K0 ⊢
  replace hB0 := Lib.hid hB0
  clear hW
  replace hg := Lib.hid hg
  have hwf : ∀ f, Fence.wide.fn f := fun _ => trivial
  refine (wpIn_wide (n := 9)).1 ?_
  refine wpIn_round_held (fun w' => Below W.heap.size W w') (fun j => true) (by kernel_rfl) ?_
  have hS0 : (fun w' => Below W.heap.size W w') W.drew := (Below.refl _ _).drew
  refine S_tk 0 (.pointer (some ⟨g, 0, none⟩)) rfl hS0 (fun w' hw => by go_simp) ?_
  refine S_tk 1 (.string (bs x.acc)) rfl hS0 (fun w' hw => exec_load rfl (by kernel_rfl) (run_load_cell (i := 0) (K0.out.below hw) rfl szStr nrStr)) ?_
  refine S_tk 2 (.pointer (some ⟨g, 1, none⟩)) rfl hS0 (fun w' hw => by go_simp) ?_
  refine S_tk 3 (.string (bs x.rcp)) rfl hS0 (fun w' hw => exec_load rfl (by kernel_rfl) (run_load_cell (i := 1) (K0.out.below hw) rfl szStr nrStr)) ?_
  refine S_tk 4 (.pointer (some ⟨g, 2, none⟩)) rfl hS0 (fun w' hw => by go_simp) ?_
  refine S_tk 5 (.int .u64 (x.num : Int)) rfl hS0 (fun w' hw => exec_load rfl (by kernel_rfl) (run_load_cell (i := 2) (K0.out.below hw) rfl szU64 nrU64)) ?_
  refine S_one 6 (by kernel_rfl) rfl (fun K hK => ?_)
  go_simp
  gi_wp2_with (gi_at_call 91; refine (callsIn_wide.2 (n1.out _)).mono ?_; rintro e Wh1 ⟨rfl, hN⟩)
  have hS1 : (fun w' => Below W.heap.size W w') Wh1 := hS0.trans (hN.mono hS0.size)
  clear hS0
  have hS0 := hS1
  clear hS1
  clear hN
  refine ⟨(fun _ => hS0), ?_⟩
  have hS1 : (fun w' => Below W.heap.size W w') (Wh1.alloc (.cells #[.string (bs x.acc), .string (bs x.rcp), .string (bs a)] 9)) := hS0.alloc hS0.size _
  clear hS0
  have hS0 := hS1
  clear hS1
  refine S_go 7 (fun _ => trivial) (by kernel_rfl) (by kernel_rfl) rfl (by kernel_rfl) (.slice (some ⟨Wh1.heap.size, 0, none⟩) 3 3) (Wh1.alloc (.cells #[.string (bs x.acc), .string (bs x.rcp), .string (bs a)] 9)) (by first | (go_simp; done) | (go_simp; rfl) | (go_simp; exact ⟨hbx2, rfl⟩)) (fun _ => hS0) ?_
  refine S_one 8 (by kernel_rfl) rfl (fun K hK => ?_)
  go_simp
  gi_wp2_with (gi_at_call 92; refine (callsIn_wide.2 (n2.out _)).mono ?_; rintro e Wh2 ⟨rfl, hN⟩)
  have hS1 : (fun w' => Below W.heap.size W w') Wh2 := hS0.trans (hN.mono hS0.size)
  clear hS0
  have hS0 := hS1
  clear hS1
  clear hN
  refine ⟨(fun _ => hS0), ?_⟩
  refine S_tk 9 (.tuple #[.string (bs r), .int .i64 0]) rfl hS0 (fun w' hw => by go_simp) ?_
  refine S_tk 10 (.string (bs r)) rfl hS0 (fun w' hw => by go_simp) ?_
  refine S_tk 11 (.int .i64 0) rfl hS0 (fun w' hw => by go_simp) ?_
  refine S_tk 12 (.string (bs r)) rfl hS0 (fun w' hw => by go_simp) ?_
  refine S_tk 13 (.int .i64 0) rfl hS0 (fun w' hw => by go_simp) ?_
  refine ⟨by kernel_rfl, rfl, ?_⟩
  go_wp2_with fail
  go_ret2
  exact ⟨rfl, Below.on hS0 hB0.out⟩
 ·rw [if_neg hR] at n2
  rw [decide_eq_false hR, if_neg (by simp), if_neg (by simp)]
  generalize numP x.num = a at *
  replace n1 := Lib.hid n1
  replace n2 := Lib.hid n2
  clear hR hh
  go_enter Tryz.func103, Tryz.ntmps103
  go_wp2_with fail
  have hB0 : Below w.heap.size w (w.alloc (.cells (exA x) 26)) := bel
  obtain ⟨W, hW⟩ : ∃ W, w.alloc (.cells (exA x) 26) = W := ⟨_, rfl⟩
  rw [hW] at K0 hB0 ⊢
  obtain ⟨g, hg⟩ : ∃ g, w.heap.size = g := ⟨_, rfl⟩
  rw [hg] at K0 ⊢
  replace hB0 := Lib.hid hB0
  clear hW
  replace hg := Lib.hid hg
  have hwf : ∀ f, Fence.wide.fn f := fun _ => trivial
  refine (wpIn_wide (n := 9)).1 ?_
  refine wpIn_round_held (fun w' => Below W.heap.size W w') (fun j => true) (by kernel_rfl) ?_
  have hS0 : (fun w' => Below W.heap.size W w') W.drew := (Below.refl _ _).drew
  refine S_tk 0 (.pointer (some ⟨g, 0, none⟩)) rfl hS0 (fun w' hw => by go_simp) ?_
  refine S_tk 1 (.string (bs x.acc)) rfl hS0 (fun w' hw => exec_load rfl (by kernel_rfl) (run_load_cell (i := 0) (K0.out.below hw) rfl szStr nrStr)) ?_
  refine S_tk 2 (.pointer (some ⟨g, 1, none⟩)) rfl hS0 (fun w' hw => by go_simp) ?_
  refine S_tk 3 (.string (bs x.rcp)) rfl hS0 (fun w' hw => exec_load rfl (by kernel_rfl) (run_load_cell (i := 1) (K0.out.below hw) rfl szStr nrStr)) ?_
  refine S_tk 4 (.pointer (some ⟨g, 2, none⟩)) rfl hS0 (fun w' hw => by go_simp) ?_
  refine S_tk 5 (.int .u64 (x.num : Int)) rfl hS0 (fun w' hw => exec_load rfl (by kernel_rfl) (run_load_cell (i := 2) (K0.out.below hw) rfl szU64 nrU64)) ?_
  refine S_one 6 (by kernel_rfl) rfl (fun K hK => ?_)
  go_simp
  gi_wp2_with (gi_at_call 91; refine (callsIn_wide.2 (n1.out _)).mono ?_; rintro e Wh1 ⟨rfl, hN⟩)
  have hS1 : (fun w' => Below W.heap.size W w') Wh1 := hS0.trans (hN.mono hS0.size)
  clear hS0
  have hS0 := hS1
  clear hS1
  clear hN
  refine ⟨(fun _ => hS0), ?_⟩
  have hS1 : (fun w' => Below W.heap.size W w') (Wh1.alloc (.cells #[.string (bs x.acc), .string (bs x.rcp), .string (bs a)] 9)) := hS0.alloc hS0.size _
  clear hS0
  have hS0 := hS1
  clear hS1
  refine S_go 7 (fun _ => trivial) (by kernel_rfl) (by kernel_rfl) rfl (by kernel_rfl) (.slice (some ⟨Wh1.heap.size, 0, none⟩) 3 3) (Wh1.alloc (.cells #[.string (bs x.acc), .string (bs x.rcp), .string (bs a)] 9)) (by first | (go_simp; done) | (go_simp; rfl) | (go_simp; exact ⟨hbx2, rfl⟩)) (fun _ => hS0) ?_
  refine S_one 8 (by kernel_rfl) rfl (fun K hK => ?_)
  go_simp
  gi_wp2_with (gi_at_call 92; refine (callsIn_wide.2 (n2.out _)).mono ?_; rintro e Wh2 ⟨rfl, hN⟩)
  have hS1 : (fun w' => Below W.heap.size W w') Wh2 := hS0.trans (hN.mono hS0.size)
  clear hS0
  have hS0 := hS1
  clear hS1
  clear hN
  refine ⟨(fun _ => hS0), ?_⟩
  refine S_tk 9 (.tuple #[.string { data := #[] }, .int .i64 80]) rfl hS0 (fun w' hw => by go_simp) ?_
  refine S_tk 10 (.string { data := #[] }) rfl hS0 (fun w' hw => by go_simp) ?_
  refine S_tk 11 (.int .i64 80) rfl hS0 (fun w' hw => by go_simp) ?_
  refine S_tk 12 (.string { data := #[] }) rfl hS0 (fun w' hw => by go_simp) ?_
  refine S_tk 13 (.int .i64 80) rfl hS0 (fun w' hw => by go_simp) ?_
  refine ⟨by kernel_rfl, rfl, ?_⟩
  go_wp2_with fail
  go_ret2
  exact ⟨rfl, Below.on hS0 hB0.out⟩
set_option maxRecDepth 100000 in
set_option maxHeartbeats 1000000 in
theorem rlholds_calls (l : Lt) (w : World) (hl : LtIn w l) : Calls Tryz.prog 63 #[ltV l] w (Ret w (.bool (holdsP l))) := by
 have n1 := fun W (hB : Below w.heap.size w W) => rhroot_calls l.b W (hl.1.below hB)
 have n2 := fun W (hB : Below w.heap.size w W) => reroot_calls l.x W (hl.2.1.below hB)
 have n3 := fun W (hB : Below w.heap.size w W) => rcheck_calls (exRoot l.x) l.br.addr l.br.cap l.br.l 2 l.b.body (by have := exRoot_len l.x; omega) (by have := hl.1.2.2.2.2; omega) (by have := hl.2.2.2.2.1; omega) (by decide) (fun y hy => by have := hl.2.2.2.2.2 y hy; omega) W (Txts.below hl.2.2.1 hB)
 have K0 := Lib.hid (Blk.new0 w 29 (ltA l))
 have hP : ∀ r1 r2 r3 r4 : Bool, hdOk l.b = r1 → exOk l.x = r2 → decide (l.br.l.length = 2) = r3 → decide (CheckP (exRoot l.x) l.br.l 2 l.b.body) = r4 → holdsP l = (r1 && (r2 && (r3 && r4))) := fun r1 r2 r3 r4 e1 e2 e3 e4 => by
  unfold holdsP
  rw [e1, e2, e3, e4]
 obtain ⟨r4, h4⟩ : ∃ r4, decide (CheckP (exRoot l.x) l.br.l 2 l.b.body) = r4 := ⟨_, rfl⟩
 rw [h4] at n3
 have h5 : ∀ r1 r2 r3 : Bool, hdOk l.b = r1 → exOk l.x = r2 → decide (l.br.l.length = 2) = r3 → holdsP l = (r1 && (r2 && (r3 && r4))) := fun r1 r2 r3 a b c => hP _ _ _ _ a b c h4
 clear hP h4
 replace h5 := Lib.hid h5
 unfold hdE at n1
 unfold exE at n2
 generalize exRoot l.x = q at *
 generalize hdRoot l.b = q2 at *
 cases h1 : hdOk l.b with
 | false =>
  rw [h1, if_neg (by simp)] at n1
  replace n1 := Lib.hid n1
  replace n2 := Lib.hid n2
  replace n3 := Lib.hid n3
  rw [show holdsP l = false by rw [h5.out _ _ _ h1 rfl rfl]; rfl]
  clear h1 h5 hl
  have hq2 : ∃ e2 : Int, (if exOk l.x = true then (0 : Int) else 130) = e2 := ⟨_, rfl⟩
  obtain ⟨e2, he2⟩ := hq2
  replace n2 := n2.out
  rw [he2] at n2
  replace n2 := Lib.hid n2
  clear he2
  go_enter Tryz.func63, Tryz.ntmps63
  go_wp2_with fail
  refine (n1.out _ bel).mono ?_
  rintro e w1 ⟨rfl, h1⟩
  have hB1 : Below w.heap.size w w1 := Below.on h1 bel
  have K1 := Lib.hid (K0.out.below h1)
  clear h1 n1
  (obtain ⟨k1, f1, l1, m1⟩ := K1.out.rl)
  go_wp2_with fail
  refine (n2.out _ hB1).mono ?_
  rintro e w2 ⟨rfl, h2⟩
  have hB2 := Below.on h2 hB1
  have K2 := Lib.hid (K1.out.below h2)
  clear h2 hB1 n2 k1 f1 l1 m1 K1
  (obtain ⟨k2, f2, l2, m2⟩ := K2.out.rl)
  go_wp2_with fail
  go_ret
  exact ⟨rfl, hB2⟩
 | true =>
  rw [h1, if_pos rfl] at n1
  cases h2 : exOk l.x with
  | false =>
   rw [h2, if_neg (by simp)] at n2
   replace n1 := Lib.hid n1
   replace n2 := Lib.hid n2
   replace n3 := Lib.hid n3
   rw [show holdsP l = false by rw [h5.out _ _ _ h1 h2 rfl]; rfl]
   clear h1 h2 h5 hl
   go_enter Tryz.func63, Tryz.ntmps63
   go_wp2_with fail
   refine (n1.out _ bel).mono ?_
   rintro e w1 ⟨rfl, h1⟩
   have hB1 : Below w.heap.size w w1 := Below.on h1 bel
   have K1 := Lib.hid (K0.out.below h1)
   clear h1 n1
   (obtain ⟨k1, f1, l1, m1⟩ := K1.out.rl)
   go_wp2_with fail
   refine (n2.out _ hB1).mono ?_
   rintro e w2 ⟨rfl, h2⟩
   have hB2 := Below.on h2 hB1
   have K2 := Lib.hid (K1.out.below h2)
   clear h2 hB1 n2 k1 f1 l1 m1 K1
   (obtain ⟨k2, f2, l2, m2⟩ := K2.out.rl)
   go_wp2_with fail
   go_ret
   exact ⟨rfl, hB2⟩
  | true =>
   rw [h2, if_pos rfl] at n2
   replace n1 := Lib.hid n1
   replace n2 := Lib.hid n2
   replace n3 := Lib.hid n3
   by_cases h3 : l.br.l.length = 2
   ·have e3 : ((l.br.l.length : Int) == 2) = true := by rw [h3]; rfl
    rw [show holdsP l = r4 by rw [h5.out _ _ _ h1 h2 (decide_eq_true h3)]; rfl]
    clear h1 h2 h3 h5 hl
    go_enter Tryz.func63, Tryz.ntmps63
    go_wp2_with fail
    refine (n1.out _ bel).mono ?_
    rintro e w1 ⟨rfl, h1⟩
    have hB1 : Below w.heap.size w w1 := Below.on h1 bel
    have K1 := Lib.hid (K0.out.below h1)
    clear h1 n1
    (obtain ⟨k1, f1, l1, m1⟩ := K1.out.rl)
    go_wp2_with fail
    refine (n2.out _ hB1).mono ?_
    rintro e w2 ⟨rfl, h2⟩
    have hB2 := Below.on h2 hB1
    have K2 := Lib.hid (K1.out.below h2)
    clear h2 hB1 n2 k1 f1 l1 m1 K1
    (obtain ⟨k2, f2, l2, m2⟩ := K2.out.rl)
    go_wp2_with fail
    refine (n3.out _ hB2).mono ?_
    rintro e w3 ⟨rfl, h3⟩
    go_wp2_with fail
    go_ret
    exact ⟨rfl, Below.on h3 hB2⟩
   ·have e3 : ((l.br.l.length : Int) == 2) = false := by simp; omega
    rw [show holdsP l = false by rw [h5.out _ _ _ h1 h2 (decide_eq_false h3)]; rfl]
    clear h1 h2 h3 h5 hl
    go_enter Tryz.func63, Tryz.ntmps63
    go_wp2_with fail
    refine (n1.out _ bel).mono ?_
    rintro e w1 ⟨rfl, h1⟩
    have hB1 : Below w.heap.size w w1 := Below.on h1 bel
    have K1 := Lib.hid (K0.out.below h1)
    clear h1 n1
    (obtain ⟨k1, f1, l1, m1⟩ := K1.out.rl)
    go_wp2_with fail
    refine (n2.out _ hB1).mono ?_
    rintro e w2 ⟨rfl, h2⟩
    have hB2 := Below.on h2 hB1
    have K2 := Lib.hid (K1.out.below h2)
    clear h2 hB1 n2 k1 f1 l1 m1 K1
    (obtain ⟨k2, f2, l2, m2⟩ := K2.out.rl)
    go_wp2_with fail
    go_ret
    exact ⟨rfl, hB2⟩
end Go.Proofs.YtegaaccioppfjaaGreatDoor
end
section
namespace Go.Proofs.YtegaaccioppfjaaGreatDoor
open BigFrame Go.RowKit Go.Phx Go.Shelf
attribute [local go_sem] Oper.semAt_some

set_option maxRecDepth 100000 in
theorem rperiod_q (n : Nat) (hn : n < 18446744073709551616) (w : World) : Calls Tryz.prog 66 #[.int .u64 n] w (fun e w' => e = .returned (.int .u64 (period n : Nat)) ∧ w = w') := by
 have p := wrap_period n hn
 go_enter Tryz.func66, Tryz.ntmps66
 go_wp2_with fail
 go_ret
 exact ⟨rfl, rfl⟩
set_option maxRecDepth 100000 in
theorem rknown_calls (c : Cm) (w : World) : Calls Tryz.prog 84 #[cmV c] w (Ret w (.bool (knownP c))) := by
 go_enter Tryz.func84, Tryz.ntmps84
 go_wp2_with fail
 go_ret
 exact ⟨rfl, bel⟩
set_option maxRecDepth 100000 in
theorem rhasNext_calls (u : Up) (w : World) : Calls Tryz.prog 85 #[upV u] w (Ret w (.bool (hasNextP u))) := by
 have n1 := fun W => rknown_calls u.next W
 unfold hasNextP
 generalize knownP u.next = r at *
 replace n1 := Lib.hid n1
 have K0 := Lib.hid (Blk.new0 w 33 (upA u))
 go_enter Tryz.func85, Tryz.ntmps85
 go_wp2_with fail
 refine (n1.out _).mono ?_
 rintro e w1 ⟨rfl, h1⟩
 have K1 := Lib.hid (K0.out.below h1)
 have hB : Below w.heap.size w w1 := Below.on h1 bel
 clear h1
 (obtain ⟨k1, f1, l1, m1⟩ := K1.out.rl)
 cases r
 all_goals
  go_wp2_with fail
  go_ret
  exact ⟨rfl, hB⟩
theorem lrowsame (A B : Option Addr) (c d : Nat) (L M : List Bytes) (hL : L.length ≤ 1048576) (hM : M.length ≤ 1048576) (w : World) (h1 : Txts w A L) (h2 : Txts w B M) :
  Calls Tryz.prog 86 #[.slice A L.length c, .slice B M.length d] w (Ret w (.bool (L == M))) := by
 rw [show (L == M) = decide (L = M) by rw [Bool.eq_iff_iff]; simp]
 exact same_calls A B c d L M (by omega) (by omega) w h1 h2
set_option maxRecDepth 100000 in
theorem rsameLt_calls (a b : Lt) (w : World) (ha : LtIn w a) (hb : LtIn w b) : Calls Tryz.prog 31 #[ltV a, ltV b] w (Ret w (.bool (sameLt a b))) := by
 have n1 := fun W (hB : Below w.heap.size w W) => lrowsame a.br.addr b.br.addr a.br.cap b.br.cap a.br.l b.br.l ha.2.2.2.2.1 hb.2.2.2.2.1 W (Txts.below ha.2.2.1 hB) (Txts.below hb.2.2.1 hB)
 have e1 := eqHd_run a.b b.b
 have e2 := eqEx_run a.x b.x
 unfold sameLt
 generalize eqHd a.b b.b = r1 at *
 generalize eqEx a.x b.x = r2 at *
 generalize (a.br.l == b.br.l) = r3 at *
 replace n1 := Lib.hid n1
 clear ha hb
 cases r1
 ·go_enter Tryz.func31, Tryz.ntmps31
  go_wp2_with fail
  go_ret
  exact ⟨rfl, bel⟩
 ·cases r2
  ·go_enter Tryz.func31, Tryz.ntmps31
   go_wp2_with fail
   go_ret
   exact ⟨rfl, bel⟩
  ·go_enter Tryz.func31, Tryz.ntmps31
   go_wp2_with fail
   refine (n1.out _ bel).mono ?_
   rintro e w1 ⟨rfl, h1⟩
   go_wp2_with fail
   go_ret
   exact ⟨rfl, Below.on h1 bel⟩
set_option maxRecDepth 100000 in
theorem rsameCm_calls (a b : Cm) (w : World) (ha : CmIn w a) (hb : CmIn w b) : Calls Tryz.prog 38 #[cmV a, cmV b] w (Ret w (.bool (sameCm a b))) := by
 have n1 := fun W (hB : Below w.heap.size w W) => lrowsame a.ks.addr b.ks.addr a.ks.cap b.ks.cap a.ks.l b.ks.l ha.1.2.2.1 hb.1.2.2.1 W (Txts.below ha.1.1 hB) (Txts.below hb.1.1 hB)
 unfold sameCm
 generalize (a.ks.l == b.ks.l) = r at *
 replace n1 := Lib.hid n1
 clear ha hb
 by_cases he : a.sum = b.sum
 ·have e1 : (a.sum == b.sum) = true := by simpa using he
  rw [e1]
  go_enter Tryz.func38, Tryz.ntmps38
  go_wp2_with fail
  refine (n1.out _ bel).mono ?_
  rintro e w1 ⟨rfl, h1⟩
  go_wp2_with fail
  go_ret
  exact ⟨rfl, Below.on h1 bel⟩
 ·have e1 : (a.sum == b.sum) = false := by simpa using he
  rw [e1]
  go_enter Tryz.func38, Tryz.ntmps38
  go_wp2_with fail
  go_ret
  exact ⟨rfl, bel⟩
theorem same_zero (l : Lt) : sameLt l Lt.zero = emptyP l := by
 unfold sameLt emptyP
 congr 2
 rw [Bool.eq_iff_iff]
 show (l.br.l == []) = true ↔ _
 simp
set_option maxRecDepth 100000 in
theorem risFinal_calls (u : Up) (w : World) (hu : LtIn w u.fin) : Calls Tryz.prog 77 #[upV u] w (Ret w (.bool (isFinalP u))) := by
 have n1 := fun W (hB : Below w.heap.size w W) => rsameLt_calls u.fin Lt.zero W (hu.below hB) (LtIn.zero W)
 rw [same_zero] at n1
 unfold isFinalP
 generalize emptyP u.fin = r at *
 replace n1 := Lib.hid n1
 have K0 := Blk.new0 w 33 (upA u)
 clear hu
 by_cases h0 : 0 < u.fb.l.length
 ·go_enter Tryz.func77, Tryz.ntmps77
  go_wp2_with fail
  go_ret
  exact ⟨by simp [h0], bel⟩
 ·go_enter Tryz.func77, Tryz.ntmps77
  go_wp2_with fail
  refine (n1.out _ bel).mono ?_
  rintro e w1 ⟨rfl, h1⟩
  go_wp2_with fail
  go_ret
  exact ⟨by simp [h0], Below.on h1 bel⟩
set_option maxRecDepth 100000 in
theorem runder_calls (root : Bytes) (br : Rw) (leaf : Nat) (state : Bytes) (w : World) (hr : root.length ≤ 1048576) (hs : state.length ≤ 1048576) (hl : leaf < 18446744073709551616) (hb : RwIn w br) :
  Calls Tryz.prog 71 #[.string (bs root), rwV br, .int .u64 leaf, .string (bs state)] w (Ret w (.bool (underP root br.l leaf state))) := by
 have n1 := rcheck_calls root br.addr br.cap br.l leaf state (by omega) (by omega) (by have := hb.2.2.1; omega) hl (fun y hy => by have := hb.2.2.2 y hy; omega) w hb.1
 unfold underP
 unfold rwV
 generalize decide (CheckP root br.l leaf state) = r at *
 by_cases he : br.l.length = 3
 ·have e1 : ((br.l.length : Int) == 3) = true := by rw [he]; rfl
  rw [decide_eq_true he]
  replace n1 := Lib.hid n1
  clear he hb
  go_enter Tryz.func71, Tryz.ntmps71
  go_wp2_with fail
  refine n1.out.mono ?_
  rintro e w1 ⟨rfl, h1⟩
  go_wp2_with fail
  go_ret
  exact ⟨rfl, h1⟩
 ·have e1 : ((br.l.length : Int) == 3) = false := by simp; omega
  rw [decide_eq_false he]
  replace n1 := Lib.hid n1
  clear he hb
  go_enter Tryz.func71, Tryz.ntmps71
  go_wp2_with fail
  go_ret
  exact ⟨rfl, Below.refl _ _⟩
def onesK (n k : Nat) : Nat := ((List.range k).filter fun i => n.testBit i).length
theorem onesK_succ (n k : Nat) : onesK n (k + 1) = onesK n k + if n / 2 ^ k % 2 = 1 then 1 else 0 := by
 unfold onesK
 rw [List.range_succ, List.filter_append, List.length_append]
 congr 1
 rw [List.filter_cons, Nat.testBit_eq_decide_div_mod_eq]
 split <;> simp_all
theorem onesK_le (n k : Nat) : onesK n k ≤ k := Nat.le_trans (List.length_filter_le _ _) (by simp)
set_option maxRecDepth 100000 in
theorem rsigners_calls (n : Nat) (hn : n < 18446744073709551616) (w : World) : Calls Tryz.prog 62 #[.int .u64 n] w (fun e w' => e = .returned (.int .i64 (onesP n : Nat)) ∧ w = w') := by
 rw [show onesP n = onesK n 16 from rfl]
 go_enter Tryz.func62, Tryz.ntmps62
 go_wp2_with fail
 go_loop [3, 4] (fun c i => ∃ k : Nat, k ≤ 16 ∧ i = .int .i64 k ∧ c = .int .i64 (onesK n k : Nat)) (fun _ i => (16 - intOf i).toNat)
 case atStart => exact ⟨0, by omega, rfl, rfl⟩
 case round =>
  obtain ⟨k, hk, rfl, rfl⟩ := hrel
  by_cases hlt : k < 16
  ·have hsh : (n : Int) / 2 ^ k = ((n / 2 ^ k : Nat) : Int) := by simp
   have hm : n / 2 ^ k < 18446744073709551616 := Nat.lt_of_le_of_lt (Nat.div_le_self _ _) hn
   have hst := onesK_succ n k
   have hle := onesK_le n k
   generalize n / 2 ^ k = m at *
   have hand := and_one m hm
   obtain ⟨c, hc⟩ : ∃ c, onesK n k = c := ⟨_, rfl⟩
   rw [hc] at hst hle ⊢
   replace hc := Lib.hid hc
   rcases Nat.mod_two_eq_zero_or_one m with hm2 | hm2
   ·rw [hm2] at hand hst
    rw [if_neg (by omega), Nat.add_zero] at hst
    replace hst := Lib.hid hst
    clear hm2
    go_wp2_with fail
    go_round
    case rel => exact ⟨k + 1, by omega, by go_num, by rw [hst.out]; rfl⟩
    case measure => simp [intOf]; omega
   ·rw [hm2] at hand hst
    rw [if_pos rfl] at hst
    replace hst := Lib.hid hst
    clear hm2
    go_wp2_with fail
    go_round
    case rel => exact ⟨k + 1, by omega, by go_num, by rw [hst.out]; go_num⟩
    case measure => simp [intOf]; omega
  ·obtain rfl : k = 16 := by omega
   go_wp2_with fail
   go_ret
   exact ⟨rfl, rfl⟩
theorem r3 (n : Nat) : IntKind.i64.wrap (3 * ((onesP n : Nat) : Int)) = 3 * ((onesP n : Nat) : Int) := mul3 n
set_option maxRecDepth 100000 in
theorem rtwo_calls (u : Up) (hb : u.bits < 18446744073709551616) (w : World) : Calls Tryz.prog 75 #[upV u] w (Ret w (.bool (twoP u))) := by
 have n1 := fun W => rsigners_calls u.bits hb W
 have q := mul3 u.bits
 have q2 := two_dec u
 replace n1 := Lib.hid n1
 go_enter Tryz.func75, Tryz.ntmps75
 go_wp2_with fail
 refine (n1.out _).mono ?_
 rintro e w1 ⟨rfl, rfl⟩
 go_wp2_with fail
 go_ret
 exact ⟨by simp [← q2], bel⟩
end Go.Proofs.YtegaaccioppfjaaGreatDoor
end
section
namespace Go.Proofs.YtegaaccioppfjaaGreatDoor
open BigFrame Go.RowKit Go.Phx Go.Shelf
attribute [local go_sem] Oper.semAt_some

set_option maxRecDepth 100000 in
set_option maxHeartbeats 4000000 in
theorem rsameUp_calls (a b : Up) (w : World) (ha : UpIn w a) (hb : UpIn w b) : Calls Tryz.prog 49 #[upV a, upV b] w (Ret w (.bool (sameUp a b))) := by
 have n1 := fun W (hB : Below w.heap.size w W) => rsameLt_calls a.seen b.seen W (ha.1.below hB) (hb.1.below hB)
 have n2 := fun W (hB : Below w.heap.size w W) => rsameLt_calls a.fin b.fin W (ha.2.2.2.1.below hB) (hb.2.2.2.1.below hB)
 have n3 := fun W (hB : Below w.heap.size w W) => rsameCm_calls a.next b.next W (ha.2.1.below hB) (hb.2.1.below hB)
 have n4 := fun W (hB : Below w.heap.size w W) => lrowsame a.nb.addr b.nb.addr a.nb.cap b.nb.cap a.nb.l b.nb.l ha.2.2.1.2.2.1 hb.2.2.1.2.2.1 W (Txts.below ha.2.2.1.1 hB) (Txts.below hb.2.2.1.1 hB)
 have n5 := fun W (hB : Below w.heap.size w W) => lrowsame a.fb.addr b.fb.addr a.fb.cap b.fb.cap a.fb.l b.fb.l ha.2.2.2.2.1.2.2.1 hb.2.2.2.2.1.2.2.1 W (Txts.below ha.2.2.2.2.1.1 hB) (Txts.below hb.2.2.2.2.1.1 hB)
 have hE : sameUp a b = (sameLt a.seen b.seen && (sameLt a.fin b.fin && (sameCm a.next b.next && (a.nb.l == b.nb.l && (a.fb.l == b.fb.l && (a.bits == b.bits && (a.sig == b.sig && a.slot == b.slot))))))) := rfl
 rw [hE]
 clear hE
 have e6 : ((a.bits : Int) == (b.bits : Int)) = (a.bits == b.bits) := by rw [Bool.eq_iff_iff]; simp; omega
 have e8 : ((a.slot : Int) == (b.slot : Int)) = (a.slot == b.slot) := by rw [Bool.eq_iff_iff]; simp; omega
 generalize sameLt a.seen b.seen = r1 at *
 generalize sameLt a.fin b.fin = r2 at *
 generalize sameCm a.next b.next = r3 at *
 generalize (a.nb.l == b.nb.l) = r4 at *
 generalize (a.fb.l == b.fb.l) = r5 at *
 generalize (a.bits == b.bits) = r6 at *
 obtain ⟨r7, e7⟩ : ∃ r7, (a.sig == b.sig) = r7 := ⟨_, rfl⟩
 rw [e7]
 generalize (a.slot == b.slot) = r8 at *
 replace n1 := Lib.hid n1
 replace n2 := Lib.hid n2
 replace n3 := Lib.hid n3
 replace n4 := Lib.hid n4
 replace n5 := Lib.hid n5
 clear ha hb
 go_enter Tryz.func49, Tryz.ntmps49
 go_upto_region 1 with fail
 have HB : Below w.heap.size w ((w.alloc (.cells (upA a) 33)).alloc (.cells (upA b) 33)) := bel
 have K0 := (Blk.new0 w 33 (upA a)).alloc (.cells (upA b) 33)
 have K1 := Blk.new1 w (.cells (upA a) 33) 33 (upA b)
 obtain ⟨W, hW⟩ : ∃ W, ((w.alloc (.cells (upA a) 33)).alloc (.cells (upA b) 33)) = W := ⟨_, rfl⟩
 rw [hW] at HB K0 K1 ⊢
 clear hW
 have hgl : w.heap.size ≤ w.heap.size := Nat.le_refl _
 obtain ⟨g, hg⟩ : ∃ g, w.heap.size = g := ⟨_, rfl⟩
 rw [hg] at K0 K1 ⊢
 replace hgl : w.heap.size ≤ g := by omega
 replace K0 := Lib.hid K0
 replace K1 := Lib.hid K1
 clear hg
 (obtain ⟨k0, f0, l0, m0⟩ := K0.out.rl; obtain ⟨k1, f1, l1, m1⟩ := K1.out.rl)
 go_wp2_with fail
 (refine (n1.out _ HB).mono ?_; rintro e w1 ⟨rfl, hN⟩; have N0 := Lib.hid (K0.out.below hN); have N1 := Lib.hid (K1.out.below hN); have HBn : Below w.heap.size w w1 := Below.on hN HB; clear hN HB K0 k0 f0 l0 m0 K1 k1 f1 l1 m1; have K0 := N0; clear N0; have K1 := N1; clear N1; have HB := HBn; clear HBn; (obtain ⟨k0, f0, l0, m0⟩ := K0.out.rl; obtain ⟨k1, f1, l1, m1⟩ := K1.out.rl))
 go_wp2_with fail
 (refine (n2.out _ HB).mono ?_; rintro e w2 ⟨rfl, hN⟩; have N0 := Lib.hid (K0.out.below hN); have N1 := Lib.hid (K1.out.below hN); have HBn : Below w.heap.size w w2 := Below.on hN HB; clear hN HB K0 k0 f0 l0 m0 K1 k1 f1 l1 m1; have K0 := N0; clear N0; have K1 := N1; clear N1; have HB := HBn; clear HBn; (obtain ⟨k0, f0, l0, m0⟩ := K0.out.rl; obtain ⟨k1, f1, l1, m1⟩ := K1.out.rl))
 go_wp2_with fail
 (refine (n3.out _ HB).mono ?_; rintro e w3 ⟨rfl, hN⟩; have N0 := Lib.hid (K0.out.below hN); have N1 := Lib.hid (K1.out.below hN); have HBn : Below w.heap.size w w3 := Below.on hN HB; clear hN HB K0 k0 f0 l0 m0 K1 k1 f1 l1 m1; have K0 := N0; clear N0; have K1 := N1; clear N1; have HB := HBn; clear HBn; (obtain ⟨k0, f0, l0, m0⟩ := K0.out.rl; obtain ⟨k1, f1, l1, m1⟩ := K1.out.rl))
 cases r1 with
 | false =>
  go_wp2_with fail
  go_ret
  exact ⟨rfl, HB⟩
 | true =>
  cases r2 with
  | false =>
   go_wp2_with fail
   go_ret
   exact ⟨rfl, HB⟩
  | true =>
   cases r3 with
   | false =>
    go_wp2_with fail
    go_ret
    exact ⟨rfl, HB⟩
   | true =>
    go_wp2_with fail
    (refine (n4.out _ HB).mono ?_; rintro e w4 ⟨rfl, hN⟩; have N0 := Lib.hid (K0.out.below hN); have N1 := Lib.hid (K1.out.below hN); have HBn : Below w.heap.size w w4 := Below.on hN HB; clear hN HB K0 k0 f0 l0 m0 K1 k1 f1 l1 m1; have K0 := N0; clear N0; have K1 := N1; clear N1; have HB := HBn; clear HBn; (obtain ⟨k0, f0, l0, m0⟩ := K0.out.rl; obtain ⟨k1, f1, l1, m1⟩ := K1.out.rl))
    cases r4 with
    | false =>
     go_wp2_with fail
     go_ret
     exact ⟨rfl, HB⟩
    | true =>
     go_wp2_with fail
     (refine (n5.out _ HB).mono ?_; rintro e w5 ⟨rfl, hN⟩; have N0 := Lib.hid (K0.out.below hN); have N1 := Lib.hid (K1.out.below hN); have HBn : Below w.heap.size w w5 := Below.on hN HB; clear hN HB K0 k0 f0 l0 m0 K1 k1 f1 l1 m1; have K0 := N0; clear N0; have K1 := N1; clear N1; have HB := HBn; clear HBn; (obtain ⟨k0, f0, l0, m0⟩ := K0.out.rl; obtain ⟨k1, f1, l1, m1⟩ := K1.out.rl))
     cases r5 with
     | false =>
      go_wp2_with fail
      go_ret
      exact ⟨rfl, HB⟩
     | true =>
      cases r6 with
      | false =>
       go_wp2_with fail
       go_ret
       exact ⟨rfl, HB⟩
      | true =>
       cases r7 with
       | false =>
        go_wp2_with fail
        go_ret
        exact ⟨rfl, HB⟩
       | true =>
        go_wp2_with fail
        go_ret
        exact ⟨rfl, HB⟩
set_option maxRecDepth 100000 in
set_option maxHeartbeats 4000000 in
theorem rsameSr_calls (a b : Sr) (w : World) (ha : SrIn w a) (hb : SrIn w b) : Calls Tryz.prog 24 #[srV a, srV b] w (Ret w (.bool (sameSr a b))) := by
 have n1 := fun W (hB : Below w.heap.size w W) => rsameLt_calls a.fin b.fin W (ha.1.below hB) (hb.1.below hB)
 have n2 := fun W (hB : Below w.heap.size w W) => rsameLt_calls a.new b.new W (ha.2.1.below hB) (hb.2.1.below hB)
 have n3 := fun W (hB : Below w.heap.size w W) => rsameCm_calls a.now b.now W (ha.2.2.1.below hB) (hb.2.2.1.below hB)
 have n4 := fun W (hB : Below w.heap.size w W) => rsameCm_calls a.next b.next W (ha.2.2.2.1.below hB) (hb.2.2.2.1.below hB)
 have n5 := fun W (hB : Below w.heap.size w W) => rsameUp_calls a.best b.best W (ha.2.2.2.2.1.below hB) (hb.2.2.2.2.1.below hB)
 have hE : sameSr a b = (sameLt a.fin b.fin && (sameLt a.new b.new && (sameCm a.now b.now && (sameCm a.next b.next && (sameUp a.best b.best && (a.has == b.has && (a.last == b.last && (a.this == b.this && a.forced == b.forced)))))))) := rfl
 rw [hE]
 clear hE
 generalize sameLt a.fin b.fin = r1 at *
 generalize sameLt a.new b.new = r2 at *
 generalize sameCm a.now b.now = r3 at *
 generalize sameCm a.next b.next = r4 at *
 generalize sameUp a.best b.best = r5 at *
 obtain ⟨r6, e6⟩ : ∃ r, (a.has == b.has) = r := ⟨_, rfl⟩
 obtain ⟨r7, e7⟩ : ∃ r, (a.last == b.last) = r := ⟨_, rfl⟩
 obtain ⟨r8, e8⟩ : ∃ r, (a.this == b.this) = r := ⟨_, rfl⟩
 obtain ⟨r9, e9⟩ : ∃ r, (a.forced == b.forced) = r := ⟨_, rfl⟩
 rw [e6, e7, e8, e9]
 replace n1 := Lib.hid n1
 replace n2 := Lib.hid n2
 replace n3 := Lib.hid n3
 replace n4 := Lib.hid n4
 replace n5 := Lib.hid n5
 clear ha hb
 go_enter Tryz.func24, Tryz.ntmps24
 go_upto_region 1 with fail
 have HB : Below w.heap.size w ((w.alloc (.cells (srA a) 35)).alloc (.cells (srA b) 35)) := bel
 have K0 := (Blk.new0 w 35 (srA a)).alloc (.cells (srA b) 35)
 have K1 := Blk.new1 w (.cells (srA a) 35) 35 (srA b)
 obtain ⟨W, hW⟩ : ∃ W, ((w.alloc (.cells (srA a) 35)).alloc (.cells (srA b) 35)) = W := ⟨_, rfl⟩
 rw [hW] at HB K0 K1 ⊢
 clear hW
 have hgl : w.heap.size ≤ w.heap.size := Nat.le_refl _
 obtain ⟨g, hg⟩ : ∃ g, w.heap.size = g := ⟨_, rfl⟩
 rw [hg] at K0 K1 ⊢
 replace hgl : w.heap.size ≤ g := by omega
 replace K0 := Lib.hid K0
 replace K1 := Lib.hid K1
 clear hg
 (obtain ⟨k0, f0, l0, m0⟩ := K0.out.rl; obtain ⟨k1, f1, l1, m1⟩ := K1.out.rl)
 go_wp2_with fail
 (refine (n1.out _ HB).mono ?_; rintro e w1 ⟨rfl, hN⟩; have N0 := Lib.hid (K0.out.below hN); have N1 := Lib.hid (K1.out.below hN); have HBn : Below w.heap.size w w1 := Below.on hN HB; clear hN HB K0 k0 f0 l0 m0 K1 k1 f1 l1 m1; have K0 := N0; clear N0; have K1 := N1; clear N1; have HB := HBn; clear HBn; (obtain ⟨k0, f0, l0, m0⟩ := K0.out.rl; obtain ⟨k1, f1, l1, m1⟩ := K1.out.rl))
 go_wp2_with fail
 (refine (n2.out _ HB).mono ?_; rintro e w2 ⟨rfl, hN⟩; have N0 := Lib.hid (K0.out.below hN); have N1 := Lib.hid (K1.out.below hN); have HBn : Below w.heap.size w w2 := Below.on hN HB; clear hN HB K0 k0 f0 l0 m0 K1 k1 f1 l1 m1; have K0 := N0; clear N0; have K1 := N1; clear N1; have HB := HBn; clear HBn; (obtain ⟨k0, f0, l0, m0⟩ := K0.out.rl; obtain ⟨k1, f1, l1, m1⟩ := K1.out.rl))
 go_wp2_with fail
 (refine (n3.out _ HB).mono ?_; rintro e w3 ⟨rfl, hN⟩; have N0 := Lib.hid (K0.out.below hN); have N1 := Lib.hid (K1.out.below hN); have HBn : Below w.heap.size w w3 := Below.on hN HB; clear hN HB K0 k0 f0 l0 m0 K1 k1 f1 l1 m1; have K0 := N0; clear N0; have K1 := N1; clear N1; have HB := HBn; clear HBn; (obtain ⟨k0, f0, l0, m0⟩ := K0.out.rl; obtain ⟨k1, f1, l1, m1⟩ := K1.out.rl))
 go_wp2_with fail
 (refine (n4.out _ HB).mono ?_; rintro e w4 ⟨rfl, hN⟩; have N0 := Lib.hid (K0.out.below hN); have N1 := Lib.hid (K1.out.below hN); have HBn : Below w.heap.size w w4 := Below.on hN HB; clear hN HB K0 k0 f0 l0 m0 K1 k1 f1 l1 m1; have K0 := N0; clear N0; have K1 := N1; clear N1; have HB := HBn; clear HBn; (obtain ⟨k0, f0, l0, m0⟩ := K0.out.rl; obtain ⟨k1, f1, l1, m1⟩ := K1.out.rl))
 go_wp2_with (first | (with_reducible refine wpList_load_run (o := ⟨_, .load 33 _, _, _, _, none⟩) (ldSr_best _ K0.out) rfl _ rfl rfl ?_) | (with_reducible refine wpList_load_run_g (o := ⟨_, .load 33 _, _, _, _, some _⟩) (ldSr_best _ K0.out) (by with_unfolding_all rfl) _ rfl rfl ?_) | (with_reducible refine wpList_load_run (o := ⟨_, .load 33 _, _, _, _, none⟩) (ldSr_best _ K1.out) rfl _ rfl rfl ?_) | (with_reducible refine wpList_load_run_g (o := ⟨_, .load 33 _, _, _, _, some _⟩) (ldSr_best _ K1.out) (by with_unfolding_all rfl) _ rfl rfl ?_))
 (refine (n5.out _ HB).mono ?_; rintro e w5 ⟨rfl, hN⟩; have N0 := Lib.hid (K0.out.below hN); have N1 := Lib.hid (K1.out.below hN); have HBn : Below w.heap.size w w5 := Below.on hN HB; clear hN HB K0 k0 f0 l0 m0 K1 k1 f1 l1 m1; have K0 := N0; clear N0; have K1 := N1; clear N1; have HB := HBn; clear HBn; (obtain ⟨k0, f0, l0, m0⟩ := K0.out.rl; obtain ⟨k1, f1, l1, m1⟩ := K1.out.rl))
 cases r1 with
 | false =>
  go_wp2_with fail
  go_ret
  exact ⟨rfl, HB⟩
 | true =>
  cases r2 with
  | false =>
   go_wp2_with fail
   go_ret
   exact ⟨rfl, HB⟩
  | true =>
   cases r3 with
   | false =>
    go_wp2_with fail
    go_ret
    exact ⟨rfl, HB⟩
   | true =>
    cases r4 with
    | false =>
     go_wp2_with fail
     go_ret
     exact ⟨rfl, HB⟩
    | true =>
     cases r5 with
     | false =>
      go_wp2_with fail
      go_ret
      exact ⟨rfl, HB⟩
     | true =>
      cases r6 with
      | false =>
       go_wp2_with fail
       go_ret
       exact ⟨rfl, HB⟩
      | true =>
       cases r7 with
       | false =>
        go_wp2_with fail
        go_ret
        exact ⟨rfl, HB⟩
       | true =>
        cases r8 with
        | false =>
         go_wp2_with fail
         go_ret
         exact ⟨rfl, HB⟩
        | true =>
         go_wp2_with fail
         go_ret
         exact ⟨rfl, HB⟩
end Go.Proofs.YtegaaccioppfjaaGreatDoor
end
section
namespace Go.Proofs.YtegaaccioppfjaaGreatDoor
open BigFrame Go.RowKit Go.Phx Go.Shelf
attribute [local go_sem] Oper.semAt_some

def forceS (s : Sr) (now : Nat) : Sr := if noForce s now then s else forceP s
def forceE (s : Sr) (now : Nat) : Int := if noForce s now then 148 else 0
theorem lgforce_calls (s : Sr) (now : Nat) (w : World) (hs : SrIn w s) (hn : now < 18446744073709551616) : Calls Tryz.prog 22 #[srV s, .int .u64 now] w (Ret w (.tuple #[srV (forceS s now), .int .i64 (forceE s now)])) := by
 unfold forceS forceE
 cases h : noForce s now with
 | true => rw [if_pos rfl, if_pos rfl]; exact force_no s now h hs.1.1.1 hn w
 | false => rw [if_neg (by simp), if_neg (by simp)]; exact force_yes s now h hs.1.1.1 hs.2.2.2.2.1.1.1.1 hs.2.2.2.2.1.2.2.2.1.1.1 hn w
theorem take1_in {w : World} {s : Sr} {u : Up} (hs : SrIn w s) (hu : UpIn w u) : SrIn w (takeP1 s u) := by
 obtain ⟨a, b, c, d, e, f, g, h, i⟩ := hs
 unfold takeP1
 split
 ·split
  ·exact ⟨a, b, d, hu.2.1, e, f, h, (show (-9223372036854775808 : Int) ≤ 0 ∧ (0 : Int) ≤ 9223372036854775807 by decide), i⟩
  ·exact ⟨a, b, c, d, e, f, g, h, i⟩
 ·split
  ·exact ⟨a, b, c, hu.2.1, e, f, g, h, i⟩
  ·exact ⟨a, b, c, d, e, f, g, h, i⟩
theorem take_in {w : World} {s : Sr} {u : Up} (hs : SrIn w s) (hu : UpIn w u) : SrIn w (takeP s u) := by
 have hs := take1_in hs hu
 unfold takeP takeP2
 generalize takeP1 s u = s at *
 obtain ⟨a, b, c, d, e, f, g, h, i⟩ := hs
 split
 ·refine ⟨hu.2.2.2.1, ?_, c, d, e, f, g, h, i⟩
  show LtIn w (if _ then _ else _)
  split
  ·exact hu.2.2.2.1
  ·exact b
 ·exact ⟨a, b, c, d, e, f, g, h, i⟩
theorem clear_in {w : World} {s : Sr} (hs : SrIn w s) : SrIn w (clearP s) := by
 obtain ⟨a, b, c, d, e, f, g, h, i⟩ := hs
 exact ⟨a, b, c, d, UpIn.zero w, f, g, h, i⟩
theorem forced_in {w : World} {s : Sr} (hs : SrIn w s) : UpIn w (forcedU s) := by
 have hu := hs.2.2.2.2.1
 unfold forcedU
 split
 ·exact ⟨hu.1, hu.2.1, hu.2.2.1, hu.1, hu.2.2.2.2⟩
 ·exact hu
theorem forceP_in {w : World} {s : Sr} (hs : SrIn w s) : SrIn w (forceP s) := by
 have h := clear_in (take_in hs (forced_in hs))
 obtain ⟨a, b, c, d, e, f, g, h, i⟩ := h
 exact ⟨a, b, c, d, e, f, g, h, i⟩
theorem forceS_in {w : World} {s : Sr} (now : Nat) (hs : SrIn w s) : SrIn w (forceS s now) := by
 unfold forceS
 split
 ·exact hs
 ·exact forceP_in hs
end Go.Proofs.YtegaaccioppfjaaGreatDoor
end
section
namespace Go.Proofs.YtegaaccioppfjaaGreatDoor
open BigFrame Go.RowKit Go.Phx Go.Shelf
attribute [local go_sem] Oper.semAt_some

set_option maxRecDepth 100000 in
set_option maxHeartbeats 4000000 in
theorem rcroot_calls (c : Cm) (w : World) (hc : CmIn w c) : Calls Tryz.prog 70 #[cmV c] w (Ret w (.tuple #[.string (bs (cmRoot c)), .int .i64 (cmE c)])) := by
 have K0 := Lib.hid (Blk.new0 w 31 (cmA c))
 have HB : Below w.heap.size w (w.alloc (.cells (cmA c) 31)) := bel
 by_cases h16 : c.ks.l.length = 16
 ·have e16 : ((c.ks.l.length : Int) != 16) = false := by simp; omega
  by_cases h5s : c.sum.length = 5
  ·have e5s : ((c.sum.length : Int) != 5) = false := by simp; omega
   obtain ⟨W, hW⟩ : ∃ W, w.alloc (.cells (cmA c) 31) = W := ⟨_, rfl⟩
   rw [hW] at K0 HB
   obtain ⟨g, hg⟩ : ∃ g, w.heap.size = g := ⟨_, rfl⟩
   rw [hg] at K0
   have T1 := Lib.hid (Txts.below hc.1.1 HB)
   have hRall : ∀ y ∈ c.ks.l, y.length ≤ 1048576 := hc.1.2.2.2
   have hok : FiveB c.ks.l 16 → cmOk c = true := fun h => five_ok c 17 (by omega) (fun i hi => by
    cases i with
    | zero => exact h5s
    | succ i => exact h i (by omega)) h16
   have hnot : ∀ j, j < 16 → (c.ks.l.getD j []).length ≠ 5 → cmOk c = false := fun j hj h => five_not c (j + 1) (by omega) (by simpa using h)
   replace hRall := Lib.hid hRall
   replace hok := Lib.hid hok
   replace hnot := Lib.hid hnot
   have hl16 := Lib.hid h16
   clear h16
   obtain ⟨b1, o1, hb1, hb0, _⟩ := Txts.at T1.out 0 (by have := hl16.out; omega)
   (obtain ⟨k0, f0, l0, m0⟩ := K0.out.rl)
   go_enter Tryz.func70, Tryz.ntmps70
   go_upto_region 4 with fail
   clear hW hg k0 f0 l0 m0
   go_wp2_with fail
   clear e16
   go_loopw [4, 5] (fun u i wr => ∃ (v : Value) (k : Nat), v = u ∧ k ≤ 16 ∧ i = .int .i64 k ∧ FiveB c.ks.l k ∧ LRow W.heap.size wr v ((c.ks.l.take k).map chk) ∧ Below W.heap.size W wr) (fun _ i _ => (16 - intOf i).toNat)
   case atStart => exact ⟨_, 0, rfl, by omega, rfl, fun i hi => absurd hi (by omega), World.ownsRow_nil _ _ _ _, Below.refl _ _⟩
   case round =>
    obtain ⟨v, k, rfl, hk3, rfl, h5, OWN, HBr⟩ := hrel
    have K2 := Lib.hid (K0.out.below HBr)
    have HBw := Below.on HBr HB
    by_cases hlt : k < 16
    ·have hkR : k < c.ks.l.length := by have := hl16.out; omega
     obtain ⟨b9, o9, hb9, hb2, hcell⟩ := Txts.at (Txts.below T1.out HBr) k hkR
     have hb8 := hb9.symm.trans hb1
     simp only [Option.some.injEq, Addr.mk.injEq, and_true] at hb8
     obtain ⟨rfl, rfl⟩ := hb8
     clear hb9
     have hy := hRall.out _ (getD_mem hkR)
     have hst : (c.ks.l.take (k + 1)).map chk = (c.ks.l.take k).map chk ++ [chk (c.ks.l.getD k [])] := by
      have e : c.ks.l.take (k + 1) = c.ks.l.take k ++ [c.ks.l[k]] := by rw [List.take_add_one, List.getElem?_eq_getElem hkR]; rfl
      rw [e, List.map_append, List.getD, List.getElem?_eq_getElem hkR]
      rfl
     have hno := hnot.out k hlt
     have h5s2 : (c.ks.l.getD k []).length = 5 → FiveB c.ks.l (k + 1) := fun h i hi => by
      by_cases hik : i = k
      ·rw [hik]; exact h
      ·exact h5 i (by omega)
     have hq : ((c.ks.l.take k).map chk).length ≤ 16 := by rw [List.length_map, List.length_take]; omega
     generalize c.ks.l.getD k [] = y at *
     generalize (c.ks.l.take k).map chk = q at *
     replace hst := Lib.hid hst
     clear h5
     (obtain ⟨k2, f2, l2, m2⟩ := K2.out.rl)
     by_cases hy5 : y.length = 5
     ·have e1 : ((y.length : Int) != 5) = false := by simp; omega
      have h6 := Lib.hid (h5s2 hy5)
      replace OWN := Lib.hid OWN
      clear h5s2 hno
      go_wp2_with fail
      refine (rpack_calls y (by omega) _).mono ?_
      rintro e w3 ⟨v3, rfl, Rv, h3⟩
      rw [pack_five hy5] at Rv
      obtain ⟨A3, c3, rfl, T3⟩ := Rv.txts
      have OWN3 := LRow.below OWN.out h3
      have HB3 := Below.on h3 HBr
      obtain ⟨v4, w4, hr4, OWN4, hg4⟩ := app_rows w3 W.heap.size HB3.size v q OWN3 A3 c3 [chk y] (by omega) (by simp) T3
      have HB4 := HB3.grown hg4 HB3.size fun j e => (OWN3.lt j e).1
      replace OWN4 := Lib.hid OWN4
      replace hr4 := Lib.hid hr4
      clear Rv T3 OWN3 OWN hg4 h3 HB3 hy5 hy
      go_wp2_with (at_builtin; refine wpList_append_run rfl _ _ 27 27 rfl _ _ _ rfl rfl hr4.out ?_)
      clear hr4
      go_wp2_with fail
      go_roundw
      case rel => exact ⟨_, k + 1, rfl, by omega, by go_num, h6.out, by rw [hst.out]; exact OWN4.out, HB4⟩
      case measure => simp [intOf]; omega
     ·have e1 : ((y.length : Int) != 5) = true := by simp; omega
      obtain ⟨f1, f2⟩ := cm_no (hno hy5)
      replace f1 := Lib.hid f1
      replace f2 := Lib.hid f2
      clear h5s2 hno hy5 OWN hy
      go_wp2_with fail
      go_ret2
      exact ⟨by rw [f1.out, f2.out]; rfl, HBw⟩
    ·obtain rfl : k = 16 := by omega
     have hRt : c.ks.l.take 16 = c.ks.l := List.take_of_length_le (by have := hl16.out; omega)
     rw [hRt] at OWN
     have hyes := hok.out h5
     obtain ⟨f1, f2⟩ := cm_yes hyes
     have hright := (cm_right hyes).1
     obtain ⟨A5, c5, rfl, T5⟩ := OWN.txts
     have hll : (c.ks.l.map chk).length = 16 := by rw [List.length_map, hl16.out]
     have n5 := zrroot_calls A5 c5 (c.ks.l.map chk) 4 (fun x hx => by
      obtain ⟨k, _, rfl⟩ := List.mem_map.1 hx
      rw [chk_len]
      decide) wr T5
     unfold rootV at n5
     rw [if_pos hright, hll, show (4 : Int).toNat = 4 from rfl] at n5
     have hrl : (rootP (c.ks.l.map chk) 4).length = 32 := rootP_len hright.2.2.2.2
     have n6 := fun W => rpack_calls c.sum (by omega) W
     rw [pack_five h5s] at n6
     have hcl := chk_len c.sum
     have n7 := fun W => rsum_calls (rootP (c.ks.l.map chk) 4 ++ chk c.sum) (by rw [List.length_append]; omega) W
     rw [hll]
     generalize rootP (c.ks.l.map chk) 4 = rt at *
     generalize chk c.sum = c0 at *
     replace f1 := Lib.hid f1
     replace f2 := Lib.hid f2
     replace n5 := Lib.hid n5
     replace n6 := Lib.hid n6
     replace n7 := Lib.hid n7
     clear hyes hright OWN T5 hll hRt h5 hok hnot T1 hRall h5s e5s
     (obtain ⟨k2, f2, l2, m2⟩ := K2.out.rl)
     have e17 : decide ((16 : Int) < (c.ks.l.length : Int)) = false := decide_eq_false (by have := hl16.out; omega)
     replace hl16 := hl16
     go_wp2_with fail
     refine n5.out.mono ?_
     rintro e w5 ⟨rfl, h5⟩
     have HB5 := Below.on h5 HBw
     have K3 := Lib.hid (K2.out.below h5)
     clear h5 n5 k2 f2 l2 m2 K2
     (obtain ⟨k3, f3, l3, m3⟩ := K3.out.rl)
     go_wp2_with fail
     refine (n6.out _).mono ?_
     rintro e w6 ⟨v6, rfl, R6, h6⟩
     obtain ⟨g6, c6, rfl, _, _⟩ := R6.form1 (by simp)
     have hx6 := LRow.at R6 0 (by simp)
     replace hx6 : w6.cell? ⟨g6, 0, none⟩ = some (.string (bs c0)) := hx6
     have HB6 := Below.on h6 HB5
     clear R6 h6
     go_wp2_with fail
     refine (n7.out _).mono ?_
     rintro e w7 ⟨rfl, h7⟩
     go_wp2_with fail
     go_ret2
     exact ⟨by rw [f1.out, f2.out]; rfl, Below.on h7 HB6⟩
  ·have e5s : ((c.sum.length : Int) != 5) = true := by simp; omega
   have hno : cmOk c = false := five_not c 0 (by omega) h5s
   obtain ⟨f1, f2⟩ := cm_no hno
   replace f1 := Lib.hid f1
   replace f2 := Lib.hid f2
   clear hno h16 h5s hc
   go_enter Tryz.func70, Tryz.ntmps70
   go_wp2_with fail
   go_ret2
   exact ⟨by rw [f1.out, f2.out]; rfl, HB⟩
 ·have e16 : ((c.ks.l.length : Int) != 16) = true := by simp; omega
  have hno : cmOk c = false := by
   cases hc : cmOk c with
   | false => rfl
   | true => exact absurd (cm_right hc).2 h16
  obtain ⟨f1, f2⟩ := cm_no hno
  replace f1 := Lib.hid f1
  replace f2 := Lib.hid f2
  clear hno h16 hc
  go_enter Tryz.func70, Tryz.ntmps70
  go_wp2_with fail
  go_ret2
  exact ⟨by rw [f1.out, f2.out]; rfl, HB⟩
end Go.Proofs.YtegaaccioppfjaaGreatDoor
end
