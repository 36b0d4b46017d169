/- Plain laws and walks, each by its own conditions. -/
import Derived.Test.YtegaaccioppfjaaGreatDoorFt21
import Derived.Test.YtegaaccioppfjaaGreatDoorFt17
import Derived.Test.YtegaaccioppfjaaGreatDoorFt23
set_option linter.unusedSimpArgs false
set_option linter.unusedVariables false
set_option maxRecDepth 100000
set_option maxHeartbeats 16000000
section
namespace Go.Proofs.YtegaaccioppfjaaGreatDoor
open BigFrame Go.RowKit Go.Phx Go.Shelf
attribute [local go_sem] Oper.semAt_some

theorem rchunks_calls (h : Hd) (w : World) (hh : HdIn w h) : Calls Tryz.prog 93 #[hdV h] w (fun e w' => ∃ g, e = .returned (.slice (some ⟨g, 0, none⟩) 5 5) ∧ Txts w' (some ⟨g, 0, none⟩) (hdL h) ∧ Below w.heap.size w w') := by
 have n1 := fun W => rnumber_calls h.slot hh.1 W
 have n2 := fun W => rnumber_calls h.prop hh.2.1 W
 have n3 : ∀ W : World, Txts (W.alloc (.cells #[.string (bs (numP h.slot)), .string (bs (numP h.prop)), .string (bs h.parent), .string (bs h.state), .string (bs h.body)] 9)) (some ⟨W.heap.size, 0, none⟩) (hdL h) := fun W => txts_new W (hdL h)
 generalize hdL h = L at *
 generalize numP h.slot = a at *
 generalize numP h.prop = b at *
 have K0 := Lib.hid (Blk.new0 w 24 (hdA h))
 replace n1 := Lib.hid n1
 replace n2 := Lib.hid n2
 replace n3 := Lib.hid n3
 clear hh
 go_enter Tryz.func93, Tryz.ntmps93
 go_wp2_with fail
 have hB0 : Below w.heap.size w (w.alloc (.cells (hdA h) 24)) := bel
 obtain ⟨W, hW⟩ : ∃ W, w.alloc (.cells (hdA h) 24) = W := ⟨_, rfl⟩
 rw [hW] at K0 hB0 ⊢
 obtain ⟨g, hg⟩ : ∃ g, w.heap.size = g := ⟨_, rfl⟩
 rw [hg] at K0 ⊢
 replace hB0 := Lib.hid hB0
 clear hW
 replace hg := Lib.hid hg
 have hwf : ∀ f, Fence.wide.fn f := fun _ => trivial
 refine (wpIn_wide (n := 9)).1 ?_
 refine wpIn_round_held (fun w' => Below W.heap.size W w') (fun j => true) (by kernel_rfl) ?_
 have hS0 : (fun w' => Below W.heap.size W w') W.drew := (Below.refl _ _).drew
 refine S_tg 0 (.pointer (some ⟨g, 0, none⟩)) rfl hS0 ?_
 refine S_tk 1 (.int .u64 (h.slot : Int)) rfl hS0 (fun w' hw => exec_load rfl (by kernel_rfl) (run_load_cell (i := 0) (K0.out.below hw) rfl szU64 nrU64)) ?_
 refine S_tg 3 (.pointer (some ⟨g, 1, none⟩)) rfl hS0 ?_
 refine S_tk 4 (.int .u64 (h.prop : Int)) rfl hS0 (fun w' hw => exec_load rfl (by kernel_rfl) (run_load_cell (i := 1) (K0.out.below hw) rfl szU64 nrU64)) ?_
 refine S_tg 6 (.pointer (some ⟨g, 2, none⟩)) rfl hS0 ?_
 refine S_tk 7 (.string (bs h.parent)) rfl hS0 (fun w' hw => exec_load rfl (by kernel_rfl) (run_load_cell (i := 2) (K0.out.below hw) rfl szStr nrStr)) ?_
 refine S_tg 8 (.pointer (some ⟨g, 3, none⟩)) rfl hS0 ?_
 refine S_tk 9 (.string (bs h.state)) rfl hS0 (fun w' hw => exec_load rfl (by kernel_rfl) (run_load_cell (i := 3) (K0.out.below hw) rfl szStr nrStr)) ?_
 refine S_tg 10 (.pointer (some ⟨g, 4, none⟩)) rfl hS0 ?_
 refine S_tk 11 (.string (bs h.body)) rfl hS0 (fun w' hw => exec_load rfl (by kernel_rfl) (run_load_cell (i := 4) (K0.out.below hw) rfl szStr nrStr)) ?_
 refine S_one 2 (by kernel_rfl) rfl (fun K hK => ?_)
 go_simp
 gi_wp2_with (gi_at_call 91; refine (callsIn_wide.2 (n1.out _)).mono ?_; rintro e Wh1 ⟨rfl, hN⟩)
 replace hS0 := hS0.trans (hN.mono hS0.size)
 clear hN
 refine ⟨(fun _ => hS0), ?_⟩
 refine S_one 5 (by kernel_rfl) rfl (fun K hK => ?_)
 go_simp
 gi_wp2_with (gi_at_call 91; refine (callsIn_wide.2 (n2.out _)).mono ?_; rintro e Wh2 ⟨rfl, hN⟩)
 replace hS0 := hS0.trans (hN.mono hS0.size)
 clear hN
 refine ⟨(fun _ => hS0), ?_⟩
 replace hS0 : Below _ _ (Wh2.alloc (.cells #[.string (bs a), .string (bs b), .string (bs h.parent), .string (bs h.state), .string (bs h.body)] 9)) := hS0.alloc hS0.size _
 refine S_go 12 (fun _ => trivial) (by kernel_rfl) (by kernel_rfl) rfl (by kernel_rfl) (.slice (some ⟨Wh2.heap.size, 0, none⟩) 5 5) (Wh2.alloc (.cells #[.string (bs a), .string (bs b), .string (bs h.parent), .string (bs h.state), .string (bs h.body)] 9)) (by first | (go_simp; done) | (go_simp; rfl) | (go_simp; exact ⟨hbx2, rfl⟩)) (fun _ => hS0) ?_
 refine S_tg 13 (.slice (some ⟨Wh2.heap.size, 0, none⟩) 5 5) rfl hS0 ?_
 refine ⟨by kernel_rfl, rfl, ?_⟩
 have hT := Lib.hid (n3.out Wh2)
 go_wp2_with fail
 go_ret
 exact ⟨_, rfl, hT.out, Below.on hS0 hB0.out⟩
theorem rhroot_calls (h : Hd) (w : World) (hh : HdIn w h) : Calls Tryz.prog 35 #[hdV h] w (Ret w (.tuple #[.string (bs (hdRoot h)), .int .i64 (hdE h)])) := by
 have n1 := fun W (hB : Below w.heap.size w W) => rchunks_calls h W (hh.below hB)
 have n2 : ∀ W g, Txts W (some ⟨g, 0, none⟩) (hdL h) → Calls Tryz.prog 92 #[.slice (some ⟨g, 0, none⟩) 5 5, .int .i64 3] W (Ret W (rootV (hdL h) 3)) := fun W g hs => zrroot_calls (some ⟨g, 0, none⟩) 5 (hdL h) 3 (hdL_le hh) W hs
 have K0 := Lib.hid (Blk.new0 w 24 (hdA h))
 unfold rootV at n2
 unfold hdRoot hdE hdOk
 by_cases hR : RightP (hdL h) 3
 ·rw [if_pos hR] at n2
  rw [decide_eq_true hR, if_pos rfl, if_pos rfl]
  rw [show (3 : Int).toNat = 3 from rfl] at n2
  generalize rootP (hdL h) 3 = r at *
  replace n1 := Lib.hid n1
  replace n2 := Lib.hid n2
  clear hR hh
  go_enter Tryz.func35, Tryz.ntmps35
  go_wp2_with fail
  refine (n1.out _ bel).mono ?_
  rintro e w1 ⟨g, rfl, hs, h1⟩
  have hB1 : Below w.heap.size w w1 := Below.on h1 bel
  replace hs := Lib.hid hs
  clear h1
  go_wp2_with fail
  refine (n2.out _ _ hs.out).mono ?_
  rintro e w2 ⟨rfl, h2⟩
  go_wp2_with fail
  go_ret2
  exact ⟨rfl, Below.on h2 hB1⟩
 ·rw [if_neg hR] at n2
  rw [decide_eq_false hR, if_neg (by simp), if_neg (by simp)]
  replace n1 := Lib.hid n1
  replace n2 := Lib.hid n2
  clear hR hh
  go_enter Tryz.func35, Tryz.ntmps35
  go_wp2_with fail
  refine (n1.out _ bel).mono ?_
  rintro e w1 ⟨g, rfl, hs, h1⟩
  have hB1 : Below w.heap.size w w1 := Below.on h1 bel
  replace hs := Lib.hid hs
  clear h1
  go_wp2_with fail
  refine (n2.out _ _ hs.out).mono ?_
  rintro e w2 ⟨rfl, h2⟩
  go_wp2_with fail
  go_ret2
  exact ⟨rfl, Below.on h2 hB1⟩
theorem reroot_calls (x : Ex) (w : World) (hh : ExIn w x) : Calls Tryz.prog 103 #[exV x] w (Ret w (.tuple #[.string (bs (exRoot x)), .int .i64 (exE x)])) := by
 have n1 := fun W => rnumber_calls x.num hh.2.2 W
 have n2 : ∀ W : World, Calls Tryz.prog 92 #[.slice (some ⟨W.heap.size, 0, none⟩) 3 3, .int .i64 2] (W.alloc (.cells #[.string (bs x.acc), .string (bs x.rcp), .string (bs (numP x.num))] 9)) (Ret (W.alloc (.cells #[.string (bs x.acc), .string (bs x.rcp), .string (bs (numP x.num))] 9)) (rootV (exL x) 2)) := fun W => zrroot_calls (some ⟨W.heap.size, 0, none⟩) 3 (exL x) 2 (exL_le hh) _ (txts_new W (exL x))
 have K0 := Lib.hid (Blk.new0 w 26 (exA x))
 unfold rootV at n2
 unfold exRoot exE exOk
 by_cases hR : RightP (exL x) 2
 ·rw [if_pos hR] at n2
  rw [decide_eq_true hR, if_pos rfl, if_pos rfl]
  rw [show (2 : Int).toNat = 2 from rfl] at n2
  generalize rootP (exL x) 2 = r at *
  generalize numP x.num = a at *
  replace n1 := Lib.hid n1
  replace n2 := Lib.hid n2
  clear hR hh
  go_enter Tryz.func103, Tryz.ntmps103
  go_wp2_with fail
  have hB0 : Below w.heap.size w (w.alloc (.cells (exA x) 26)) := bel
  obtain ⟨W, hW⟩ : ∃ W, w.alloc (.cells (exA x) 26) = W := ⟨_, rfl⟩
  rw [hW] at K0 hB0 ⊢
  obtain ⟨g, hg⟩ : ∃ g, w.heap.size = g := ⟨_, rfl⟩
  rw [hg] at K0 ⊢
  replace hB0 := Lib.hid hB0
  clear hW
  replace hg := Lib.hid hg
  have hwf : ∀ f, Fence.wide.fn f := fun _ => trivial
  refine (wpIn_wide (n := 9)).1 ?_
  refine wpIn_round_held (fun w' => Below W.heap.size W w') (fun j => true) (by kernel_rfl) ?_
  have hS0 : (fun w' => Below W.heap.size W w') W.drew := (Below.refl _ _).drew
  refine S_tg 0 (.pointer (some ⟨g, 0, none⟩)) rfl hS0 ?_
  refine S_tk 1 (.string (bs x.acc)) rfl hS0 (fun w' hw => exec_load rfl (by kernel_rfl) (run_load_cell (i := 0) (K0.out.below hw) rfl szStr nrStr)) ?_
  refine S_tg 2 (.pointer (some ⟨g, 1, none⟩)) rfl hS0 ?_
  refine S_tk 3 (.string (bs x.rcp)) rfl hS0 (fun w' hw => exec_load rfl (by kernel_rfl) (run_load_cell (i := 1) (K0.out.below hw) rfl szStr nrStr)) ?_
  refine S_tg 4 (.pointer (some ⟨g, 2, none⟩)) rfl hS0 ?_
  refine S_tk 5 (.int .u64 (x.num : Int)) rfl hS0 (fun w' hw => exec_load rfl (by kernel_rfl) (run_load_cell (i := 2) (K0.out.below hw) rfl szU64 nrU64)) ?_
  refine S_one 6 (by kernel_rfl) rfl (fun K hK => ?_)
  go_simp
  gi_wp2_with (gi_at_call 91; refine (callsIn_wide.2 (n1.out _)).mono ?_; rintro e Wh1 ⟨rfl, hN⟩)
  replace hS0 := hS0.trans (hN.mono hS0.size)
  clear hN
  refine ⟨(fun _ => hS0), ?_⟩
  replace hS0 : Below _ _ (Wh1.alloc (.cells #[.string (bs x.acc), .string (bs x.rcp), .string (bs a)] 9)) := hS0.alloc hS0.size _
  refine S_go 7 (fun _ => trivial) (by kernel_rfl) (by kernel_rfl) rfl (by kernel_rfl) (.slice (some ⟨Wh1.heap.size, 0, none⟩) 3 3) (Wh1.alloc (.cells #[.string (bs x.acc), .string (bs x.rcp), .string (bs a)] 9)) (by first | (go_simp; done) | (go_simp; rfl) | (go_simp; exact ⟨hbx2, rfl⟩)) (fun _ => hS0) ?_
  refine S_one 8 (by kernel_rfl) rfl (fun K hK => ?_)
  go_simp
  gi_wp2_with (gi_at_call 92; refine (callsIn_wide.2 (n2.out _)).mono ?_; rintro e Wh2 ⟨rfl, hN⟩)
  replace hS0 := hS0.trans (hN.mono hS0.size)
  clear hN
  refine ⟨(fun _ => hS0), ?_⟩
  refine S_tg 9 (.tuple #[.string (bs r), .int .i64 0]) rfl hS0 ?_
  refine S_tg 10 (.string (bs r)) rfl hS0 ?_
  refine S_tg 11 (.int .i64 0) rfl hS0 ?_
  refine S_tg 12 (.string (bs r)) rfl hS0 ?_
  refine S_tg 13 (.int .i64 0) rfl hS0 ?_
  refine ⟨by kernel_rfl, rfl, ?_⟩
  go_wp2_with fail
  go_ret2
  exact ⟨rfl, Below.on hS0 hB0.out⟩
 ·rw [if_neg hR] at n2
  rw [decide_eq_false hR, if_neg (by simp), if_neg (by simp)]
  generalize numP x.num = a at *
  replace n1 := Lib.hid n1
  replace n2 := Lib.hid n2
  clear hR hh
  go_enter Tryz.func103, Tryz.ntmps103
  go_wp2_with fail
  have hB0 : Below w.heap.size w (w.alloc (.cells (exA x) 26)) := bel
  obtain ⟨W, hW⟩ : ∃ W, w.alloc (.cells (exA x) 26) = W := ⟨_, rfl⟩
  rw [hW] at K0 hB0 ⊢
  obtain ⟨g, hg⟩ : ∃ g, w.heap.size = g := ⟨_, rfl⟩
  rw [hg] at K0 ⊢
  replace hB0 := Lib.hid hB0
  clear hW
  replace hg := Lib.hid hg
  have hwf : ∀ f, Fence.wide.fn f := fun _ => trivial
  refine (wpIn_wide (n := 9)).1 ?_
  refine wpIn_round_held (fun w' => Below W.heap.size W w') (fun j => true) (by kernel_rfl) ?_
  have hS0 : (fun w' => Below W.heap.size W w') W.drew := (Below.refl _ _).drew
  refine S_tg 0 (.pointer (some ⟨g, 0, none⟩)) rfl hS0 ?_
  refine S_tk 1 (.string (bs x.acc)) rfl hS0 (fun w' hw => exec_load rfl (by kernel_rfl) (run_load_cell (i := 0) (K0.out.below hw) rfl szStr nrStr)) ?_
  refine S_tg 2 (.pointer (some ⟨g, 1, none⟩)) rfl hS0 ?_
  refine S_tk 3 (.string (bs x.rcp)) rfl hS0 (fun w' hw => exec_load rfl (by kernel_rfl) (run_load_cell (i := 1) (K0.out.below hw) rfl szStr nrStr)) ?_
  refine S_tg 4 (.pointer (some ⟨g, 2, none⟩)) rfl hS0 ?_
  refine S_tk 5 (.int .u64 (x.num : Int)) rfl hS0 (fun w' hw => exec_load rfl (by kernel_rfl) (run_load_cell (i := 2) (K0.out.below hw) rfl szU64 nrU64)) ?_
  refine S_one 6 (by kernel_rfl) rfl (fun K hK => ?_)
  go_simp
  gi_wp2_with (gi_at_call 91; refine (callsIn_wide.2 (n1.out _)).mono ?_; rintro e Wh1 ⟨rfl, hN⟩)
  replace hS0 := hS0.trans (hN.mono hS0.size)
  clear hN
  refine ⟨(fun _ => hS0), ?_⟩
  replace hS0 : Below _ _ (Wh1.alloc (.cells #[.string (bs x.acc), .string (bs x.rcp), .string (bs a)] 9)) := hS0.alloc hS0.size _
  refine S_go 7 (fun _ => trivial) (by kernel_rfl) (by kernel_rfl) rfl (by kernel_rfl) (.slice (some ⟨Wh1.heap.size, 0, none⟩) 3 3) (Wh1.alloc (.cells #[.string (bs x.acc), .string (bs x.rcp), .string (bs a)] 9)) (by first | (go_simp; done) | (go_simp; rfl) | (go_simp; exact ⟨hbx2, rfl⟩)) (fun _ => hS0) ?_
  refine S_one 8 (by kernel_rfl) rfl (fun K hK => ?_)
  go_simp
  gi_wp2_with (gi_at_call 92; refine (callsIn_wide.2 (n2.out _)).mono ?_; rintro e Wh2 ⟨rfl, hN⟩)
  replace hS0 := hS0.trans (hN.mono hS0.size)
  clear hN
  refine ⟨(fun _ => hS0), ?_⟩
  refine S_tg 9 (.tuple #[.string { data := #[] }, .int .i64 80]) rfl hS0 ?_
  refine S_tg 10 (.string { data := #[] }) rfl hS0 ?_
  refine S_tg 11 (.int .i64 80) rfl hS0 ?_
  refine S_tg 12 (.string { data := #[] }) rfl hS0 ?_
  refine S_tg 13 (.int .i64 80) rfl hS0 ?_
  refine ⟨by kernel_rfl, rfl, ?_⟩
  go_wp2_with fail
  go_ret2
  exact ⟨rfl, Below.on hS0 hB0.out⟩
theorem rlholds_calls (l : Lt) (w : World) (hl : LtIn w l) : Calls Tryz.prog 63 #[ltV l] w (Ret w (.bool (holdsP l))) := by
 have n1 := fun W (hB : Below w.heap.size w W) => rhroot_calls l.b W (hl.1.below hB)
 have n2 := fun W (hB : Below w.heap.size w W) => reroot_calls l.x W (hl.2.1.below hB)
 have n3 := fun W (hB : Below w.heap.size w W) => rcheck_calls (exRoot l.x) l.br.addr l.br.cap l.br.l 2 l.b.body (by have := exRoot_len l.x; omega) (by have := hl.1.2.2.2.2; omega) (by have := hl.2.2.2.2.1; omega) (by decide) (fun y hy => by have := hl.2.2.2.2.2 y hy; omega) W (Txts.below hl.2.2.1 hB)
 have K0 := Lib.hid (Blk.new0 w 29 (ltA l))
 have hP : ∀ r1 r2 r3 r4 : Bool, hdOk l.b = r1 → exOk l.x = r2 → decide (l.br.l.length = 2) = r3 → decide (CheckP (exRoot l.x) l.br.l 2 l.b.body) = r4 → holdsP l = (r1 && (r2 && (r3 && r4))) := fun r1 r2 r3 r4 e1 e2 e3 e4 => by
  unfold holdsP
  rw [e1, e2, e3, e4]
 obtain ⟨r4, h4⟩ : ∃ r4, decide (CheckP (exRoot l.x) l.br.l 2 l.b.body) = r4 := ⟨_, rfl⟩
 rw [h4] at n3
 have h5 : ∀ r1 r2 r3 : Bool, hdOk l.b = r1 → exOk l.x = r2 → decide (l.br.l.length = 2) = r3 → holdsP l = (r1 && (r2 && (r3 && r4))) := fun r1 r2 r3 a b c => hP _ _ _ _ a b c h4
 clear hP h4
 replace h5 := Lib.hid h5
 unfold hdE at n1
 unfold exE at n2
 generalize exRoot l.x = q at *
 generalize hdRoot l.b = q2 at *
 cases h1 : hdOk l.b with
 | false =>
  rw [h1, if_neg (by simp)] at n1
  replace n1 := Lib.hid n1
  replace n2 := Lib.hid n2
  replace n3 := Lib.hid n3
  rw [show holdsP l = false by rw [h5.out _ _ _ h1 rfl rfl]; rfl]
  clear h1 h5 hl
  have hq2 : ∃ e2 : Int, (if exOk l.x = true then (0 : Int) else 130) = e2 := ⟨_, rfl⟩
  obtain ⟨e2, he2⟩ := hq2
  replace n2 := n2.out
  rw [he2] at n2
  replace n2 := Lib.hid n2
  clear he2
  go_enter Tryz.func63, Tryz.ntmps63
  go_wp2_with fail
  refine (n1.out _ bel).mono ?_
  rintro e w1 ⟨rfl, h1⟩
  have hB1 : Below w.heap.size w w1 := Below.on h1 bel
  have K1 := Lib.hid (K0.out.below h1)
  clear h1 n1
  (obtain ⟨k1, f1, l1, m1⟩ := rl_ K1)
  go_wp2_with fail
  refine (n2.out _ hB1).mono ?_
  rintro e w2 ⟨rfl, h2⟩
  have hB2 := Below.on h2 hB1
  have K2 := Lib.hid (K1.out.below h2)
  clear h2 hB1 n2 k1 f1 l1 m1 K1
  (obtain ⟨k2, f2, l2, m2⟩ := rl_ K2)
  go_wp2_with fail
  go_ret
  exact ⟨rfl, hB2⟩
 | true =>
  rw [h1, if_pos rfl] at n1
  cases h2 : exOk l.x with
  | false =>
   rw [h2, if_neg (by simp)] at n2
   replace n1 := Lib.hid n1
   replace n2 := Lib.hid n2
   replace n3 := Lib.hid n3
   rw [show holdsP l = false by rw [h5.out _ _ _ h1 h2 rfl]; rfl]
   clear h1 h2 h5 hl
   go_enter Tryz.func63, Tryz.ntmps63
   go_wp2_with fail
   refine (n1.out _ bel).mono ?_
   rintro e w1 ⟨rfl, h1⟩
   have hB1 : Below w.heap.size w w1 := Below.on h1 bel
   have K1 := Lib.hid (K0.out.below h1)
   clear h1 n1
   (obtain ⟨k1, f1, l1, m1⟩ := rl_ K1)
   go_wp2_with fail
   refine (n2.out _ hB1).mono ?_
   rintro e w2 ⟨rfl, h2⟩
   have hB2 := Below.on h2 hB1
   have K2 := Lib.hid (K1.out.below h2)
   clear h2 hB1 n2 k1 f1 l1 m1 K1
   (obtain ⟨k2, f2, l2, m2⟩ := rl_ K2)
   go_wp2_with fail
   go_ret
   exact ⟨rfl, hB2⟩
  | true =>
   rw [h2, if_pos rfl] at n2
   replace n1 := Lib.hid n1
   replace n2 := Lib.hid n2
   replace n3 := Lib.hid n3
   by_cases h3 : l.br.l.length = 2
   ·have e3 : ((l.br.l.length : Int) == 2) = true := by rw [h3]; rfl
    rw [show holdsP l = r4 by rw [h5.out _ _ _ h1 h2 (decide_eq_true h3)]; rfl]
    clear h1 h2 h3 h5 hl
    go_enter Tryz.func63, Tryz.ntmps63
    go_wp2_with fail
    refine (n1.out _ bel).mono ?_
    rintro e w1 ⟨rfl, h1⟩
    have hB1 : Below w.heap.size w w1 := Below.on h1 bel
    have K1 := Lib.hid (K0.out.below h1)
    clear h1 n1
    (obtain ⟨k1, f1, l1, m1⟩ := rl_ K1)
    go_wp2_with fail
    refine (n2.out _ hB1).mono ?_
    rintro e w2 ⟨rfl, h2⟩
    have hB2 := Below.on h2 hB1
    have K2 := Lib.hid (K1.out.below h2)
    clear h2 hB1 n2 k1 f1 l1 m1 K1
    (obtain ⟨k2, f2, l2, m2⟩ := rl_ K2)
    go_wp2_with fail
    refine (n3.out _ hB2).mono ?_
    rintro e w3 ⟨rfl, h3⟩
    go_wp2_with fail
    go_ret
    exact ⟨rfl, Below.on h3 hB2⟩
   ·have e3 : ((l.br.l.length : Int) == 2) = false := by simp; omega
    rw [show holdsP l = false by rw [h5.out _ _ _ h1 h2 (decide_eq_false h3)]; rfl]
    clear h1 h2 h3 h5 hl
    go_enter Tryz.func63, Tryz.ntmps63
    go_wp2_with fail
    refine (n1.out _ bel).mono ?_
    rintro e w1 ⟨rfl, h1⟩
    have hB1 : Below w.heap.size w w1 := Below.on h1 bel
    have K1 := Lib.hid (K0.out.below h1)
    clear h1 n1
    (obtain ⟨k1, f1, l1, m1⟩ := rl_ K1)
    go_wp2_with fail
    refine (n2.out _ hB1).mono ?_
    rintro e w2 ⟨rfl, h2⟩
    have hB2 := Below.on h2 hB1
    have K2 := Lib.hid (K1.out.below h2)
    clear h2 hB1 n2 k1 f1 l1 m1 K1
    (obtain ⟨k2, f2, l2, m2⟩ := rl_ K2)
    go_wp2_with fail
    go_ret
    exact ⟨rfl, hB2⟩
theorem rperiod_q (n : Nat) (hn : n < 18446744073709551616) (w : World) : Calls Tryz.prog 66 #[.int .u64 n] w (fun e w' => e = .returned (.int .u64 (period n : Nat)) ∧ w = w') := by
 have p := wrap_period n hn
 go_enter Tryz.func66, Tryz.ntmps66
 go_wp2_with fail
 go_ret
 exact ⟨rfl, rfl⟩
theorem rknown_calls (c : Cm) (w : World) : Calls Tryz.prog 84 #[cmV c] w (Ret w (.bool (knownP c))) := by
 go_enter Tryz.func84, Tryz.ntmps84
 go_wp2_with fail
 go_ret
 exact ⟨rfl, bel⟩
theorem rhasNext_calls (u : Up) (w : World) : Calls Tryz.prog 85 #[upV u] w (Ret w (.bool (hasNextP u))) := by
 have n1 := fun W => rknown_calls u.next W
 unfold hasNextP
 generalize knownP u.next = r at *
 replace n1 := Lib.hid n1
 have K0 := Lib.hid (Blk.new0 w 33 (upA u))
 go_enter Tryz.func85, Tryz.ntmps85
 go_wp2_with fail
 refine (n1.out _).mono ?_
 rintro e w1 ⟨rfl, h1⟩
 have K1 := Lib.hid (K0.out.below h1)
 have hB : Below w.heap.size w w1 := Below.on h1 bel
 clear h1
 (obtain ⟨k1, f1, l1, m1⟩ := rl_ K1)
 cases r
 all_goals
  go_wp2_with fail
  go_ret
  exact ⟨rfl, hB⟩
theorem lrowsame (A B : Option Addr) (c d : Nat) (L M : List Bytes) (hL : L.length ≤ 1048576) (hM : M.length ≤ 1048576) (w : World) (h1 : Txts w A L) (h2 : Txts w B M) :
  Calls Tryz.prog 86 #[.slice A L.length c, .slice B M.length d] w (Ret w (.bool (L == M))) := by
 rw [show (L == M) = decide (L = M) by rw [Bool.eq_iff_iff]; simp]
 exact same_calls A B c d L M (by omega) (by omega) w h1 h2
theorem rsameLt_calls (a b : Lt) (w : World) (ha : LtIn w a) (hb : LtIn w b) : Calls Tryz.prog 31 #[ltV a, ltV b] w (Ret w (.bool (sameLt a b))) := by
 have n1 := fun W (hB : Below w.heap.size w W) => lrowsame a.br.addr b.br.addr a.br.cap b.br.cap a.br.l b.br.l ha.2.2.2.2.1 hb.2.2.2.2.1 W (Txts.below ha.2.2.1 hB) (Txts.below hb.2.2.1 hB)
 have e1 := eqHd_run a.b b.b
 have e2 := eqEx_run a.x b.x
 unfold sameLt
 generalize eqHd a.b b.b = r1 at *
 generalize eqEx a.x b.x = r2 at *
 generalize (a.br.l == b.br.l) = r3 at *
 replace n1 := Lib.hid n1
 clear ha hb
 cases r1
 ·go_enter Tryz.func31, Tryz.ntmps31
  go_wp2_with fail
  go_ret
  exact ⟨rfl, bel⟩
 ·cases r2
  ·go_enter Tryz.func31, Tryz.ntmps31
   go_wp2_with fail
   go_ret
   exact ⟨rfl, bel⟩
  ·go_enter Tryz.func31, Tryz.ntmps31
   go_wp2_with fail
   refine (n1.out _ bel).mono ?_
   rintro e w1 ⟨rfl, h1⟩
   go_wp2_with fail
   go_ret
   exact ⟨rfl, Below.on h1 bel⟩
theorem rsameCm_calls (a b : Cm) (w : World) (ha : CmIn w a) (hb : CmIn w b) : Calls Tryz.prog 38 #[cmV a, cmV b] w (Ret w (.bool (sameCm a b))) := by
 have n1 := fun W (hB : Below w.heap.size w W) => lrowsame a.ks.addr b.ks.addr a.ks.cap b.ks.cap a.ks.l b.ks.l ha.1.2.2.1 hb.1.2.2.1 W (Txts.below ha.1.1 hB) (Txts.below hb.1.1 hB)
 unfold sameCm
 generalize (a.ks.l == b.ks.l) = r at *
 replace n1 := Lib.hid n1
 clear ha hb
 by_cases he : a.sum = b.sum
 ·have e1 : (a.sum == b.sum) = true := by simpa using he
  rw [e1]
  go_enter Tryz.func38, Tryz.ntmps38
  go_wp2_with fail
  refine (n1.out _ bel).mono ?_
  rintro e w1 ⟨rfl, h1⟩
  go_wp2_with fail
  go_ret
  exact ⟨rfl, Below.on h1 bel⟩
 ·have e1 : (a.sum == b.sum) = false := by simpa using he
  rw [e1]
  go_enter Tryz.func38, Tryz.ntmps38
  go_wp2_with fail
  go_ret
  exact ⟨rfl, bel⟩
theorem same_zero (l : Lt) : sameLt l Lt.zero = emptyP l := by
 unfold sameLt emptyP
 congr 2
 rw [Bool.eq_iff_iff]
 show (l.br.l == []) = true ↔ _
 simp
theorem risFinal_calls (u : Up) (w : World) (hu : LtIn w u.fin) : Calls Tryz.prog 77 #[upV u] w (Ret w (.bool (isFinalP u))) := by
 have n1 := fun W (hB : Below w.heap.size w W) => rsameLt_calls u.fin Lt.zero W (hu.below hB) (LtIn.zero W)
 rw [same_zero] at n1
 unfold isFinalP
 generalize emptyP u.fin = r at *
 replace n1 := Lib.hid n1
 have K0 := Blk.new0 w 33 (upA u)
 clear hu
 by_cases h0 : 0 < u.fb.l.length
 ·go_enter Tryz.func77, Tryz.ntmps77
  go_wp2_with fail
  go_ret
  exact ⟨by simp [h0], bel⟩
 ·go_enter Tryz.func77, Tryz.ntmps77
  go_wp2_with fail
  refine (n1.out _ bel).mono ?_
  rintro e w1 ⟨rfl, h1⟩
  go_wp2_with fail
  go_ret
  exact ⟨by simp [h0], Below.on h1 bel⟩
theorem runder_calls (root : Bytes) (br : Rw) (leaf : Nat) (state : Bytes) (w : World) (hr : root.length ≤ 1048576) (hs : state.length ≤ 1048576) (hl : leaf < 18446744073709551616) (hb : RwIn w br) :
  Calls Tryz.prog 71 #[.string (bs root), rwV br, .int .u64 leaf, .string (bs state)] w (Ret w (.bool (underP root br.l leaf state))) := by
 have n1 := rcheck_calls root br.addr br.cap br.l leaf state (by omega) (by omega) (by have := hb.2.2.1; omega) hl (fun y hy => by have := hb.2.2.2 y hy; omega) w hb.1
 unfold underP
 unfold rwV
 generalize decide (CheckP root br.l leaf state) = r at *
 by_cases he : br.l.length = 3
 ·have e1 : ((br.l.length : Int) == 3) = true := by rw [he]; rfl
  rw [decide_eq_true he]
  replace n1 := Lib.hid n1
  clear he hb
  go_enter Tryz.func71, Tryz.ntmps71
  go_wp2_with fail
  refine n1.out.mono ?_
  rintro e w1 ⟨rfl, h1⟩
  go_wp2_with fail
  go_ret
  exact ⟨rfl, h1⟩
 ·have e1 : ((br.l.length : Int) == 3) = false := by simp; omega
  rw [decide_eq_false he]
  replace n1 := Lib.hid n1
  clear he hb
  go_enter Tryz.func71, Tryz.ntmps71
  go_wp2_with fail
  go_ret
  exact ⟨rfl, Below.refl _ _⟩
def onesK (n k : Nat) : Nat := ((List.range k).filter fun i => n.testBit i).length
theorem onesK_succ (n k : Nat) : onesK n (k + 1) = onesK n k + if n / 2 ^ k % 2 = 1 then 1 else 0 := by
 unfold onesK
 rw [List.range_succ, List.filter_append, List.length_append]
 congr 1
 rw [List.filter_cons, Nat.testBit_eq_decide_div_mod_eq]
 split <;> simp_all
theorem onesK_le (n k : Nat) : onesK n k ≤ k := Nat.le_trans (List.length_filter_le _ _) (by simp)
theorem rsigners_calls (n : Nat) (hn : n < 18446744073709551616) (w : World) : Calls Tryz.prog 62 #[.int .u64 n] w (fun e w' => e = .returned (.int .i64 (onesP n : Nat)) ∧ w = w') := by
 rw [show onesP n = onesK n 16 from rfl]
 go_enter Tryz.func62, Tryz.ntmps62
 go_wp2_with fail
 go_loop [3, 4] (fun c i => ∃ k : Nat, k ≤ 16 ∧ i = .int .i64 k ∧ c = .int .i64 (onesK n k : Nat)) (fun _ i => (16 - intOf i).toNat)
 case atStart => exact ⟨0, by omega, rfl, rfl⟩
 case round =>
  obtain ⟨k, hk, rfl, rfl⟩ := hrel
  by_cases hlt : k < 16
  ·have hsh : (n : Int) / 2 ^ k = ((n / 2 ^ k : Nat) : Int) := by simp
   have hm : n / 2 ^ k < 18446744073709551616 := Nat.lt_of_le_of_lt (Nat.div_le_self _ _) hn
   have hst := onesK_succ n k
   have hle := onesK_le n k
   generalize n / 2 ^ k = m at *
   have hand := and_one m hm
   obtain ⟨c, hc⟩ : ∃ c, onesK n k = c := ⟨_, rfl⟩
   rw [hc] at hst hle ⊢
   replace hc := Lib.hid hc
   rcases Nat.mod_two_eq_zero_or_one m with hm2 | hm2
   ·rw [hm2] at hand hst
    rw [if_neg (by omega), Nat.add_zero] at hst
    replace hst := Lib.hid hst
    clear hm2
    go_wp2_with fail
    go_round
    case rel => exact ⟨k + 1, by omega, by go_num, by rw [hst.out]; rfl⟩
    case measure => simp [intOf]; omega
   ·rw [hm2] at hand hst
    rw [if_pos rfl] at hst
    replace hst := Lib.hid hst
    clear hm2
    go_wp2_with fail
    go_round
    case rel => exact ⟨k + 1, by omega, by go_num, by rw [hst.out]; go_num⟩
    case measure => simp [intOf]; omega
  ·obtain rfl : k = 16 := by omega
   go_wp2_with fail
   go_ret
   exact ⟨rfl, rfl⟩
theorem r3 (n : Nat) : IntKind.i64.wrap (3 * ((onesP n : Nat) : Int)) = 3 * ((onesP n : Nat) : Int) := mul3 n
theorem rtwo_calls (u : Up) (hb : u.bits < 18446744073709551616) (w : World) : Calls Tryz.prog 75 #[upV u] w (Ret w (.bool (twoP u))) := by
 have n1 := fun W => rsigners_calls u.bits hb W
 have q := mul3 u.bits
 have q2 := two_dec u
 replace n1 := Lib.hid n1
 go_enter Tryz.func75, Tryz.ntmps75
 go_wp2_with fail
 refine (n1.out _).mono ?_
 rintro e w1 ⟨rfl, rfl⟩
 go_wp2_with fail
 go_ret
 exact ⟨by simp [← q2], bel⟩
theorem rlgtake_calls (s : Sr) (u : Up) (h1 : s.fin.b.slot < 18446744073709551616) (h2 : u.fin.b.slot < 18446744073709551616) (w : World) : Calls Tryz.prog 68 #[srV s, upV u] w (Ret w (srV (takeP s u))) := by
 have ht1 : ∀ r b : Bool, knownP s.next = r → decide (period s.fin.b.slot = period u.fin.b.slot) = b → r = false → takeP1 s u = if b then { s with next := u.next } else s := fun r b e1 e2 e3 => by
  unfold takeP1
  rw [e1, e3, ← e2]
  simp
 have ht2 : ∀ r b : Bool, knownP s.next = r → decide (period s.fin.b.slot + 1 = period u.fin.b.slot) = b → r = true → takeP1 s u = if b then { s with now := s.next, next := u.next, last := s.this, this := 0 } else s := fun r b e1 e2 e3 => by
  unfold takeP1
  rw [e1, e3, ← e2]
  simp
 have hpl : period s.fin.b.slot < 18446744073709551615 := by unfold period; omega
 have hfin := take1_fin s u
 have hnew := take1_new s u
 obtain ⟨t, ht⟩ : ∃ t, takeP1 s u = t := ⟨_, rfl⟩
 have hfinal : takeP s u = takeP2 t u := by unfold takeP; rw [ht]
 rw [ht] at ht1 ht2 hfin hnew
 replace hfinal := Lib.hid hfinal
 replace ht := Lib.hid ht
 replace hfin := Lib.hid hfin
 replace hnew := Lib.hid hnew
 go_enter Tryz.func68, Tryz.ntmps68
 go_wp2_with fail
 have HB : Below w.heap.size w (((w.alloc (.cells (srA s) 35)).alloc (.cells (upA u) 33)).alloc (.cells (srA Sr.zero) 35)) := bel
 have K0 := ((Blk.new0 w 35 (srA s)).alloc (.cells (upA u) 33)).alloc (.cells (srA Sr.zero) 35)
 have K1 := (Blk.new1 w (.cells (srA s) 35) 33 (upA u)).alloc (.cells (srA Sr.zero) 35)
 have K2 := Blk.new2 w (.cells (srA s) 35) (.cells (upA u) 33) 35 (srA Sr.zero)
 obtain ⟨W, hW⟩ : ∃ W, (((w.alloc (.cells (srA s) 35)).alloc (.cells (upA u) 33)).alloc (.cells (srA Sr.zero) 35)) = W := ⟨_, rfl⟩
 rw [hW] at HB K0 K1 K2 ⊢
 clear hW
 have hgl : w.heap.size ≤ w.heap.size := Nat.le_refl _
 obtain ⟨g, hg⟩ : ∃ g, w.heap.size = g := ⟨_, rfl⟩
 rw [hg] at K0 K1 K2 ⊢
 replace hgl : w.heap.size ≤ g := by omega
 replace K0 := Lib.hid K0
 replace K1 := Lib.hid K1
 replace K2 := Lib.hid K2
 clear hg
 have n1 := fun W => rperiod_q s.fin.b.slot h1 W
 have n2 := fun W => rperiod_q u.fin.b.slot h2 W
 (obtain ⟨k0, f0, l0, m0⟩ := rl_ K0; obtain ⟨k1, f1, l1, m1⟩ := rl_ K1; obtain ⟨k2, f2, l2, m2⟩ := rl_ K2)
 generalize period s.fin.b.slot = p1 at *
 generalize period u.fin.b.slot = p2 at *
 replace n1 := Lib.hid n1
 replace n2 := Lib.hid n2
 replace ht1 := Lib.hid ht1
 replace ht2 := Lib.hid ht2
 go_wp2_with fail
 refine (n1.out _).mono ?_
 rintro e w' ⟨rfl, rfl⟩
 go_wp2_with fail
 refine (n2.out _).mono ?_
 rintro e w' ⟨rfl, rfl⟩
 have n3 := fun W => rknown_calls s.next W
 obtain ⟨r, hr⟩ : ∃ r, knownP s.next = r := ⟨_, rfl⟩
 have ht3 := Lib.hid (ht1.out r _ hr rfl)
 have ht4 := Lib.hid (ht2.out r _ hr rfl)
 rw [hr] at n3
 clear ht1 ht2 hr
 replace n3 := Lib.hid n3
 have hu := h2
 clear h1 h2
 go_upto_region 3 with fail
 go_wp2_with fail
 (refine (n3.out _).mono ?_; rintro e w2 ⟨rfl, hN⟩; replace K0 := hn_ K0 hN; replace K1 := hn_ K1 hN; replace K2 := hn_ K2 hN; replace HB : Below w.heap.size w w2 := Below.on hN HB; clear hN k0 f0 l0 m0 k1 f1 l1 m1 k2 f2 l2 m2; obtain ⟨k0, f0, l0, m0⟩ := rl_ K0; obtain ⟨k1, f1, l1, m1⟩ := rl_ K1; obtain ⟨k2, f2, l2, m2⟩ := rl_ K2)
 go_upto_if 20 with fail
 go_cut [] (fun wx => TkW w g t u wx)
 case first =>
  cases r with
  | false =>
   have ht5 := ht3.out rfl
   clear ht3 ht4
   by_cases he : p1 = p2
   ·subst he
    rw [decide_eq_true rfl, if_pos rfl] at ht5
    replace ht5 := Lib.hid ht5
    (go_wp2_with (first | (with_reducible refine wsh (stSr_next _ K0.out (u.next)) rfl rfl ?_)); generalize hWN : setRow _ _ _ _ = WN; replace K0 := Lib.hid (show Blk WN _ _ _ by rw [← hWN]; exact Blk.row K0.out.lt); replace K1 := Lib.hid (show Blk WN _ _ _ by rw [← hWN]; exact Blk.rowOver (by omega) K1.out); replace K2 := Lib.hid (show Blk WN _ _ _ by rw [← hWN]; exact Blk.rowOver (by omega) K2.out); replace HB : Below w.heap.size w WN := (by rw [← hWN]; exact Below.row HB (by omega) HB.size); clear hWN k0 f0 l0 m0 k1 f1 l1 m1 k2 f2 l2 m2; obtain ⟨k0, f0, l0, m0⟩ := rl_ K0; obtain ⟨k1, f1, l1, m1⟩ := rl_ K1; obtain ⟨k2, f2, l2, m2⟩ := rl_ K2; unfold Halted)
    go_wp2_with fail
    go_meet
    case rel => exact TkW.mk ht5.out.symm K0.out K1.out K2.out HB
   ·rw [decide_eq_false he, if_neg (by simp)] at ht5
    replace ht5 := Lib.hid ht5
    have he2 : ((p2 : Int) == (p1 : Int)) = false := by simp; omega
    clear he
    go_wp2_with fail
    go_meet
    case rel => exact TkW.mk ht5.out.symm K0.out K1.out K2.out HB
  | true =>
   have ht5 := ht4.out rfl
   clear ht3 ht4
   by_cases he : p1 + 1 = p2
   ·subst he
    rw [decide_eq_true rfl, if_pos rfl] at ht5
    replace ht5 := Lib.hid ht5
    (go_wp2_with (first | (with_reducible refine wsh (stSr_now _ K0.out (s.next)) rfl rfl ?_)); generalize hWN : setRow _ _ _ _ = WN; replace K0 := Lib.hid (show Blk WN _ _ _ by rw [← hWN]; exact Blk.row K0.out.lt); replace K1 := Lib.hid (show Blk WN _ _ _ by rw [← hWN]; exact Blk.rowOver (by omega) K1.out); replace K2 := Lib.hid (show Blk WN _ _ _ by rw [← hWN]; exact Blk.rowOver (by omega) K2.out); replace HB : Below w.heap.size w WN := (by rw [← hWN]; exact Below.row HB (by omega) HB.size); clear hWN k0 f0 l0 m0 k1 f1 l1 m1 k2 f2 l2 m2; obtain ⟨k0, f0, l0, m0⟩ := rl_ K0; obtain ⟨k1, f1, l1, m1⟩ := rl_ K1; obtain ⟨k2, f2, l2, m2⟩ := rl_ K2; unfold Halted)
    (go_wp2_with (first | (with_reducible refine wsh (stSr_next _ K0.out (u.next)) rfl rfl ?_)); generalize hWN : setRow _ _ _ _ = WN; replace K0 := Lib.hid (show Blk WN _ _ _ by rw [← hWN]; exact Blk.row K0.out.lt); replace K1 := Lib.hid (show Blk WN _ _ _ by rw [← hWN]; exact Blk.rowOver (by omega) K1.out); replace K2 := Lib.hid (show Blk WN _ _ _ by rw [← hWN]; exact Blk.rowOver (by omega) K2.out); replace HB : Below w.heap.size w WN := (by rw [← hWN]; exact Below.row HB (by omega) HB.size); clear hWN k0 f0 l0 m0 k1 f1 l1 m1 k2 f2 l2 m2; obtain ⟨k0, f0, l0, m0⟩ := rl_ K0; obtain ⟨k1, f1, l1, m1⟩ := rl_ K1; obtain ⟨k2, f2, l2, m2⟩ := rl_ K2; unfold Halted)
    (go_wp2_with (first | (with_reducible refine wsh (stcSr_last _ K0.out (s.this)) rfl rfl ?_)); generalize hWN : setRow _ _ _ _ = WN; replace K0 := Lib.hid (show Blk WN _ _ _ by rw [← hWN]; exact Blk.row K0.out.lt); replace K1 := Lib.hid (show Blk WN _ _ _ by rw [← hWN]; exact Blk.rowOver (by omega) K1.out); replace K2 := Lib.hid (show Blk WN _ _ _ by rw [← hWN]; exact Blk.rowOver (by omega) K2.out); replace HB : Below w.heap.size w WN := (by rw [← hWN]; exact Below.row HB (by omega) HB.size); clear hWN k0 f0 l0 m0 k1 f1 l1 m1 k2 f2 l2 m2; obtain ⟨k0, f0, l0, m0⟩ := rl_ K0; obtain ⟨k1, f1, l1, m1⟩ := rl_ K1; obtain ⟨k2, f2, l2, m2⟩ := rl_ K2; unfold Halted)
    (go_wp2_with (first | (with_reducible refine wsh (stcSr_this _ K0.out (0)) rfl rfl ?_)); generalize hWN : setRow _ _ _ _ = WN; replace K0 := Lib.hid (show Blk WN _ _ _ by rw [← hWN]; exact Blk.row K0.out.lt); replace K1 := Lib.hid (show Blk WN _ _ _ by rw [← hWN]; exact Blk.rowOver (by omega) K1.out); replace K2 := Lib.hid (show Blk WN _ _ _ by rw [← hWN]; exact Blk.rowOver (by omega) K2.out); replace HB : Below w.heap.size w WN := (by rw [← hWN]; exact Below.row HB (by omega) HB.size); clear hWN k0 f0 l0 m0 k1 f1 l1 m1 k2 f2 l2 m2; obtain ⟨k0, f0, l0, m0⟩ := rl_ K0; obtain ⟨k1, f1, l1, m1⟩ := rl_ K1; obtain ⟨k2, f2, l2, m2⟩ := rl_ K2; unfold Halted)
    go_wp2_with fail
    go_meet
    case rel => exact TkW.mk ht5.out.symm K0.out K1.out K2.out HB
   ·rw [decide_eq_false he, if_neg (by simp)] at ht5
    replace ht5 := Lib.hid ht5
    have he2 : ((p2 : Int) == (p1 : Int) + 1) = false := by simp; omega
    clear he
    go_wp2_with fail
    go_meet
    case rel => exact TkW.mk ht5.out.symm K0.out K1.out K2.out HB
 case rest =>
  obtain ⟨j0, j1, j2, HBn⟩ := hcut
  replace j0 := Lib.hid j0
  replace j1 := Lib.hid j1
  replace j2 := Lib.hid j2
  clear k0 f0 l0 m0 k1 f1 l1 m1 k2 f2 l2 m2 K0 K1 K2 HB n3 ht3 ht4
  have K0 := j0; have K1 := j1; have K2 := j2; have HB := HBn
  clear j0 j1 j2 HBn
  (obtain ⟨k0, f0, l0, m0⟩ := rl_ K0; obtain ⟨k1, f1, l1, m1⟩ := rl_ K1; obtain ⟨k2, f2, l2, m2⟩ := rl_ K2)
  by_cases hf : t.fin.b.slot < u.fin.b.slot
  ·have hf2 : (t.fin.b.slot : Int) < (u.fin.b.slot : Int) := by omega
   by_cases hn : t.new.b.slot < u.fin.b.slot
   ·have e2 := Lib.hid (show takeP2 t u = { t with fin := u.fin, new := u.fin } by unfold takeP2; rw [if_pos hf, if_pos hn])
    have hn2 : (t.new.b.slot : Int) < (u.fin.b.slot : Int) := by omega
    clear hf hn
    (go_wp2_with (first | (with_reducible refine wsh (stSr_fin _ K0.out (u.fin)) rfl rfl ?_)); generalize hWN : setRow _ _ _ _ = WN; replace K0 := Lib.hid (show Blk WN _ _ _ by rw [← hWN]; exact Blk.row K0.out.lt); replace K1 := Lib.hid (show Blk WN _ _ _ by rw [← hWN]; exact Blk.rowOver (by omega) K1.out); replace K2 := Lib.hid (show Blk WN _ _ _ by rw [← hWN]; exact Blk.rowOver (by omega) K2.out); replace HB : Below w.heap.size w WN := (by rw [← hWN]; exact Below.row HB (by omega) HB.size); clear hWN k0 f0 l0 m0 k1 f1 l1 m1 k2 f2 l2 m2; obtain ⟨k0, f0, l0, m0⟩ := rl_ K0; obtain ⟨k1, f1, l1, m1⟩ := rl_ K1; obtain ⟨k2, f2, l2, m2⟩ := rl_ K2; unfold Halted)
    (go_wp2_with (first | (with_reducible refine wsh (stSr_new _ K0.out (u.fin)) rfl rfl ?_)); generalize hWN : setRow _ _ _ _ = WN; replace K0 := Lib.hid (show Blk WN _ _ _ by rw [← hWN]; exact Blk.row K0.out.lt); replace K1 := Lib.hid (show Blk WN _ _ _ by rw [← hWN]; exact Blk.rowOver (by omega) K1.out); replace K2 := Lib.hid (show Blk WN _ _ _ by rw [← hWN]; exact Blk.rowOver (by omega) K2.out); replace HB : Below w.heap.size w WN := (by rw [← hWN]; exact Below.row HB (by omega) HB.size); clear hWN k0 f0 l0 m0 k1 f1 l1 m1 k2 f2 l2 m2; obtain ⟨k0, f0, l0, m0⟩ := rl_ K0; obtain ⟨k1, f1, l1, m1⟩ := rl_ K1; obtain ⟨k2, f2, l2, m2⟩ := rl_ K2; unfold Halted)
    (go_wp2_with (first | (with_reducible refine wlr (ldSr _ K0.out) rfl ?_) | (with_reducible refine wlg (ldSr _ K0.out) (by with_unfolding_all rfl) rfl ?_) | (with_reducible refine wsh (stSr _ K2.out ({ t with fin := u.fin, new := u.fin })) rfl rfl ?_)); generalize hWN : setRow _ _ _ _ = WN; replace K2 := Lib.hid (show Blk WN _ _ _ by rw [← hWN]; exact Blk.row K2.out.lt); replace K0 := Lib.hid (show Blk WN _ _ _ by rw [← hWN]; exact Blk.rowOver (by omega) K0.out); replace K1 := Lib.hid (show Blk WN _ _ _ by rw [← hWN]; exact Blk.rowOver (by omega) K1.out); replace HB : Below w.heap.size w WN := (by rw [← hWN]; exact Below.row HB (by omega) HB.size); clear hWN k2 f2 l2 m2 k0 f0 l0 m0 k1 f1 l1 m1; obtain ⟨k2, f2, l2, m2⟩ := rl_ K2; obtain ⟨k0, f0, l0, m0⟩ := rl_ K0; obtain ⟨k1, f1, l1, m1⟩ := rl_ K1; unfold Halted)
    go_wp2_with fail
    exact bodyPost_ret (results_cell rfl rfl (ldSr _ K2.out)) rfl ⟨by rw [hfinal.out, e2.out], HB⟩
   ·have e2 := Lib.hid (show takeP2 t u = { t with fin := u.fin } by unfold takeP2; rw [if_pos hf, if_neg hn])
    have hn2 : ¬ (t.new.b.slot : Int) < (u.fin.b.slot : Int) := by omega
    clear hf hn
    (go_wp2_with (first | (with_reducible refine wsh (stSr_fin _ K0.out (u.fin)) rfl rfl ?_)); generalize hWN : setRow _ _ _ _ = WN; replace K0 := Lib.hid (show Blk WN _ _ _ by rw [← hWN]; exact Blk.row K0.out.lt); replace K1 := Lib.hid (show Blk WN _ _ _ by rw [← hWN]; exact Blk.rowOver (by omega) K1.out); replace K2 := Lib.hid (show Blk WN _ _ _ by rw [← hWN]; exact Blk.rowOver (by omega) K2.out); replace HB : Below w.heap.size w WN := (by rw [← hWN]; exact Below.row HB (by omega) HB.size); clear hWN k0 f0 l0 m0 k1 f1 l1 m1 k2 f2 l2 m2; obtain ⟨k0, f0, l0, m0⟩ := rl_ K0; obtain ⟨k1, f1, l1, m1⟩ := rl_ K1; obtain ⟨k2, f2, l2, m2⟩ := rl_ K2; unfold Halted)
    (go_wp2_with (first | (with_reducible refine wlr (ldSr _ K0.out) rfl ?_) | (with_reducible refine wlg (ldSr _ K0.out) (by with_unfolding_all rfl) rfl ?_) | (with_reducible refine wsh (stSr _ K2.out ({ t with fin := u.fin })) rfl rfl ?_)); generalize hWN : setRow _ _ _ _ = WN; replace K2 := Lib.hid (show Blk WN _ _ _ by rw [← hWN]; exact Blk.row K2.out.lt); replace K0 := Lib.hid (show Blk WN _ _ _ by rw [← hWN]; exact Blk.rowOver (by omega) K0.out); replace K1 := Lib.hid (show Blk WN _ _ _ by rw [← hWN]; exact Blk.rowOver (by omega) K1.out); replace HB : Below w.heap.size w WN := (by rw [← hWN]; exact Below.row HB (by omega) HB.size); clear hWN k2 f2 l2 m2 k0 f0 l0 m0 k1 f1 l1 m1; obtain ⟨k2, f2, l2, m2⟩ := rl_ K2; obtain ⟨k0, f0, l0, m0⟩ := rl_ K0; obtain ⟨k1, f1, l1, m1⟩ := rl_ K1; unfold Halted)
    go_wp2_with fail
    exact bodyPost_ret (results_cell rfl rfl (ldSr _ K2.out)) rfl ⟨by rw [hfinal.out, e2.out], HB⟩
  ·have hf2 : ¬ (t.fin.b.slot : Int) < (u.fin.b.slot : Int) := by omega
   have e2 := Lib.hid (show takeP2 t u = t by unfold takeP2; rw [if_neg hf])
   clear hf
   (go_wp2_with (first | (with_reducible refine wlr (ldSr _ K0.out) rfl ?_) | (with_reducible refine wlg (ldSr _ K0.out) (by with_unfolding_all rfl) rfl ?_) | (with_reducible refine wsh (stSr _ K2.out (t)) rfl rfl ?_)); generalize hWN : setRow _ _ _ _ = WN; replace K2 := Lib.hid (show Blk WN _ _ _ by rw [← hWN]; exact Blk.row K2.out.lt); replace K0 := Lib.hid (show Blk WN _ _ _ by rw [← hWN]; exact Blk.rowOver (by omega) K0.out); replace K1 := Lib.hid (show Blk WN _ _ _ by rw [← hWN]; exact Blk.rowOver (by omega) K1.out); replace HB : Below w.heap.size w WN := (by rw [← hWN]; exact Below.row HB (by omega) HB.size); clear hWN k2 f2 l2 m2 k0 f0 l0 m0 k1 f1 l1 m1; obtain ⟨k2, f2, l2, m2⟩ := rl_ K2; obtain ⟨k0, f0, l0, m0⟩ := rl_ K0; obtain ⟨k1, f1, l1, m1⟩ := rl_ K1; unfold Halted)
   go_wp2_with fail
   exact bodyPost_ret (results_cell rfl rfl (ldSr _ K2.out)) rfl ⟨by rw [hfinal.out, e2.out], HB⟩
theorem rsameUp_calls (a b : Up) (w : World) (ha : UpIn w a) (hb : UpIn w b) : Calls Tryz.prog 49 #[upV a, upV b] w (Ret w (.bool (sameUp a b))) := by
 have n1 := fun W (hB : Below w.heap.size w W) => rsameLt_calls a.seen b.seen W (ha.1.below hB) (hb.1.below hB)
 have n2 := fun W (hB : Below w.heap.size w W) => rsameLt_calls a.fin b.fin W (ha.2.2.2.1.below hB) (hb.2.2.2.1.below hB)
 have n3 := fun W (hB : Below w.heap.size w W) => rsameCm_calls a.next b.next W (ha.2.1.below hB) (hb.2.1.below hB)
 have n4 := fun W (hB : Below w.heap.size w W) => lrowsame a.nb.addr b.nb.addr a.nb.cap b.nb.cap a.nb.l b.nb.l ha.2.2.1.2.2.1 hb.2.2.1.2.2.1 W (Txts.below ha.2.2.1.1 hB) (Txts.below hb.2.2.1.1 hB)
 have n5 := fun W (hB : Below w.heap.size w W) => lrowsame a.fb.addr b.fb.addr a.fb.cap b.fb.cap a.fb.l b.fb.l ha.2.2.2.2.1.2.2.1 hb.2.2.2.2.1.2.2.1 W (Txts.below ha.2.2.2.2.1.1 hB) (Txts.below hb.2.2.2.2.1.1 hB)
 have hE : sameUp a b = (sameLt a.seen b.seen && (sameLt a.fin b.fin && (sameCm a.next b.next && (a.nb.l == b.nb.l && (a.fb.l == b.fb.l && (a.bits == b.bits && (a.sig == b.sig && a.slot == b.slot))))))) := rfl
 rw [hE]
 clear hE
 have e6 : ((a.bits : Int) == (b.bits : Int)) = (a.bits == b.bits) := by rw [Bool.eq_iff_iff]; simp; omega
 have e8 : ((a.slot : Int) == (b.slot : Int)) = (a.slot == b.slot) := by rw [Bool.eq_iff_iff]; simp; omega
 generalize sameLt a.seen b.seen = r1 at *
 generalize sameLt a.fin b.fin = r2 at *
 generalize sameCm a.next b.next = r3 at *
 generalize (a.nb.l == b.nb.l) = r4 at *
 generalize (a.fb.l == b.fb.l) = r5 at *
 generalize (a.bits == b.bits) = r6 at *
 obtain ⟨r7, e7⟩ : ∃ r7, (a.sig == b.sig) = r7 := ⟨_, rfl⟩
 rw [e7]
 generalize (a.slot == b.slot) = r8 at *
 replace n1 := Lib.hid n1
 replace n2 := Lib.hid n2
 replace n3 := Lib.hid n3
 replace n4 := Lib.hid n4
 replace n5 := Lib.hid n5
 clear ha hb
 go_enter Tryz.func49, Tryz.ntmps49
 go_upto_region 1 with fail
 have HB : Below w.heap.size w ((w.alloc (.cells (upA a) 33)).alloc (.cells (upA b) 33)) := bel
 have K0 := (Blk.new0 w 33 (upA a)).alloc (.cells (upA b) 33)
 have K1 := Blk.new1 w (.cells (upA a) 33) 33 (upA b)
 obtain ⟨W, hW⟩ : ∃ W, ((w.alloc (.cells (upA a) 33)).alloc (.cells (upA b) 33)) = W := ⟨_, rfl⟩
 rw [hW] at HB K0 K1 ⊢
 clear hW
 have hgl : w.heap.size ≤ w.heap.size := Nat.le_refl _
 obtain ⟨g, hg⟩ : ∃ g, w.heap.size = g := ⟨_, rfl⟩
 rw [hg] at K0 K1 ⊢
 replace hgl : w.heap.size ≤ g := by omega
 replace K0 := Lib.hid K0
 replace K1 := Lib.hid K1
 clear hg
 (obtain ⟨k0, f0, l0, m0⟩ := rl_ K0; obtain ⟨k1, f1, l1, m1⟩ := rl_ K1)
 go_wp2_with fail
 (refine (n1.out _ HB).mono ?_; rintro e w1 ⟨rfl, hN⟩; replace K0 := hn_ K0 hN; replace K1 := hn_ K1 hN; replace HB : Below w.heap.size w w1 := Below.on hN HB; clear hN k0 f0 l0 m0 k1 f1 l1 m1; obtain ⟨k0, f0, l0, m0⟩ := rl_ K0; obtain ⟨k1, f1, l1, m1⟩ := rl_ K1)
 go_wp2_with fail
 (refine (n2.out _ HB).mono ?_; rintro e w2 ⟨rfl, hN⟩; replace K0 := hn_ K0 hN; replace K1 := hn_ K1 hN; replace HB : Below w.heap.size w w2 := Below.on hN HB; clear hN k0 f0 l0 m0 k1 f1 l1 m1; obtain ⟨k0, f0, l0, m0⟩ := rl_ K0; obtain ⟨k1, f1, l1, m1⟩ := rl_ K1)
 go_wp2_with fail
 (refine (n3.out _ HB).mono ?_; rintro e w3 ⟨rfl, hN⟩; replace K0 := hn_ K0 hN; replace K1 := hn_ K1 hN; replace HB : Below w.heap.size w w3 := Below.on hN HB; clear hN k0 f0 l0 m0 k1 f1 l1 m1; obtain ⟨k0, f0, l0, m0⟩ := rl_ K0; obtain ⟨k1, f1, l1, m1⟩ := rl_ K1)
 cases r1 with
 | false =>
  go_wp2_with fail
  go_ret
  exact ⟨rfl, HB⟩
 | true =>
  cases r2 with
  | false =>
   go_wp2_with fail
   go_ret
   exact ⟨rfl, HB⟩
  | true =>
   cases r3 with
   | false =>
    go_wp2_with fail
    go_ret
    exact ⟨rfl, HB⟩
   | true =>
    go_wp2_with fail
    (refine (n4.out _ HB).mono ?_; rintro e w4 ⟨rfl, hN⟩; replace K0 := hn_ K0 hN; replace K1 := hn_ K1 hN; replace HB : Below w.heap.size w w4 := Below.on hN HB; clear hN k0 f0 l0 m0 k1 f1 l1 m1; obtain ⟨k0, f0, l0, m0⟩ := rl_ K0; obtain ⟨k1, f1, l1, m1⟩ := rl_ K1)
    cases r4 with
    | false =>
     go_wp2_with fail
     go_ret
     exact ⟨rfl, HB⟩
    | true =>
     go_wp2_with fail
     (refine (n5.out _ HB).mono ?_; rintro e w5 ⟨rfl, hN⟩; replace K0 := hn_ K0 hN; replace K1 := hn_ K1 hN; replace HB : Below w.heap.size w w5 := Below.on hN HB; clear hN k0 f0 l0 m0 k1 f1 l1 m1; obtain ⟨k0, f0, l0, m0⟩ := rl_ K0; obtain ⟨k1, f1, l1, m1⟩ := rl_ K1)
     cases r5 with
     | false =>
      go_wp2_with fail
      go_ret
      exact ⟨rfl, HB⟩
     | true =>
      cases r6 with
      | false =>
       go_wp2_with fail
       go_ret
       exact ⟨rfl, HB⟩
      | true =>
       cases r7 with
       | false =>
        go_wp2_with fail
        go_ret
        exact ⟨rfl, HB⟩
       | true =>
        go_wp2_with fail
        go_ret
        exact ⟨rfl, HB⟩
theorem rsameSr_calls (a b : Sr) (w : World) (ha : SrIn w a) (hb : SrIn w b) : Calls Tryz.prog 24 #[srV a, srV b] w (Ret w (.bool (sameSr a b))) := by
 have n1 := fun W (hB : Below w.heap.size w W) => rsameLt_calls a.fin b.fin W (ha.1.below hB) (hb.1.below hB)
 have n2 := fun W (hB : Below w.heap.size w W) => rsameLt_calls a.new b.new W (ha.2.1.below hB) (hb.2.1.below hB)
 have n3 := fun W (hB : Below w.heap.size w W) => rsameCm_calls a.now b.now W (ha.2.2.1.below hB) (hb.2.2.1.below hB)
 have n4 := fun W (hB : Below w.heap.size w W) => rsameCm_calls a.next b.next W (ha.2.2.2.1.below hB) (hb.2.2.2.1.below hB)
 have n5 := fun W (hB : Below w.heap.size w W) => rsameUp_calls a.best b.best W (ha.2.2.2.2.1.below hB) (hb.2.2.2.2.1.below hB)
 have hE : sameSr a b = (sameLt a.fin b.fin && (sameLt a.new b.new && (sameCm a.now b.now && (sameCm a.next b.next && (sameUp a.best b.best && (a.has == b.has && (a.last == b.last && (a.this == b.this && a.forced == b.forced)))))))) := rfl
 rw [hE]
 clear hE
 generalize sameLt a.fin b.fin = r1 at *
 generalize sameLt a.new b.new = r2 at *
 generalize sameCm a.now b.now = r3 at *
 generalize sameCm a.next b.next = r4 at *
 generalize sameUp a.best b.best = r5 at *
 obtain ⟨r6, e6⟩ : ∃ r, (a.has == b.has) = r := ⟨_, rfl⟩
 obtain ⟨r7, e7⟩ : ∃ r, (a.last == b.last) = r := ⟨_, rfl⟩
 obtain ⟨r8, e8⟩ : ∃ r, (a.this == b.this) = r := ⟨_, rfl⟩
 obtain ⟨r9, e9⟩ : ∃ r, (a.forced == b.forced) = r := ⟨_, rfl⟩
 rw [e6, e7, e8, e9]
 replace n1 := Lib.hid n1
 replace n2 := Lib.hid n2
 replace n3 := Lib.hid n3
 replace n4 := Lib.hid n4
 replace n5 := Lib.hid n5
 clear ha hb
 go_enter Tryz.func24, Tryz.ntmps24
 go_upto_region 1 with fail
 have HB : Below w.heap.size w ((w.alloc (.cells (srA a) 35)).alloc (.cells (srA b) 35)) := bel
 have K0 := (Blk.new0 w 35 (srA a)).alloc (.cells (srA b) 35)
 have K1 := Blk.new1 w (.cells (srA a) 35) 35 (srA b)
 obtain ⟨W, hW⟩ : ∃ W, ((w.alloc (.cells (srA a) 35)).alloc (.cells (srA b) 35)) = W := ⟨_, rfl⟩
 rw [hW] at HB K0 K1 ⊢
 clear hW
 have hgl : w.heap.size ≤ w.heap.size := Nat.le_refl _
 obtain ⟨g, hg⟩ : ∃ g, w.heap.size = g := ⟨_, rfl⟩
 rw [hg] at K0 K1 ⊢
 replace hgl : w.heap.size ≤ g := by omega
 replace K0 := Lib.hid K0
 replace K1 := Lib.hid K1
 clear hg
 (obtain ⟨k0, f0, l0, m0⟩ := rl_ K0; obtain ⟨k1, f1, l1, m1⟩ := rl_ K1)
 go_wp2_with fail
 (refine (n1.out _ HB).mono ?_; rintro e w1 ⟨rfl, hN⟩; replace K0 := hn_ K0 hN; replace K1 := hn_ K1 hN; replace HB : Below w.heap.size w w1 := Below.on hN HB; clear hN k0 f0 l0 m0 k1 f1 l1 m1; obtain ⟨k0, f0, l0, m0⟩ := rl_ K0; obtain ⟨k1, f1, l1, m1⟩ := rl_ K1)
 go_wp2_with fail
 (refine (n2.out _ HB).mono ?_; rintro e w2 ⟨rfl, hN⟩; replace K0 := hn_ K0 hN; replace K1 := hn_ K1 hN; replace HB : Below w.heap.size w w2 := Below.on hN HB; clear hN k0 f0 l0 m0 k1 f1 l1 m1; obtain ⟨k0, f0, l0, m0⟩ := rl_ K0; obtain ⟨k1, f1, l1, m1⟩ := rl_ K1)
 go_wp2_with fail
 (refine (n3.out _ HB).mono ?_; rintro e w3 ⟨rfl, hN⟩; replace K0 := hn_ K0 hN; replace K1 := hn_ K1 hN; replace HB : Below w.heap.size w w3 := Below.on hN HB; clear hN k0 f0 l0 m0 k1 f1 l1 m1; obtain ⟨k0, f0, l0, m0⟩ := rl_ K0; obtain ⟨k1, f1, l1, m1⟩ := rl_ K1)
 go_wp2_with fail
 (refine (n4.out _ HB).mono ?_; rintro e w4 ⟨rfl, hN⟩; replace K0 := hn_ K0 hN; replace K1 := hn_ K1 hN; replace HB : Below w.heap.size w w4 := Below.on hN HB; clear hN k0 f0 l0 m0 k1 f1 l1 m1; obtain ⟨k0, f0, l0, m0⟩ := rl_ K0; obtain ⟨k1, f1, l1, m1⟩ := rl_ K1)
 go_wp2_with (first | (with_reducible refine wlr (ldSr_best _ K0.out) rfl ?_) | (with_reducible refine wlg (ldSr_best _ K0.out) (by with_unfolding_all rfl) rfl ?_) | (with_reducible refine wlr (ldSr_best _ K1.out) rfl ?_) | (with_reducible refine wlg (ldSr_best _ K1.out) (by with_unfolding_all rfl) rfl ?_))
 (refine (n5.out _ HB).mono ?_; rintro e w5 ⟨rfl, hN⟩; replace K0 := hn_ K0 hN; replace K1 := hn_ K1 hN; replace HB : Below w.heap.size w w5 := Below.on hN HB; clear hN k0 f0 l0 m0 k1 f1 l1 m1; obtain ⟨k0, f0, l0, m0⟩ := rl_ K0; obtain ⟨k1, f1, l1, m1⟩ := rl_ K1)
 cases r1 with
 | false =>
  go_wp2_with fail
  go_ret
  exact ⟨rfl, HB⟩
 | true =>
  cases r2 with
  | false =>
   go_wp2_with fail
   go_ret
   exact ⟨rfl, HB⟩
  | true =>
   cases r3 with
   | false =>
    go_wp2_with fail
    go_ret
    exact ⟨rfl, HB⟩
   | true =>
    cases r4 with
    | false =>
     go_wp2_with fail
     go_ret
     exact ⟨rfl, HB⟩
    | true =>
     cases r5 with
     | false =>
      go_wp2_with fail
      go_ret
      exact ⟨rfl, HB⟩
     | true =>
      cases r6 with
      | false =>
       go_wp2_with fail
       go_ret
       exact ⟨rfl, HB⟩
      | true =>
       cases r7 with
       | false =>
        go_wp2_with fail
        go_ret
        exact ⟨rfl, HB⟩
       | true =>
        cases r8 with
        | false =>
         go_wp2_with fail
         go_ret
         exact ⟨rfl, HB⟩
        | true =>
         go_wp2_with fail
         go_ret
         exact ⟨rfl, HB⟩
theorem take1_in {w : World} {s : Sr} {u : Up} (hs : SrIn w s) (hu : UpIn w u) : SrIn w (takeP1 s u) := by
 obtain ⟨a, b, c, d, e, f, g, h, i⟩ := hs
 unfold takeP1
 split
 ·split
  ·exact ⟨a, b, d, hu.2.1, e, f, h, (show (-9223372036854775808 : Int) ≤ 0 ∧ (0 : Int) ≤ 9223372036854775807 by decide), i⟩
  ·exact ⟨a, b, c, d, e, f, g, h, i⟩
 ·split
  ·exact ⟨a, b, c, hu.2.1, e, f, g, h, i⟩
  ·exact ⟨a, b, c, d, e, f, g, h, i⟩
theorem take_in {w : World} {s : Sr} {u : Up} (hs : SrIn w s) (hu : UpIn w u) : SrIn w (takeP s u) := by
 have hs := take1_in hs hu
 unfold takeP takeP2
 generalize takeP1 s u = s at *
 obtain ⟨a, b, c, d, e, f, g, h, i⟩ := hs
 split
 ·refine ⟨hu.2.2.2.1, ?_, c, d, e, f, g, h, i⟩
  show LtIn w (if _ then _ else _)
  split
  ·exact hu.2.2.2.1
  ·exact b
 ·exact ⟨a, b, c, d, e, f, g, h, i⟩
theorem clear_in {w : World} {s : Sr} (hs : SrIn w s) : SrIn w (clearP s) := by
 obtain ⟨a, b, c, d, e, f, g, h, i⟩ := hs
 exact ⟨a, b, c, d, UpIn.zero w, f, g, h, i⟩
theorem rcroot_calls (c : Cm) (w : World) (hc : CmIn w c) : Calls Tryz.prog 70 #[cmV c] w (Ret w (.tuple #[.string (bs (cmRoot c)), .int .i64 (cmE c)])) := by
 have K0 := Lib.hid (Blk.new0 w 31 (cmA c))
 have HB : Below w.heap.size w (w.alloc (.cells (cmA c) 31)) := bel
 by_cases h16 : c.ks.l.length = 16
 ·have e16 : ((c.ks.l.length : Int) != 16) = false := by simp; omega
  by_cases h5s : c.sum.length = 5
  ·have e5s : ((c.sum.length : Int) != 5) = false := by simp; omega
   obtain ⟨W, hW⟩ : ∃ W, w.alloc (.cells (cmA c) 31) = W := ⟨_, rfl⟩
   rw [hW] at K0 HB
   obtain ⟨g, hg⟩ : ∃ g, w.heap.size = g := ⟨_, rfl⟩
   rw [hg] at K0
   have T1 := Lib.hid (Txts.below hc.1.1 HB)
   have hRall : ∀ y ∈ c.ks.l, y.length ≤ 1048576 := hc.1.2.2.2
   have hok : FiveB c.ks.l 16 → cmOk c = true := fun h => five_ok c 17 (by omega) (fun i hi => by
    cases i with
    | zero => exact h5s
    | succ i => exact h i (by omega)) h16
   have hnot : ∀ j, j < 16 → (c.ks.l.getD j []).length ≠ 5 → cmOk c = false := fun j hj h => five_not c (j + 1) (by omega) (by simpa using h)
   replace hRall := Lib.hid hRall
   replace hok := Lib.hid hok
   replace hnot := Lib.hid hnot
   have hl16 := Lib.hid h16
   clear h16
   obtain ⟨b1, o1, hb1, hb0, _⟩ := Txts.at T1.out 0 (by have := hl16.out; omega)
   (obtain ⟨k0, f0, l0, m0⟩ := rl_ K0)
   go_enter Tryz.func70, Tryz.ntmps70
   go_upto_region 4 with fail
   clear hW hg k0 f0 l0 m0
   go_wp2_with fail
   clear e16
   go_loopw [4, 5] (fun u i wr => ∃ (v : Value) (k : Nat), v = u ∧ k ≤ 16 ∧ i = .int .i64 k ∧ FiveB c.ks.l k ∧ LRow W.heap.size wr v ((c.ks.l.take k).map chk) ∧ Below W.heap.size W wr) (fun _ i _ => (16 - intOf i).toNat)
   case atStart => exact ⟨_, 0, rfl, by omega, rfl, fun i hi => absurd hi (by omega), World.ownsRow_nil _ _ _ _, Below.refl _ _⟩
   case round =>
    obtain ⟨v, k, rfl, hk3, rfl, h5, OWN, HBr⟩ := hrel
    have K2 := Lib.hid (K0.out.below HBr)
    have HBw := Below.on HBr HB
    by_cases hlt : k < 16
    ·have hkR : k < c.ks.l.length := by have := hl16.out; omega
     obtain ⟨b9, o9, hb9, hb2, hcell⟩ := Txts.at (Txts.below T1.out HBr) k hkR
     have hb8 := hb9.symm.trans hb1
     simp only [Option.some.injEq, Addr.mk.injEq, and_true] at hb8
     obtain ⟨rfl, rfl⟩ := hb8
     clear hb9
     have hy := hRall.out _ (getD_mem hkR)
     have hst : (c.ks.l.take (k + 1)).map chk = (c.ks.l.take k).map chk ++ [chk (c.ks.l.getD k [])] := by
      have e : c.ks.l.take (k + 1) = c.ks.l.take k ++ [c.ks.l[k]] := by rw [List.take_add_one, List.getElem?_eq_getElem hkR]; rfl
      rw [e, List.map_append, List.getD, List.getElem?_eq_getElem hkR]
      rfl
     have hno := hnot.out k hlt
     have h5s2 : (c.ks.l.getD k []).length = 5 → FiveB c.ks.l (k + 1) := fun h i hi => by
      by_cases hik : i = k
      ·rw [hik]; exact h
      ·exact h5 i (by omega)
     have hq : ((c.ks.l.take k).map chk).length ≤ 16 := by rw [List.length_map, List.length_take]; omega
     generalize c.ks.l.getD k [] = y at *
     generalize (c.ks.l.take k).map chk = q at *
     replace hst := Lib.hid hst
     clear h5
     (obtain ⟨k2, f2, l2, m2⟩ := rl_ K2)
     by_cases hy5 : y.length = 5
     ·have e1 : ((y.length : Int) != 5) = false := by simp; omega
      have h6 := Lib.hid (h5s2 hy5)
      replace OWN := Lib.hid OWN
      clear h5s2 hno
      go_wp2_with fail
      refine (rpack_calls y (by omega) _).mono ?_
      rintro e w3 ⟨v3, rfl, Rv, h3⟩
      rw [pack_five hy5] at Rv
      obtain ⟨A3, c3, rfl, T3⟩ := Rv.txts
      have OWN3 := LRow.below OWN.out h3
      have HB3 := Below.on h3 HBr
      obtain ⟨v4, w4, hr4, OWN4, hg4⟩ := app_rows w3 W.heap.size HB3.size v q OWN3 A3 c3 [chk y] (by omega) (by simp) T3
      have HB4 := HB3.grown hg4 HB3.size fun j e => (OWN3.lt j e).1
      replace OWN4 := Lib.hid OWN4
      replace hr4 := Lib.hid hr4
      clear Rv T3 OWN3 OWN hg4 h3 HB3 hy5 hy
      go_wp2_with (at_builtin; refine wpList_append_run rfl _ _ 27 27 rfl _ _ _ rfl rfl hr4.out ?_)
      clear hr4
      go_wp2_with fail
      go_roundw
      case rel => exact ⟨_, k + 1, rfl, by omega, by go_num, h6.out, by rw [hst.out]; exact OWN4.out, HB4⟩
      case measure => simp [intOf]; omega
     ·have e1 : ((y.length : Int) != 5) = true := by simp; omega
      obtain ⟨f1, f2⟩ := cm_no (hno hy5)
      replace f1 := Lib.hid f1
      replace f2 := Lib.hid f2
      clear h5s2 hno hy5 OWN hy
      go_wp2_with fail
      go_ret2
      exact ⟨by rw [f1.out, f2.out]; rfl, HBw⟩
    ·obtain rfl : k = 16 := by omega
     have hRt : c.ks.l.take 16 = c.ks.l := List.take_of_length_le (by have := hl16.out; omega)
     rw [hRt] at OWN
     have hyes := hok.out h5
     obtain ⟨f1, f2⟩ := cm_yes hyes
     have hright := (cm_right hyes).1
     obtain ⟨A5, c5, rfl, T5⟩ := OWN.txts
     have hll : (c.ks.l.map chk).length = 16 := by rw [List.length_map, hl16.out]
     have n5 := zrroot_calls A5 c5 (c.ks.l.map chk) 4 (fun x hx => by
      obtain ⟨k, _, rfl⟩ := List.mem_map.1 hx
      rw [chk_len]
      decide) wr T5
     unfold rootV at n5
     rw [if_pos hright, hll, show (4 : Int).toNat = 4 from rfl] at n5
     have hrl : (rootP (c.ks.l.map chk) 4).length = 32 := rootP_len hright.2.2.2.2
     have n6 := fun W => rpack_calls c.sum (by omega) W
     rw [pack_five h5s] at n6
     have hcl := chk_len c.sum
     have n7 := fun W => rsum_calls (rootP (c.ks.l.map chk) 4 ++ chk c.sum) (by rw [List.length_append]; omega) W
     rw [hll]
     generalize rootP (c.ks.l.map chk) 4 = rt at *
     generalize chk c.sum = c0 at *
     replace f1 := Lib.hid f1
     replace f2 := Lib.hid f2
     replace n5 := Lib.hid n5
     replace n6 := Lib.hid n6
     replace n7 := Lib.hid n7
     clear hyes hright OWN T5 hll hRt h5 hok hnot T1 hRall h5s e5s
     (obtain ⟨k2, f2, l2, m2⟩ := rl_ K2)
     have e17 : decide ((16 : Int) < (c.ks.l.length : Int)) = false := decide_eq_false (by have := hl16.out; omega)
     replace hl16 := hl16
     go_wp2_with fail
     refine n5.out.mono ?_
     rintro e w5 ⟨rfl, h5⟩
     have HB5 := Below.on h5 HBw
     have K3 := Lib.hid (K2.out.below h5)
     clear h5 n5 k2 f2 l2 m2 K2
     (obtain ⟨k3, f3, l3, m3⟩ := rl_ K3)
     go_wp2_with fail
     refine (n6.out _).mono ?_
     rintro e w6 ⟨v6, rfl, R6, h6⟩
     obtain ⟨g6, c6, rfl, _, _⟩ := R6.form1 (by simp)
     have hx6 := LRow.at R6 0 (by simp)
     replace hx6 : w6.cell? ⟨g6, 0, none⟩ = some (.string (bs c0)) := hx6
     have HB6 := Below.on h6 HB5
     clear R6 h6
     go_wp2_with fail
     refine (n7.out _).mono ?_
     rintro e w7 ⟨rfl, h7⟩
     go_wp2_with fail
     go_ret2
     exact ⟨by rw [f1.out, f2.out]; rfl, Below.on h7 HB6⟩
  ·have e5s : ((c.sum.length : Int) != 5) = true := by simp; omega
   have hno : cmOk c = false := five_not c 0 (by omega) h5s
   obtain ⟨f1, f2⟩ := cm_no hno
   replace f1 := Lib.hid f1
   replace f2 := Lib.hid f2
   clear hno h16 h5s hc
   go_enter Tryz.func70, Tryz.ntmps70
   go_wp2_with fail
   go_ret2
   exact ⟨by rw [f1.out, f2.out]; rfl, HB⟩
 ·have e16 : ((c.ks.l.length : Int) != 16) = true := by simp; omega
  have hno : cmOk c = false := by
   cases hc : cmOk c with
   | false => rfl
   | true => exact absurd (cm_right hc).2 h16
  obtain ⟨f1, f2⟩ := cm_no hno
  replace f1 := Lib.hid f1
  replace f2 := Lib.hid f2
  clear hno h16 hc
  go_enter Tryz.func70, Tryz.ntmps70
  go_wp2_with fail
  go_ret2
  exact ⟨by rw [f1.out, f2.out]; rfl, HB⟩
theorem lgfinal_calls (u : Up) (w : World) (hk : HasK w) (hu : UpIn w u) : Calls Tryz.prog 59 #[upV u] w (Ret w (.int .i64 (finalE u))) := by
 have n1 := fun W => isFinal_calls u W
 have n2 := fun W (hB : Below w.heap.size w W) => lholds_calls u.fin W (hk.on hB) (hu.2.2.2.1.below hB)
 have n3 := fun W (hB : Below w.heap.size w W) => hroot_calls u.fin.b W (hk.on hB) (hu.2.2.2.1.1.below hB)
 have n4 := fun W (hB : Below w.heap.size w W) => under_calls (hdRoot u.fin.b) u.fb 3 u.seen.b.state W (hk.on hB) (by have := hdRoot_len u.fin.b; omega) hu.1.1.2.2.2.1 (by decide) (hu.2.2.2.2.1.below hB)
 have hE : finalE u = if isFinalP u then if holdsP u.fin then if underP (hdRoot u.fin.b) u.fb.l 3 u.seen.b.state then 0 else 145 else 130 else 0 := rfl
 unfold rwV at n4
 generalize finalE u = E at *
 generalize isFinalP u = r1 at *
 generalize holdsP u.fin = r2 at *
 generalize hdRoot u.fin.b = hr at *
 generalize hdE u.fin.b = he at *
 generalize underP hr u.fb.l 3 u.seen.b.state = r4 at *
 replace hE := Lib.hid hE
 replace n1 := Lib.hid n1
 replace n2 := Lib.hid n2
 replace n3 := Lib.hid n3
 replace n4 := Lib.hid n4
 clear hu hk
 go_enter Tryz.func59, Tryz.ntmps59
 go_upto_region 1 with fail
 have HB : Below w.heap.size w (w.alloc (.cells (upA u) 33)) := bel
 have K0 := Blk.new0 w 33 (upA u)
 obtain ⟨W, hW⟩ : ∃ W, w.alloc (.cells (upA u) 33) = W := ⟨_, rfl⟩
 rw [hW] at HB K0 ⊢
 clear hW
 have hgl : w.heap.size ≤ w.heap.size := Nat.le_refl _
 obtain ⟨g, hg⟩ : ∃ g, w.heap.size = g := ⟨_, rfl⟩
 rw [hg] at K0 ⊢
 replace hgl : w.heap.size ≤ g := by omega
 replace K0 := Lib.hid K0
 clear hg
 (obtain ⟨k0, f0, l0, m0⟩ := rl_ K0)
 go_wp2_with (first | (with_reducible refine wlr (ldUp _ K0.out) rfl ?_) | (with_reducible refine wlg (ldUp _ K0.out) (by with_unfolding_all rfl) rfl ?_))
 (refine (n1.out _).mono ?_; rintro e w1 ⟨rfl, hN⟩; replace K0 := hn_ K0 hN; replace HB : Below w.heap.size w w1 := Below.on hN HB; clear hN k0 f0 l0 m0; obtain ⟨k0, f0, l0, m0⟩ := rl_ K0)
 cases r1 with
 | false =>
  go_wp2_with fail
  go_ret
  exact ⟨by rw [hE.out]; rfl, HB⟩
 | true =>
  go_wp2_with fail
  (refine (n2.out _ HB).mono ?_; rintro e w2 ⟨rfl, hN⟩; replace K0 := hn_ K0 hN; replace HB : Below w.heap.size w w2 := Below.on hN HB; clear hN k0 f0 l0 m0; obtain ⟨k0, f0, l0, m0⟩ := rl_ K0)
  cases r2 with
  | false =>
   go_wp2_with fail
   go_ret
   exact ⟨by rw [hE.out]; rfl, HB⟩
  | true =>
   go_wp2_with fail
   (refine (n3.out _ HB).mono ?_; rintro e w3 ⟨rfl, hN⟩; replace K0 := hn_ K0 hN; replace HB : Below w.heap.size w w3 := Below.on hN HB; clear hN k0 f0 l0 m0; obtain ⟨k0, f0, l0, m0⟩ := rl_ K0)
   go_wp2_with fail
   (refine (n4.out _ HB).mono ?_; rintro e w4 ⟨rfl, hN⟩; replace K0 := hn_ K0 hN; replace HB : Below w.heap.size w w4 := Below.on hN HB; clear hN k0 f0 l0 m0; obtain ⟨k0, f0, l0, m0⟩ := rl_ K0)
   cases r4
   all_goals
    go_wp2_with fail
    go_ret
    exact ⟨by rw [hE.out]; rfl, HB⟩
theorem lgnext_calls (s : Sr) (u : Up) (w : World) (hk : HasK w) (hs : SrIn w s) (hu : UpIn w u) : Calls Tryz.prog 60 #[srV s, upV u] w (Ret w (.int .i64 (nextE s u))) := by
 have n1 := fun W => hasNext_calls u W
 have n2 := fun W => period_q u.seen.b.slot hu.1.1.1 W
 have n3 := fun W => period_q s.fin.b.slot hs.1.1.1 W
 have n4 := fun W => known_calls s.next W
 have n5 := fun W (hB : Below w.heap.size w W) => lsame_calls u.next s.next W (hu.2.1.below hB) (hs.2.2.2.1.below hB)
 have n6 := fun W (hB : Below w.heap.size w W) => croot_calls u.next W (hk.on hB) (hu.2.1.below hB)
 have n7 := fun W (hB : Below w.heap.size w W) => under_calls (cmRoot u.next) u.nb 5 u.seen.b.state W (hk.on hB) (cmRoot_len u.next) hu.1.1.2.2.2.1 (by decide) (hu.2.2.1.below hB)
 have hE : nextE s u = if hasNextP u then if knownP s.next && (decide (period u.seen.b.slot = period s.fin.b.slot) && !sameCm u.next s.next) then 146 else if cmOk u.next then if underP (cmRoot u.next) u.nb.l 5 u.seen.b.state then 0 else 145 else 130 else 0 := rfl
 unfold rwV at n7
 unfold cmE at n6
 generalize nextE s u = E at *
 generalize hasNextP u = r1 at *
 generalize knownP s.next = kn at *
 generalize period u.seen.b.slot = ps at *
 generalize period s.fin.b.slot = pf at *
 have e1 : ((ps : Int) == (pf : Int)) = decide (ps = pf) := by rw [Bool.eq_iff_iff]; simp; omega
 generalize decide (ps = pf) = b1 at *
 generalize sameCm u.next s.next = sm at *
 generalize cmRoot u.next = cr at *
 generalize cmOk u.next = ok at *
 generalize underP cr u.nb.l 5 u.seen.b.state = r7 at *
 replace hE := Lib.hid hE
 replace n1 := Lib.hid n1
 replace n2 := Lib.hid n2
 replace n3 := Lib.hid n3
 replace n4 := Lib.hid n4
 replace n5 := Lib.hid n5
 replace n6 := Lib.hid n6
 replace n7 := Lib.hid n7
 clear hs hu hk
 go_enter Tryz.func60, Tryz.ntmps60
 go_upto_region 1 with fail
 have HB : Below w.heap.size w ((w.alloc (.cells (srA s) 35)).alloc (.cells (upA u) 33)) := bel
 have K0 := (Blk.new0 w 35 (srA s)).alloc (.cells (upA u) 33)
 have K1 := Blk.new1 w (.cells (srA s) 35) 33 (upA u)
 obtain ⟨W, hW⟩ : ∃ W, ((w.alloc (.cells (srA s) 35)).alloc (.cells (upA u) 33)) = W := ⟨_, rfl⟩
 rw [hW] at HB K0 K1 ⊢
 clear hW
 have hgl : w.heap.size ≤ w.heap.size := Nat.le_refl _
 obtain ⟨g, hg⟩ : ∃ g, w.heap.size = g := ⟨_, rfl⟩
 rw [hg] at K0 K1 ⊢
 replace hgl : w.heap.size ≤ g := by omega
 replace K0 := Lib.hid K0
 replace K1 := Lib.hid K1
 clear hg
 (obtain ⟨k0, f0, l0, m0⟩ := rl_ K0; obtain ⟨k1, f1, l1, m1⟩ := rl_ K1)
 go_wp2_with (first | (with_reducible refine wlr (ldUp _ K1.out) rfl ?_) | (with_reducible refine wlg (ldUp _ K1.out) (by with_unfolding_all rfl) rfl ?_))
 (refine (n1.out _).mono ?_; rintro e w1 ⟨rfl, hN⟩; replace K0 := hn_ K0 hN; replace K1 := hn_ K1 hN; replace HB : Below w.heap.size w w1 := Below.on hN HB; clear hN k0 f0 l0 m0 k1 f1 l1 m1; obtain ⟨k0, f0, l0, m0⟩ := rl_ K0; obtain ⟨k1, f1, l1, m1⟩ := rl_ K1)
 cases r1 with
 | false =>
  go_wp2_with fail
  go_ret
  exact ⟨by rw [hE.out]; rfl, HB⟩
 | true =>
  go_wp2_with fail
  go_quiet ((first | (go_at_call 82; exact qs (n2.out _)) | (go_at_call 82; exact qs (n3.out _))))
  (generalize hWN : World.drewN w1 _ = w2; replace K0 := Lib.hid (show Blk w2 _ _ _ by rw [← hWN]; exact K0.out.drewN _); replace K1 := Lib.hid (show Blk w2 _ _ _ by rw [← hWN]; exact K1.out.drewN _); replace HB : Below w.heap.size w w2 := (by rw [← hWN]; exact below_drewN HB _); clear hWN k0 f0 l0 m0 k1 f1 l1 m1; obtain ⟨k0, f0, l0, m0⟩ := rl_ K0; obtain ⟨k1, f1, l1, m1⟩ := rl_ K1)
  go_upto_region 4 with fail
  go_cut [35] (fun s35 wx => s35 = .bool (kn && (b1 && !sm)) ∧ SuW w g s u wx)
  case first =>
   go_wp2_with fail
   (refine (n4.out _).mono ?_; rintro e w3 ⟨rfl, hN⟩; replace K0 := hn_ K0 hN; replace K1 := hn_ K1 hN; replace HB : Below w.heap.size w w3 := Below.on hN HB; clear hN k0 f0 l0 m0 k1 f1 l1 m1; obtain ⟨k0, f0, l0, m0⟩ := rl_ K0; obtain ⟨k1, f1, l1, m1⟩ := rl_ K1)
   cases kn with
   | false =>
    go_wp2_with fail
    go_meet
    case rel => exact ⟨rfl, K0.out, K1.out, HB⟩
   | true =>
    cases b1 with
    | false =>
     go_wp2_with fail
     go_meet
     case rel => exact ⟨rfl, K0.out, K1.out, HB⟩
    | true =>
     go_wp2_with fail
     (refine (n5.out _ HB).mono ?_; rintro e w4 ⟨rfl, hN⟩; replace K0 := hn_ K0 hN; replace K1 := hn_ K1 hN; replace HB : Below w.heap.size w w4 := Below.on hN HB; clear hN k0 f0 l0 m0 k1 f1 l1 m1; obtain ⟨k0, f0, l0, m0⟩ := rl_ K0; obtain ⟨k1, f1, l1, m1⟩ := rl_ K1)
     go_wp2_with fail
     go_meet
     case rel => exact ⟨rfl, K0.out, K1.out, HB⟩
  case rest =>
   obtain ⟨rfl, hW⟩ := hcut
   have j0 := Lib.hid hW.1
   have j1 := Lib.hid hW.2.1
   have HBn := hW.2.2
   clear hW k0 f0 l0 m0 k1 f1 l1 m1 K0 K1 HB
   have K0 := j0; have K1 := j1; have HB := HBn
   clear j0 j1 HBn
   (obtain ⟨k0, f0, l0, m0⟩ := rl_ K0; obtain ⟨k1, f1, l1, m1⟩ := rl_ K1)
   clear n1 n2 n3 n4 n5 e1
   have hE2 := hE.out
   generalize (kn && (b1 && !sm)) = q at *
   replace hE := Lib.hid hE2
   clear hE2
   cases q with
   | true =>
    go_wp2_with fail
    go_ret
    exact ⟨by rw [hE.out]; rfl, HB⟩
   | false =>
    cases ok with
    | false =>
     have n8 := n6.out
     rw [if_neg (by simp)] at n8
     replace n6 := Lib.hid n8
     clear n8
     go_wp2_with fail
     (refine (n6.out _ HB).mono ?_; rintro e w5 ⟨rfl, hN⟩; replace K0 := hn_ K0 hN; replace K1 := hn_ K1 hN; replace HB : Below w.heap.size w w5 := Below.on hN HB; clear hN k0 f0 l0 m0 k1 f1 l1 m1; obtain ⟨k0, f0, l0, m0⟩ := rl_ K0; obtain ⟨k1, f1, l1, m1⟩ := rl_ K1)
     go_wp2_with fail
     go_ret
     exact ⟨by rw [hE.out]; rfl, HB⟩
    | true =>
     have n8 := n6.out
     rw [if_pos rfl] at n8
     replace n6 := Lib.hid n8
     clear n8
     go_wp2_with fail
     (refine (n6.out _ HB).mono ?_; rintro e w5 ⟨rfl, hN⟩; replace K0 := hn_ K0 hN; replace K1 := hn_ K1 hN; replace HB : Below w.heap.size w w5 := Below.on hN HB; clear hN k0 f0 l0 m0 k1 f1 l1 m1; obtain ⟨k0, f0, l0, m0⟩ := rl_ K0; obtain ⟨k1, f1, l1, m1⟩ := rl_ K1)
     go_wp2_with fail
     (refine (n7.out _ HB).mono ?_; rintro e w6 ⟨rfl, hN⟩; replace K0 := hn_ K0 hN; replace K1 := hn_ K1 hN; replace HB : Below w.heap.size w w6 := Below.on hN HB; clear hN k0 f0 l0 m0 k1 f1 l1 m1; obtain ⟨k0, f0, l0, m0⟩ := rl_ K0; obtain ⟨k1, f1, l1, m1⟩ := rl_ K1)
     cases r7
     all_goals
      go_wp2_with fail
      go_ret
      exact ⟨by rw [hE.out]; rfl, HB⟩
theorem rlgbranches_calls (s : Sr) (u : Up) (w : World) (hs : SrIn w s) (hu : UpIn w u) : Calls Tryz.prog 65 #[srV s, upV u] w (Ret w (.int .i64 (if finalE u = 0 then nextE s u else finalE u))) := by
 have n1 := fun W (hB : Below w.heap.size w W) => risFinal_calls u W (hu.2.2.2.1.below hB)
 have n2 := fun W (hB : Below w.heap.size w W) => rlholds_calls u.fin W (hu.2.2.2.1.below hB)
 have n3 := fun W (hB : Below w.heap.size w W) => rhroot_calls u.fin.b W (hu.2.2.2.1.1.below hB)
 have n4 := fun W (hB : Below w.heap.size w W) => runder_calls (hdRoot u.fin.b) u.fb 3 u.seen.b.state W (by have := hdRoot_len u.fin.b; omega) hu.1.1.2.2.2.1 (by decide) (hu.2.2.2.2.1.below hB)
 have hF : finalE u = if isFinalP u then if holdsP u.fin then if underP (hdRoot u.fin.b) u.fb.l 3 u.seen.b.state then 0 else 145 else 130 else 0 := rfl
 have p1 := fun W => rhasNext_calls u W
 have p2 := fun W => rperiod_q u.seen.b.slot hu.1.1.1 W
 have p3 := fun W => rperiod_q s.fin.b.slot hs.1.1.1 W
 have p4 := fun W => rknown_calls s.next W
 have p5 := fun W (hB : Below w.heap.size w W) => rsameCm_calls u.next s.next W (hu.2.1.below hB) (hs.2.2.2.1.below hB)
 have p6 := fun W (hB : Below w.heap.size w W) => rcroot_calls u.next W (hu.2.1.below hB)
 have p7 := fun W (hB : Below w.heap.size w W) => runder_calls (cmRoot u.next) u.nb 5 u.seen.b.state W (cmRoot_len u.next) hu.1.1.2.2.2.1 (by decide) (hu.2.2.1.below hB)
 have hE : nextE s u = if hasNextP u then if knownP s.next && (decide (period u.seen.b.slot = period s.fin.b.slot) && !sameCm u.next s.next) then 146 else if cmOk u.next then if underP (cmRoot u.next) u.nb.l 5 u.seen.b.state then 0 else 145 else 130 else 0 := rfl
 unfold rwV at n4 p7
 unfold cmE at p6
 generalize hA : (if finalE u = 0 then nextE s u else finalE u) = A
 have hv := hA.symm
 clear hA
 replace hv := Lib.hid hv
 generalize finalE u = F at *
 generalize nextE s u = E at *
 generalize isFinalP u = r1 at *
 generalize holdsP u.fin = r2 at *
 generalize hdRoot u.fin.b = hr at *
 generalize hdE u.fin.b = he at *
 generalize underP hr u.fb.l 3 u.seen.b.state = r4 at *
 generalize hasNextP u = r5 at *
 generalize knownP s.next = kn at *
 generalize period u.seen.b.slot = ps at *
 generalize period s.fin.b.slot = pf at *
 have e1 : ((ps : Int) == (pf : Int)) = decide (ps = pf) := by rw [Bool.eq_iff_iff]; simp; omega
 generalize decide (ps = pf) = b1 at *
 generalize sameCm u.next s.next = sm at *
 generalize cmRoot u.next = cr at *
 generalize cmOk u.next = ok at *
 generalize underP cr u.nb.l 5 u.seen.b.state = r7 at *
 replace hE := Lib.hid hE
 replace hF := Lib.hid hF
 replace n1 := Lib.hid n1
 replace n2 := Lib.hid n2
 replace n3 := Lib.hid n3
 replace n4 := Lib.hid n4
 replace p1 := Lib.hid p1
 replace p2 := Lib.hid p2
 replace p3 := Lib.hid p3
 replace p4 := Lib.hid p4
 replace p5 := Lib.hid p5
 replace p6 := Lib.hid p6
 replace p7 := Lib.hid p7
 clear hs hu
 go_enter Tryz.func65, Tryz.ntmps65
 go_upto_region 1 with fail
 have HB : Below w.heap.size w ((w.alloc (.cells (srA s) 35)).alloc (.cells (upA u) 33)) := bel
 have K0 := (Blk.new0 w 35 (srA s)).alloc (.cells (upA u) 33)
 have K1 := Blk.new1 w (.cells (srA s) 35) 33 (upA u)
 obtain ⟨W, hW⟩ : ∃ W, ((w.alloc (.cells (srA s) 35)).alloc (.cells (upA u) 33)) = W := ⟨_, rfl⟩
 rw [hW] at HB K0 K1 ⊢
 clear hW
 have hgl : w.heap.size ≤ w.heap.size := Nat.le_refl _
 obtain ⟨g, hg⟩ : ∃ g, w.heap.size = g := ⟨_, rfl⟩
 rw [hg] at K0 K1 ⊢
 replace hgl : w.heap.size ≤ g := by omega
 replace K0 := Lib.hid K0
 replace K1 := Lib.hid K1
 clear hg
 (obtain ⟨k0, f0, l0, m0⟩ := rl_ K0; obtain ⟨k1, f1, l1, m1⟩ := rl_ K1)
 go_wp2_with (first | (with_reducible refine wlr (ldUp _ K1.out) rfl ?_) | (with_reducible refine wlg (ldUp _ K1.out) (by with_unfolding_all rfl) rfl ?_))
 (refine (n1.out _ HB).mono ?_; rintro e w1 ⟨rfl, hN⟩; replace K0 := hn_ K0 hN; replace K1 := hn_ K1 hN; replace HB : Below w.heap.size w w1 := Below.on hN HB; clear hN k0 f0 l0 m0 k1 f1 l1 m1; obtain ⟨k0, f0, l0, m0⟩ := rl_ K0; obtain ⟨k1, f1, l1, m1⟩ := rl_ K1)
 cases r1 with
 | false =>
  have hv2 : A = E := by rw [hv.out, hF.out]; rfl
  replace hv := Lib.hid hv2
  clear hv2 hF n1 n2 n3 n4
  go_wp2_with (first | (with_reducible refine wlr (ldUp _ K1.out) rfl ?_) | (with_reducible refine wlg (ldUp _ K1.out) (by with_unfolding_all rfl) rfl ?_))
  (refine (p1.out _).mono ?_; rintro e w5 ⟨rfl, hN⟩; replace K0 := hn_ K0 hN; replace K1 := hn_ K1 hN; replace HB : Below w.heap.size w w5 := Below.on hN HB; clear hN k0 f0 l0 m0 k1 f1 l1 m1; obtain ⟨k0, f0, l0, m0⟩ := rl_ K0; obtain ⟨k1, f1, l1, m1⟩ := rl_ K1)
  cases r5 with
  | false =>
   go_wp2_with fail
   go_ret
   exact ⟨by rw [hv.out, hE.out]; rfl, HB⟩
  | true =>
   go_wp2_with fail
   refine (p3.out _).mono ?_
   rintro e w6 ⟨rfl, rfl⟩
   go_upto_region 12 with fail
   go_cut [63] (fun s63 wx => s63 = .bool (kn && (b1 && !sm)) ∧ SuW w g s u wx)
   case first =>
    go_wp2_with fail
    (refine (p4.out _).mono ?_; rintro e w7 ⟨rfl, hN⟩; replace K0 := hn_ K0 hN; replace K1 := hn_ K1 hN; replace HB : Below w.heap.size w w7 := Below.on hN HB; clear hN k0 f0 l0 m0 k1 f1 l1 m1; obtain ⟨k0, f0, l0, m0⟩ := rl_ K0; obtain ⟨k1, f1, l1, m1⟩ := rl_ K1)
    cases kn with
    | false =>
     go_wp2_with fail
     go_meet
     case rel => exact ⟨rfl, K0.out, K1.out, HB⟩
    | true =>
     go_wp2_with fail
     refine (p2.out _).mono ?_
     rintro e w8 ⟨rfl, rfl⟩
     cases b1 with
     | false =>
      go_wp2_with fail
      go_meet
      case rel => exact ⟨rfl, K0.out, K1.out, HB⟩
     | true =>
      go_wp2_with fail
      (refine (p5.out _ HB).mono ?_; rintro e w9 ⟨rfl, hN⟩; replace K0 := hn_ K0 hN; replace K1 := hn_ K1 hN; replace HB : Below w.heap.size w w9 := Below.on hN HB; clear hN k0 f0 l0 m0 k1 f1 l1 m1; obtain ⟨k0, f0, l0, m0⟩ := rl_ K0; obtain ⟨k1, f1, l1, m1⟩ := rl_ K1)
      go_wp2_with fail
      go_meet
      case rel => exact ⟨rfl, K0.out, K1.out, HB⟩
   case rest =>
    obtain ⟨rfl, hW⟩ := hcut
    have j0 := Lib.hid hW.1
    have j1 := Lib.hid hW.2.1
    have HBn := hW.2.2
    clear hW k0 f0 l0 m0 k1 f1 l1 m1 K0 K1 HB
    have K0 := j0; have K1 := j1; have HB := HBn
    clear j0 j1 HBn
    (obtain ⟨k0, f0, l0, m0⟩ := rl_ K0; obtain ⟨k1, f1, l1, m1⟩ := rl_ K1)
    clear p1 p2 p3 p4 p5 e1
    have hE2 := hE.out
    generalize (kn && (b1 && !sm)) = q at *
    replace hE := Lib.hid hE2
    clear hE2
    cases q with
    | true =>
     go_wp2_with fail
     go_ret
     exact ⟨by rw [hv.out, hE.out]; rfl, HB⟩
    | false =>
     cases ok with
     | false =>
      have n8 := p6.out
      rw [if_neg (by simp)] at n8
      replace p6 := Lib.hid n8
      clear n8
      go_wp2_with fail
      (refine (p6.out _ HB).mono ?_; rintro e wa ⟨rfl, hN⟩; replace K0 := hn_ K0 hN; replace K1 := hn_ K1 hN; replace HB : Below w.heap.size w wa := Below.on hN HB; clear hN k0 f0 l0 m0 k1 f1 l1 m1; obtain ⟨k0, f0, l0, m0⟩ := rl_ K0; obtain ⟨k1, f1, l1, m1⟩ := rl_ K1)
      go_wp2_with fail
      go_ret
      exact ⟨by rw [hv.out, hE.out]; rfl, HB⟩
     | true =>
      have n8 := p6.out
      rw [if_pos rfl] at n8
      replace p6 := Lib.hid n8
      clear n8
      go_wp2_with fail
      (refine (p6.out _ HB).mono ?_; rintro e wa ⟨rfl, hN⟩; replace K0 := hn_ K0 hN; replace K1 := hn_ K1 hN; replace HB : Below w.heap.size w wa := Below.on hN HB; clear hN k0 f0 l0 m0 k1 f1 l1 m1; obtain ⟨k0, f0, l0, m0⟩ := rl_ K0; obtain ⟨k1, f1, l1, m1⟩ := rl_ K1)
      go_wp2_with fail
      (refine (p7.out _ HB).mono ?_; rintro e wb ⟨rfl, hN⟩; replace K0 := hn_ K0 hN; replace K1 := hn_ K1 hN; replace HB : Below w.heap.size w wb := Below.on hN HB; clear hN k0 f0 l0 m0 k1 f1 l1 m1; obtain ⟨k0, f0, l0, m0⟩ := rl_ K0; obtain ⟨k1, f1, l1, m1⟩ := rl_ K1)
      cases r7
      all_goals
       go_wp2_with fail
       go_ret
       exact ⟨by rw [hv.out, hE.out]; rfl, HB⟩
 | true =>
  go_wp2_with fail
  (refine (n2.out _ HB).mono ?_; rintro e w2 ⟨rfl, hN⟩; replace K0 := hn_ K0 hN; replace K1 := hn_ K1 hN; replace HB : Below w.heap.size w w2 := Below.on hN HB; clear hN k0 f0 l0 m0 k1 f1 l1 m1; obtain ⟨k0, f0, l0, m0⟩ := rl_ K0; obtain ⟨k1, f1, l1, m1⟩ := rl_ K1)
  cases r2 with
  | false =>
   go_wp2_with fail
   go_ret
   exact ⟨by rw [hv.out, hF.out]; rfl, HB⟩
  | true =>
   go_wp2_with fail
   (refine (n3.out _ HB).mono ?_; rintro e w3 ⟨rfl, hN⟩; replace K0 := hn_ K0 hN; replace K1 := hn_ K1 hN; replace HB : Below w.heap.size w w3 := Below.on hN HB; clear hN k0 f0 l0 m0 k1 f1 l1 m1; obtain ⟨k0, f0, l0, m0⟩ := rl_ K0; obtain ⟨k1, f1, l1, m1⟩ := rl_ K1)
   go_wp2_with fail
   (refine (n4.out _ HB).mono ?_; rintro e w4 ⟨rfl, hN⟩; replace K0 := hn_ K0 hN; replace K1 := hn_ K1 hN; replace HB : Below w.heap.size w w4 := Below.on hN HB; clear hN k0 f0 l0 m0 k1 f1 l1 m1; obtain ⟨k0, f0, l0, m0⟩ := rl_ K0; obtain ⟨k1, f1, l1, m1⟩ := rl_ K1)
   cases r4 with
   | false =>
    go_wp2_with fail
    go_ret
    exact ⟨by rw [hv.out, hF.out]; rfl, HB⟩
   | true =>
    have hv2 : A = E := by rw [hv.out, hF.out]; rfl
    replace hv := Lib.hid hv2
    clear hv2 hF n1 n2 n3 n4
    go_wp2_with (first | (with_reducible refine wlr (ldUp _ K1.out) rfl ?_) | (with_reducible refine wlg (ldUp _ K1.out) (by with_unfolding_all rfl) rfl ?_))
    (refine (p1.out _).mono ?_; rintro e w5 ⟨rfl, hN⟩; replace K0 := hn_ K0 hN; replace K1 := hn_ K1 hN; replace HB : Below w.heap.size w w5 := Below.on hN HB; clear hN k0 f0 l0 m0 k1 f1 l1 m1; obtain ⟨k0, f0, l0, m0⟩ := rl_ K0; obtain ⟨k1, f1, l1, m1⟩ := rl_ K1)
    cases r5 with
    | false =>
     go_wp2_with fail
     go_ret
     exact ⟨by rw [hv.out, hE.out]; rfl, HB⟩
    | true =>
     go_wp2_with fail
     refine (p3.out _).mono ?_
     rintro e w6 ⟨rfl, rfl⟩
     go_upto_region 12 with fail
     go_cut [63] (fun s63 wx => s63 = .bool (kn && (b1 && !sm)) ∧ SuW w g s u wx)
     case first =>
      go_wp2_with fail
      (refine (p4.out _).mono ?_; rintro e w7 ⟨rfl, hN⟩; replace K0 := hn_ K0 hN; replace K1 := hn_ K1 hN; replace HB : Below w.heap.size w w7 := Below.on hN HB; clear hN k0 f0 l0 m0 k1 f1 l1 m1; obtain ⟨k0, f0, l0, m0⟩ := rl_ K0; obtain ⟨k1, f1, l1, m1⟩ := rl_ K1)
      cases kn with
      | false =>
       go_wp2_with fail
       go_meet
       case rel => exact ⟨rfl, K0.out, K1.out, HB⟩
      | true =>
       go_wp2_with fail
       refine (p2.out _).mono ?_
       rintro e w8 ⟨rfl, rfl⟩
       cases b1 with
       | false =>
        go_wp2_with fail
        go_meet
        case rel => exact ⟨rfl, K0.out, K1.out, HB⟩
       | true =>
        go_wp2_with fail
        (refine (p5.out _ HB).mono ?_; rintro e w9 ⟨rfl, hN⟩; replace K0 := hn_ K0 hN; replace K1 := hn_ K1 hN; replace HB : Below w.heap.size w w9 := Below.on hN HB; clear hN k0 f0 l0 m0 k1 f1 l1 m1; obtain ⟨k0, f0, l0, m0⟩ := rl_ K0; obtain ⟨k1, f1, l1, m1⟩ := rl_ K1)
        go_wp2_with fail
        go_meet
        case rel => exact ⟨rfl, K0.out, K1.out, HB⟩
     case rest =>
      obtain ⟨rfl, hW⟩ := hcut
      have j0 := Lib.hid hW.1
      have j1 := Lib.hid hW.2.1
      have HBn := hW.2.2
      clear hW k0 f0 l0 m0 k1 f1 l1 m1 K0 K1 HB
      have K0 := j0; have K1 := j1; have HB := HBn
      clear j0 j1 HBn
      (obtain ⟨k0, f0, l0, m0⟩ := rl_ K0; obtain ⟨k1, f1, l1, m1⟩ := rl_ K1)
      clear p1 p2 p3 p4 p5 e1
      have hE2 := hE.out
      generalize (kn && (b1 && !sm)) = q at *
      replace hE := Lib.hid hE2
      clear hE2
      cases q with
      | true =>
       go_wp2_with fail
       go_ret
       exact ⟨by rw [hv.out, hE.out]; rfl, HB⟩
      | false =>
       cases ok with
       | false =>
        have n8 := p6.out
        rw [if_neg (by simp)] at n8
        replace p6 := Lib.hid n8
        clear n8
        go_wp2_with fail
        (refine (p6.out _ HB).mono ?_; rintro e wa ⟨rfl, hN⟩; replace K0 := hn_ K0 hN; replace K1 := hn_ K1 hN; replace HB : Below w.heap.size w wa := Below.on hN HB; clear hN k0 f0 l0 m0 k1 f1 l1 m1; obtain ⟨k0, f0, l0, m0⟩ := rl_ K0; obtain ⟨k1, f1, l1, m1⟩ := rl_ K1)
        go_wp2_with fail
        go_ret
        exact ⟨by rw [hv.out, hE.out]; rfl, HB⟩
       | true =>
        have n8 := p6.out
        rw [if_pos rfl] at n8
        replace p6 := Lib.hid n8
        clear n8
        go_wp2_with fail
        (refine (p6.out _ HB).mono ?_; rintro e wa ⟨rfl, hN⟩; replace K0 := hn_ K0 hN; replace K1 := hn_ K1 hN; replace HB : Below w.heap.size w wa := Below.on hN HB; clear hN k0 f0 l0 m0 k1 f1 l1 m1; obtain ⟨k0, f0, l0, m0⟩ := rl_ K0; obtain ⟨k1, f1, l1, m1⟩ := rl_ K1)
        go_wp2_with fail
        (refine (p7.out _ HB).mono ?_; rintro e wb ⟨rfl, hN⟩; replace K0 := hn_ K0 hN; replace K1 := hn_ K1 hN; replace HB : Below w.heap.size w wb := Below.on hN HB; clear hN k0 f0 l0 m0 k1 f1 l1 m1; obtain ⟨k0, f0, l0, m0⟩ := rl_ K0; obtain ⟨k1, f1, l1, m1⟩ := rl_ K1)
        cases r7
        all_goals
         go_wp2_with fail
         go_ret
         exact ⟨by rw [hv.out, hE.out]; rfl, HB⟩
theorem ifc9 {c d : Prop} [Decidable c] [Decidable d] {α : Type} {x y : α} (h : c ↔ d) : (if c then x else y) = if d then x else y := by
 by_cases k : c
 ·rw [if_pos k, if_pos (h.1 k)]
 ·rw [if_neg k, if_neg fun m => k (h.2 m)]
def keysK (l : List Bytes) (n k : Nat) : List Bytes := ((l.take k).zipIdx.filter fun p => n.testBit p.2).map (·.1)
theorem keysK_succ (l : List Bytes) (n k : Nat) (h : k < l.length) : keysK l n (k + 1) = keysK l n k ++ if n / 2 ^ k % 2 = 1 then [l.getD k []] else [] := by
 unfold keysK
 have e : l.take (k + 1) = l.take k ++ [l.getD k []] := by rw [List.take_add_one, List.getElem?_eq_getElem h, List.getD, List.getElem?_eq_getElem h]; rfl
 have ek : (l.take k).length = k := by rw [List.length_take]; omega
 rw [e, List.zipIdx_append, List.filter_append, List.map_append, ek, Nat.zero_add]
 congr 1
 have hb : n.testBit k = decide (n / 2 ^ k % 2 = 1) := by rw [Nat.testBit_eq_decide_div_mod_eq]
 by_cases h1 : n / 2 ^ k % 2 = 1
 ·rw [if_pos h1]
  simp [hb, h1]
 ·rw [if_neg h1]
  simp [hb, h1]
theorem keysK_len (l : List Bytes) (n k : Nat) : (keysK l n k).length ≤ k := by
 unfold keysK
 rw [List.length_map]
 refine Nat.le_trans (List.length_filter_le _ _) ?_
 rw [List.length_zipIdx, List.length_take]
 omega
theorem keysK_all (l : List Bytes) (n k : Nat) (hk : k ≤ 16) (h : k = 16 ∨ k = l.length) : keysK l n k = keysP l n := by
 unfold keysK keysP
 rcases h with rfl | rfl
 ·rfl
 ·rw [List.take_of_length_le (Nat.le_refl _), List.take_of_length_le hk]
theorem keysP_len (l : List Bytes) (n : Nat) : (keysP l n).length ≤ 16 := by
 unfold keysP
 rw [List.length_map]
 refine Nat.le_trans (List.length_filter_le _ _) ?_
 simp
 omega
theorem textP_len (h : Hd) (n : Nat) : (textP h n).length ≤ 1048576 := by
 unfold textP
 rw [sha_len]
 decide
noncomputable def applyS (s : Sr) (u : Up) (now : Nat) : Sr := if checkE s u now = 0 then applyP s u else s
theorem best_keeps (s : Sr) (u : Up) : (bestP s u).fin = s.fin ∧ (bestP s u).new = s.new ∧ (bestP s u).next = s.next ∧ (bestP s u).last = s.last ∧ (bestP s u).this = s.this := by
 unfold bestP
 split <;> exact ⟨rfl, rfl, rfl, rfl, rfl⟩
theorem new_keeps (s : Sr) (u : Up) : (newP s u).fin = s.fin ∧ (newP s u).next = s.next := by
 unfold newP
 split <;> exact ⟨rfl, rfl⟩
end Go.Proofs.YtegaaccioppfjaaGreatDoor
end
section
namespace Go.Proofs.YtegaaccioppfjaaGreatDoor
open BigFrame Go.RowKit Go.Phx Go.Shelf

theorem best_in {w : World} {s : Sr} {u : Up} (hs : SrIn w s) (hu : UpIn w u) : SrIn w (bestP s u) := by
 obtain ⟨a, b, c, d, e, f, g, h, i⟩ := hs
 unfold bestP
 split
 ·exact ⟨a, b, c, d, hu, f, g, h, i⟩
 ·exact ⟨a, b, c, d, e, f, g, h, i⟩
theorem this_in {w : World} {s : Sr} (u : Up) (hs : SrIn w s) : SrIn w (thisP s u) := by
 obtain ⟨a, b, c, d, e, f, g, h, i⟩ := hs
 have := ones_le u.bits
 exact ⟨a, b, c, d, e, f, g, (show (-9223372036854775808 : Int) ≤ max s.this (onesP u.bits : Int) ∧ max s.this (onesP u.bits : Int) ≤ 9223372036854775807 by omega), i⟩
theorem newP_in {w : World} {s : Sr} {u : Up} (hs : SrIn w s) (hu : UpIn w u) : SrIn w (newP s u) := by
 obtain ⟨a, b, c, d, e, f, g, h, i⟩ := hs
 unfold newP
 split
 ·exact ⟨a, hu.1, c, d, e, f, g, h, i⟩
 ·exact ⟨a, b, c, d, e, f, g, h, i⟩
theorem applyP_in {w : World} {s : Sr} {u : Up} (hs : SrIn w s) (hu : UpIn w u) : SrIn w (applyP s u) := by
 have h3 := newP_in (this_in u (best_in hs hu)) hu
 unfold applyP
 dsimp only
 split
 ·exact clear_in (take_in h3 hu)
 ·exact h3
theorem applyS_in {w : World} {s : Sr} {u : Up} (now : Nat) (hs : SrIn w s) (hu : UpIn w u) : SrIn w (applyS s u now) := by
 unfold applyS
 split
 ·exact applyP_in hs hu
 ·exact hs
end Go.Proofs.YtegaaccioppfjaaGreatDoor
end
