/- Plain laws and walks, each by its own conditions. -/
import Derived.Test.YtegaaccioppfjaaGreatDoorFt26
import Derived.Test.YtegaaccioppfjaaGreatDoorFt22
import Derived.Test.YtegaaccioppfjaaGreatDoorFt8
set_option linter.unusedSimpArgs false
set_option linter.unusedVariables false
set_option maxRecDepth 100000
set_option maxHeartbeats 16000000
section
namespace Go.Proofs.YtegaaccioppfjaaGreatDoor
open BigFrame Go.RowKit Go.Phx Go.Shelf
attribute [local go_sem] Oper.semAt_some

theorem check_chain (F N X : Int) : (if F ≠ 0 then F else if N ≠ 0 then N else X) = if (if F = 0 then N else F) ≠ 0 then (if F = 0 then N else F) else X := by
 by_cases h : F = 0
 ·simp [h]
 ·simp [h]
theorem rlgcheck_calls (s : Sr) (u : Up) (now : Nat) (w : World) (hs : SrIn w s) (hu : UpIn w u) (hn : now < 18446744073709551616) : Calls Tryz.prog 21 #[srV s, upV u, .int .u64 now] w (Ret w (.int .i64 (checkE s u now))) := by
 have p1 := fun W => rsigners_calls u.bits hu.2.2.2.2.2.1 W
 have p2 := fun W (hB : Below w.heap.size w W) => rlholds_calls u.seen W (hu.1.below hB)
 have p3 := fun W (hB : Below w.heap.size w W) => rlgslots_calls s u now hs.1.1.1 hu.1.1.1 hu.2.2.2.2.2.2.2 hn W (hu.2.2.2.1.below hB)
 have p4 := fun W (hB : Below w.heap.size w W) => rlgbranches_calls s u W (hs.below hB) (hu.below hB)
 have q1 := fun W => rperiod_q u.slot hu.2.2.2.2.2.2.2 W
 have q2 := fun W => rperiod_q s.fin.b.slot hs.1.1.1 W
 have n5a := fun W (hB : Below w.heap.size w W) => rlgkeys_calls s.now u.bits hu.2.2.2.2.2.1 W (hs.2.2.1.below hB)
 have n5b := fun W (hB : Below w.heap.size w W) => rlgkeys_calls s.next u.bits hu.2.2.2.2.2.1 W (hs.2.2.2.1.below hB)
 have n6 := fun W (hB : Below w.heap.size w W) => rtext_calls u.seen.b u.slot W (hu.1.1.below hB) hu.2.2.2.2.2.2.2
 have ht := textP_len u.seen.b u.slot
 have hcc : commP s u = if period u.slot = period s.fin.b.slot then s.now else s.next := rfl
 have hv : checkE s u now = if onesP u.bits = 0 then 141 else if holdsP u.seen then if slotsE s u now ≠ 0 then slotsE s u now else if (if finalE u = 0 then nextE s u else finalE u) ≠ 0 then (if finalE u = 0 then nextE s u else finalE u) else if allB (keysP (commP s u).ks.l u.bits) (textP u.seen.b u.slot) u.sig then 0 else 147 else 130 := by
  unfold checkE
  rw [check_chain (finalE u) (nextE s u)]
  rfl
 generalize checkE s u now = C at *
 generalize onesP u.bits = k at *
 generalize holdsP u.seen = h at *
 generalize slotsE s u now = E at *
 generalize (if finalE u = 0 then nextE s u else finalE u) = B at *
 generalize textP u.seen.b u.slot = tx at *
 generalize commP s u = cc at *
 generalize period u.slot = pu at *
 generalize period s.fin.b.slot = pf at *
 have n7 := fun (L : List Bytes) (hL : L.length ≤ 1048576) A cp W (hT : Txts W A L) => rall_calls A cp L hL tx u.sig ht W hT
 have n7a := n7 (keysP s.now.ks.l u.bits) (Nat.le_trans (keysP_len _ _) (by decide))
 have n7b := n7 (keysP s.next.ks.l u.bits) (Nat.le_trans (keysP_len _ _) (by decide))
 replace hv := Lib.hid hv
 replace hcc := Lib.hid hcc
 replace p1 := Lib.hid p1
 replace p2 := Lib.hid p2
 replace p3 := Lib.hid p3
 replace p4 := Lib.hid p4
 replace q1 := Lib.hid q1
 replace q2 := Lib.hid q2
 replace n5a := Lib.hid n5a
 replace n5b := Lib.hid n5b
 replace n6 := Lib.hid n6
 replace n7a := Lib.hid n7a
 replace n7b := Lib.hid n7b
 clear hs hu hn ht n7
 go_enter Tryz.func21, Tryz.ntmps21
 go_upto_region 1 with fail
 have HB : Below w.heap.size w ((w.alloc (.cells (srA s) 35)).alloc (.cells (upA u) 33)) := bel
 have K0 := (Blk.new0 w 35 (srA s)).alloc (.cells (upA u) 33)
 have K1 := Blk.new1 w (.cells (srA s) 35) 33 (upA u)
 obtain ⟨W, hW⟩ : ∃ W, ((w.alloc (.cells (srA s) 35)).alloc (.cells (upA u) 33)) = W := ⟨_, rfl⟩
 rw [hW] at HB K0 K1 ⊢
 clear hW
 have hgl : w.heap.size ≤ w.heap.size := Nat.le_refl _
 obtain ⟨g, hg⟩ : ∃ g, w.heap.size = g := ⟨_, rfl⟩
 rw [hg] at K0 K1 ⊢
 replace hgl : w.heap.size ≤ g := by omega
 replace K0 := Lib.hid K0
 replace K1 := Lib.hid K1
 clear hg
 (obtain ⟨k0, f0, l0, m0⟩ := rl_ K0; obtain ⟨k1, f1, l1, m1⟩ := rl_ K1)
 go_wp2_with fail
 refine (p1.out _).mono ?_
 rintro e w' ⟨rfl, rfl⟩
 by_cases h0 : k = 0
 ·subst h0
  have hC : C = 141 := by rw [hv.out, if_pos rfl]
  replace hC := Lib.hid hC
  clear hv
  go_wp2_with fail
  go_ret
  exact ⟨by rw [hC.out]; rfl, HB⟩
 have e1 : ((k : Int) == 0) = false := by simp; exact h0
 have hv2 := hv.out
 rw [if_neg h0] at hv2
 replace hv := Lib.hid hv2
 clear hv2 h0
 go_wp2_with fail
 (refine (p2.out _ HB).mono ?_; rintro e w2 ⟨rfl, hN⟩; replace K0 := hn_ K0 hN; replace K1 := hn_ K1 hN; replace HB : Below w.heap.size w w2 := Below.on hN HB; clear hN k0 f0 l0 m0 k1 f1 l1 m1; obtain ⟨k0, f0, l0, m0⟩ := rl_ K0; obtain ⟨k1, f1, l1, m1⟩ := rl_ K1)
 cases h with
 | false =>
  have hC : C = 130 := by rw [hv.out]; rfl
  replace hC := Lib.hid hC
  clear hv
  go_wp2_with fail
  go_ret
  exact ⟨by rw [hC.out]; rfl, HB⟩
 | true =>
  have hv2 := hv.out
  rw [if_pos rfl] at hv2
  replace hv := Lib.hid hv2
  clear hv2 e1 p1 p2
  go_wp2_with (first | (with_reducible refine wlr (ldSr _ K0.out) rfl ?_) | (with_reducible refine wlg (ldSr _ K0.out) (by with_unfolding_all rfl) rfl ?_) | (with_reducible refine wlr (ldUp _ K1.out) rfl ?_) | (with_reducible refine wlg (ldUp _ K1.out) (by with_unfolding_all rfl) rfl ?_))
  (refine (p3.out _ HB).mono ?_; rintro e w3 ⟨rfl, hN⟩; replace K0 := hn_ K0 hN; replace K1 := hn_ K1 hN; replace HB : Below w.heap.size w w3 := Below.on hN HB; clear hN k0 f0 l0 m0 k1 f1 l1 m1; obtain ⟨k0, f0, l0, m0⟩ := rl_ K0; obtain ⟨k1, f1, l1, m1⟩ := rl_ K1)
  by_cases h3 : E = 0
  rotate_left
  ·have e3 : (E == 0) = false := by simpa using h3
   have e4 : (E != 0) = true := by simpa using h3
   have hC : C = E := by rw [hv.out, if_pos h3]
   replace hC := Lib.hid hC
   clear hv h3
   go_wp2_with fail
   go_ret
   exact ⟨by rw [hC.out]; rfl, HB⟩
  subst h3
  have hv2 := hv.out
  rw [if_neg (fun h => h rfl)] at hv2
  replace hv := Lib.hid hv2
  clear hv2 p3
  go_wp2_with (first | (with_reducible refine wlr (ldSr _ K0.out) rfl ?_) | (with_reducible refine wlg (ldSr _ K0.out) (by with_unfolding_all rfl) rfl ?_) | (with_reducible refine wlr (ldUp _ K1.out) rfl ?_) | (with_reducible refine wlg (ldUp _ K1.out) (by with_unfolding_all rfl) rfl ?_))
  (refine (p4.out _ HB).mono ?_; rintro e wb ⟨rfl, hN⟩; replace K0 := hn_ K0 hN; replace K1 := hn_ K1 hN; replace HB : Below w.heap.size w wb := Below.on hN HB; clear hN k0 f0 l0 m0 k1 f1 l1 m1; obtain ⟨k0, f0, l0, m0⟩ := rl_ K0; obtain ⟨k1, f1, l1, m1⟩ := rl_ K1)
  by_cases h4 : B = 0
  rotate_left
  ·have e3 : (B == 0) = false := by simpa using h4
   have e4 : (B != 0) = true := by simpa using h4
   have hC : C = B := by rw [hv.out, if_pos h4]
   replace hC := Lib.hid hC
   clear hv h4
   go_wp2_with fail
   go_ret
   exact ⟨by rw [hC.out]; rfl, HB⟩
  subst h4
  have hv2 := hv.out
  rw [if_neg (fun h => h rfl)] at hv2
  replace hv := Lib.hid hv2
  clear hv2 p4
  go_upto_region 12 with fail
  go_wp2_with (first | (with_reducible refine wlr (ldSr_next _ K0.out) rfl ?_) | (with_reducible refine wsh (stCm Cm.zero (Blk.new0 wb 31 (cmA Cm.zero)) s.next) rfl rfl ?_))
  generalize hWN : setRow _ _ _ _ = WM
  have N0 := Lib.hid (show Blk WM g 35 (srA s) by rw [← hWN]; exact Blk.rowOver (by omega) (K0.out.alloc _))
  have N1 := Lib.hid (show Blk WM (g + 1) 33 (upA u) by rw [← hWN]; exact Blk.rowOver (by omega) (K1.out.alloc _))
  have N2 := Lib.hid (show Blk WM wb.heap.size 31 (cmA s.next) by rw [← hWN]; exact Blk.row (by simp))
  have HBn : Below w.heap.size w WM := by rw [← hWN]; exact Below.row (HB.alloc HB.size _) HB.size (by have := HB.size; simp; omega)
  obtain ⟨g2, hg2⟩ : ∃ g2, wb.heap.size = g2 := ⟨_, rfl⟩
  have hgg : g + 1 < g2 := by rw [← hg2]; exact l1
  have hgl2 : w.heap.size ≤ g2 := by rw [← hg2]; exact HB.size
  rw [hg2] at N2 ⊢
  clear hWN hg2 k0 f0 l0 m0 k1 f1 l1 m1 K0 K1 HB
  have K0 := N0; have K1 := N1; have K2 := N2; have HB := HBn
  clear N0 N1 N2 HBn
  (obtain ⟨k0, f0, l0, m0⟩ := rl_ K0; obtain ⟨k1, f1, l1, m1⟩ := rl_ K1; obtain ⟨k2, f2, l2, m2⟩ := rl_ K2)
  unfold Halted
  go_upto_region 13 with fail
  by_cases h5 : pu = pf
  ·have e5 : ((pu : Int) == (pf : Int)) = true := by simp; omega
   have hcn : cc = s.now := by rw [hcc.out, if_pos h5]
   subst hcn
   clear hcc h5 n5b n7b
   have n5 := n5a.out
   have n7 := n7a.out
   clear n5a n7a
   have hwf : ∀ f, Fence.wide.fn f := fun _ => trivial
   refine (wpIn_wide (n := 9)).1 ?_
   refine wpIn_round_held (fun w' => Below WM.heap.size WM w') (fun j => true) (by kernel_rfl) ?_
   have hS0 : (fun w' => Below WM.heap.size WM w') WM.drew := (Below.refl _ _).drew
   have KA100 := Lib.hid (K0.out.drew)
   have KA101 := Lib.hid (K1.out.drew)
   have KA102 := Lib.hid (K2.out.drew)
   have HBt := HB.drew
   refine S_tg 0 (.pointer (some ⟨(g + 1), 24, none⟩)) rfl hS0 ?_
   refine S_tk 1 (.int .u64 (u.slot : Int)) rfl hS0 (fun w' hw => exec_load rfl (by kernel_rfl) (run_load_cell (i := 24) (K1.out.below hw) rfl szU64 nrU64)) ?_
   refine S_tg 3 (.pointer (some ⟨g, 0, none⟩)) rfl hS0 ?_
   refine S_tg 4 (.pointer (some ⟨g, 0, none⟩)) rfl hS0 ?_
   refine S_tg 5 (.pointer (some ⟨g, 0, none⟩)) rfl hS0 ?_
   refine S_tk 6 (.int .u64 (s.fin.b.slot : Int)) rfl hS0 (fun w' hw => exec_load rfl (by kernel_rfl) (run_load_cell (i := 0) (K0.out.below hw) rfl szU64 nrU64)) ?_
   refine S_one 2 (by kernel_rfl) rfl (fun K hK => ?_)
   go_simp
   gi_wp2_with (gi_at_call 66; refine (callsIn_wide.2 (q1.out _)).mono ?_; rintro e WMh1 ⟨rfl, hN⟩; obtain rfl : WM.drew = WMh1 := (by first | exact hN | exact hN.symm))
   refine ⟨(fun _ => hS0), ?_⟩
   refine S_one 7 (by kernel_rfl) rfl (fun K hK => ?_)
   go_simp
   gi_wp2_with (gi_at_call 66; refine (callsIn_wide.2 (q2.out _)).mono ?_; rintro e WMh2 ⟨rfl, hN⟩; obtain rfl : WM.drew = WMh2 := (by first | exact hN | exact hN.symm))
   refine ⟨(fun _ => hS0), ?_⟩
   refine S_tg 8 (.bool true) rfl hS0 ?_
   refine ⟨by kernel_rfl, rfl, ?_⟩
   obtain ⟨WN, hWN⟩ : ∃ WN, WM.drew = WN := ⟨_, rfl⟩
   rw [hWN] at KA100 KA101 KA102 HBt ⊢
   clear hWN hwf hS0 HB
   have HB := HBt
   clear HBt
   clear K0 k0 f0 l0 m0
   clear K1 k1 f1 l1 m1
   clear K2 k2 f2 l2 m2
   have K0 := KA100
   clear KA100
   have K1 := KA101
   clear KA101
   have K2 := KA102
   clear KA102
   (obtain ⟨k0, f0, l0, m0⟩ := rl_ K0; obtain ⟨k1, f1, l1, m1⟩ := rl_ K1; obtain ⟨k2, f2, l2, m2⟩ := rl_ K2)
   clear e5 q1 q2
   (go_wp2_with (first | (with_reducible refine wsh (stCm _ K2.out (s.now)) rfl rfl ?_)); generalize hWN : setRow _ _ _ _ = WN; replace K2 := Lib.hid (show Blk WN _ _ _ by rw [← hWN]; exact Blk.row K2.out.lt); replace K0 := Lib.hid (show Blk WN _ _ _ by rw [← hWN]; exact Blk.rowOver (by omega) K0.out); replace K1 := Lib.hid (show Blk WN _ _ _ by rw [← hWN]; exact Blk.rowOver (by omega) K1.out); replace HB : Below w.heap.size w WN := (by rw [← hWN]; exact Below.row HB (by omega) HB.size); clear hWN k2 f2 l2 m2 k0 f0 l0 m0 k1 f1 l1 m1; obtain ⟨k2, f2, l2, m2⟩ := rl_ K2; obtain ⟨k0, f0, l0, m0⟩ := rl_ K0; obtain ⟨k1, f1, l1, m1⟩ := rl_ K1; unfold Halted)
   generalize hal : allB (keysP s.now.ks.l u.bits) tx u.sig = al at *
   go_upto_region 15 with fail
   clear hal
   replace n5 := Lib.hid n5
   replace n7 := Lib.hid n7
   have hwf : ∀ f, Fence.wide.fn f := fun _ => trivial
   refine (wpIn_wide (n := 9)).1 ?_
   refine wpIn_round_held (fun w' => Below WN.heap.size WN w') (fun j => true) (by kernel_rfl) ?_
   have hS0 : (fun w' => Below WN.heap.size WN w') WN.drew := (Below.refl _ _).drew
   refine S_tk 0 (cmV (s.now)) rfl hS0 (fun w' hw => exec_load rfl (by kernel_rfl) (ldCm (s.now) (K2.out.below hw))) ?_
   refine S_tg 1 (.pointer (some ⟨(g + 1), 22, none⟩)) rfl hS0 ?_
   refine S_tk 2 (.int .u64 (u.bits : Int)) rfl hS0 (fun w' hw => exec_load rfl (by kernel_rfl) (run_load_cell (i := 22) (K1.out.below hw) rfl szU64 nrU64)) ?_
   refine S_tg 4 (.pointer (some ⟨(g + 1), 0, none⟩)) rfl hS0 ?_
   refine S_tg 5 (.pointer (some ⟨(g + 1), 0, none⟩)) rfl hS0 ?_
   refine S_tk 6 (hdV (u.seen.b)) rfl hS0 (fun w' hw => exec_load rfl (by kernel_rfl) (ldUp_seen_b (u) (K1.out.below hw))) ?_
   refine S_tg 7 (.pointer (some ⟨(g + 1), 24, none⟩)) rfl hS0 ?_
   refine S_tk 8 (.int .u64 (u.slot : Int)) rfl hS0 (fun w' hw => exec_load rfl (by kernel_rfl) (run_load_cell (i := 24) (K1.out.below hw) rfl szU64 nrU64)) ?_
   refine S_tg 10 (.pointer (some ⟨(g + 1), 23, none⟩)) rfl hS0 ?_
   refine S_tk 11 (.string (bs u.sig)) rfl hS0 (fun w' hw => exec_load rfl (by kernel_rfl) (run_load_cell (i := 23) (K1.out.below hw) rfl szStr nrStr)) ?_
   refine S_one 3 (by kernel_rfl) rfl (fun K hK => ?_)
   go_simp
   gi_wp2_with (gi_at_call 32; refine (callsIn_wide.2 (n5.out _ (Below.on hS0 HB))).mono ?_; rintro e WNh1 ⟨A50, C50, rfl, hT, hN⟩)
   have TX50 := Lib.hid hT
   clear hT
   replace hS0 := hS0.trans (hN.mono hS0.size)
   clear hN
   refine ⟨(fun _ => hS0), ?_⟩
   refine S_one 9 (by kernel_rfl) rfl (fun K hK => ?_)
   go_simp
   gi_wp2_with (gi_at_call 34; refine (callsIn_wide.2 (n6.out _ (Below.on hS0 HB))).mono ?_; rintro e WNh2 ⟨rfl, hN⟩)
   replace TX50 := Lib.hid (Txts.below TX50.out hN)
   replace hS0 := hS0.trans (hN.mono hS0.size)
   clear hN
   refine ⟨(fun _ => hS0), ?_⟩
   refine S_one 12 (by kernel_rfl) rfl (fun K hK => ?_)
   go_simp
   gi_wp2_with (gi_at_call 33; refine (callsIn_wide.2 (n7.out _ _ _ TX50.out)).mono ?_; rintro e WNh3 ⟨rfl, hN⟩)
   replace TX50 := Lib.hid (Txts.below TX50.out hN)
   replace hS0 := hS0.trans (hN.mono hS0.size)
   clear hN
   refine ⟨(fun _ => hS0), ?_⟩
   refine S_tg 13 (.bool al) rfl hS0 ?_
   refine ⟨by kernel_rfl, rfl, ?_⟩
   all_goals
    cases al
    all_goals
     go_wp2_with fail
     go_ret
     exact ⟨by rw [hv.out]; rfl, Below.on hS0 HB⟩
  ·have e5 : ((pu : Int) == (pf : Int)) = false := by simp; omega
   have hcn : cc = s.next := by rw [hcc.out, if_neg h5]
   subst hcn
   clear hcc h5 n5a n7a
   have n5 := n5b.out
   have n7 := n7b.out
   clear n5b n7b
   have hwf : ∀ f, Fence.wide.fn f := fun _ => trivial
   refine (wpIn_wide (n := 9)).1 ?_
   refine wpIn_round_held (fun w' => Below WM.heap.size WM w') (fun j => true) (by kernel_rfl) ?_
   have hS0 : (fun w' => Below WM.heap.size WM w') WM.drew := (Below.refl _ _).drew
   have KA100 := Lib.hid (K0.out.drew)
   have KA101 := Lib.hid (K1.out.drew)
   have KA102 := Lib.hid (K2.out.drew)
   have HBt := HB.drew
   refine S_tg 0 (.pointer (some ⟨(g + 1), 24, none⟩)) rfl hS0 ?_
   refine S_tk 1 (.int .u64 (u.slot : Int)) rfl hS0 (fun w' hw => exec_load rfl (by kernel_rfl) (run_load_cell (i := 24) (K1.out.below hw) rfl szU64 nrU64)) ?_
   refine S_tg 3 (.pointer (some ⟨g, 0, none⟩)) rfl hS0 ?_
   refine S_tg 4 (.pointer (some ⟨g, 0, none⟩)) rfl hS0 ?_
   refine S_tg 5 (.pointer (some ⟨g, 0, none⟩)) rfl hS0 ?_
   refine S_tk 6 (.int .u64 (s.fin.b.slot : Int)) rfl hS0 (fun w' hw => exec_load rfl (by kernel_rfl) (run_load_cell (i := 0) (K0.out.below hw) rfl szU64 nrU64)) ?_
   refine S_one 2 (by kernel_rfl) rfl (fun K hK => ?_)
   go_simp
   gi_wp2_with (gi_at_call 66; refine (callsIn_wide.2 (q1.out _)).mono ?_; rintro e WMh1 ⟨rfl, hN⟩; obtain rfl : WM.drew = WMh1 := (by first | exact hN | exact hN.symm))
   refine ⟨(fun _ => hS0), ?_⟩
   refine S_one 7 (by kernel_rfl) rfl (fun K hK => ?_)
   go_simp
   gi_wp2_with (gi_at_call 66; refine (callsIn_wide.2 (q2.out _)).mono ?_; rintro e WMh2 ⟨rfl, hN⟩; obtain rfl : WM.drew = WMh2 := (by first | exact hN | exact hN.symm))
   refine ⟨(fun _ => hS0), ?_⟩
   refine S_tg 8 (.bool false) rfl hS0 ?_
   refine ⟨by kernel_rfl, rfl, ?_⟩
   obtain ⟨WN, hWN⟩ : ∃ WN, WM.drew = WN := ⟨_, rfl⟩
   rw [hWN] at KA100 KA101 KA102 HBt ⊢
   clear hWN hwf hS0 HB
   have HB := HBt
   clear HBt
   clear K0 k0 f0 l0 m0
   clear K1 k1 f1 l1 m1
   clear K2 k2 f2 l2 m2
   have K0 := KA100
   clear KA100
   have K1 := KA101
   clear KA101
   have K2 := KA102
   clear KA102
   (obtain ⟨k0, f0, l0, m0⟩ := rl_ K0; obtain ⟨k1, f1, l1, m1⟩ := rl_ K1; obtain ⟨k2, f2, l2, m2⟩ := rl_ K2)
   clear e5 q1 q2
   generalize hal : allB (keysP s.next.ks.l u.bits) tx u.sig = al at *
   go_upto_region 15 with fail
   clear hal
   replace n5 := Lib.hid n5
   replace n7 := Lib.hid n7
   have hwf : ∀ f, Fence.wide.fn f := fun _ => trivial
   refine (wpIn_wide (n := 9)).1 ?_
   refine wpIn_round_held (fun w' => Below WN.heap.size WN w') (fun j => true) (by kernel_rfl) ?_
   have hS0 : (fun w' => Below WN.heap.size WN w') WN.drew := (Below.refl _ _).drew
   refine S_tk 0 (cmV (s.next)) rfl hS0 (fun w' hw => exec_load rfl (by kernel_rfl) (ldCm (s.next) (K2.out.below hw))) ?_
   refine S_tg 1 (.pointer (some ⟨(g + 1), 22, none⟩)) rfl hS0 ?_
   refine S_tk 2 (.int .u64 (u.bits : Int)) rfl hS0 (fun w' hw => exec_load rfl (by kernel_rfl) (run_load_cell (i := 22) (K1.out.below hw) rfl szU64 nrU64)) ?_
   refine S_tg 4 (.pointer (some ⟨(g + 1), 0, none⟩)) rfl hS0 ?_
   refine S_tg 5 (.pointer (some ⟨(g + 1), 0, none⟩)) rfl hS0 ?_
   refine S_tk 6 (hdV (u.seen.b)) rfl hS0 (fun w' hw => exec_load rfl (by kernel_rfl) (ldUp_seen_b (u) (K1.out.below hw))) ?_
   refine S_tg 7 (.pointer (some ⟨(g + 1), 24, none⟩)) rfl hS0 ?_
   refine S_tk 8 (.int .u64 (u.slot : Int)) rfl hS0 (fun w' hw => exec_load rfl (by kernel_rfl) (run_load_cell (i := 24) (K1.out.below hw) rfl szU64 nrU64)) ?_
   refine S_tg 10 (.pointer (some ⟨(g + 1), 23, none⟩)) rfl hS0 ?_
   refine S_tk 11 (.string (bs u.sig)) rfl hS0 (fun w' hw => exec_load rfl (by kernel_rfl) (run_load_cell (i := 23) (K1.out.below hw) rfl szStr nrStr)) ?_
   refine S_one 3 (by kernel_rfl) rfl (fun K hK => ?_)
   go_simp
   gi_wp2_with (gi_at_call 32; refine (callsIn_wide.2 (n5.out _ (Below.on hS0 HB))).mono ?_; rintro e WNh1 ⟨A50, C50, rfl, hT, hN⟩)
   have TX50 := Lib.hid hT
   clear hT
   replace hS0 := hS0.trans (hN.mono hS0.size)
   clear hN
   refine ⟨(fun _ => hS0), ?_⟩
   refine S_one 9 (by kernel_rfl) rfl (fun K hK => ?_)
   go_simp
   gi_wp2_with (gi_at_call 34; refine (callsIn_wide.2 (n6.out _ (Below.on hS0 HB))).mono ?_; rintro e WNh2 ⟨rfl, hN⟩)
   replace TX50 := Lib.hid (Txts.below TX50.out hN)
   replace hS0 := hS0.trans (hN.mono hS0.size)
   clear hN
   refine ⟨(fun _ => hS0), ?_⟩
   refine S_one 12 (by kernel_rfl) rfl (fun K hK => ?_)
   go_simp
   gi_wp2_with (gi_at_call 33; refine (callsIn_wide.2 (n7.out _ _ _ TX50.out)).mono ?_; rintro e WNh3 ⟨rfl, hN⟩)
   replace TX50 := Lib.hid (Txts.below TX50.out hN)
   replace hS0 := hS0.trans (hN.mono hS0.size)
   clear hN
   refine ⟨(fun _ => hS0), ?_⟩
   refine S_tg 13 (.bool al) rfl hS0 ?_
   refine ⟨by kernel_rfl, rfl, ?_⟩
   all_goals
    cases al
    all_goals
     go_wp2_with fail
     go_ret
     exact ⟨by rw [hv.out]; rfl, Below.on hS0 HB⟩
end Go.Proofs.YtegaaccioppfjaaGreatDoor
end
