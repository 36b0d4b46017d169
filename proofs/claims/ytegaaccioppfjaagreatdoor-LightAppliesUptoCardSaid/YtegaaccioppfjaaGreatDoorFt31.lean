/- Plain laws and walks, each by its own conditions. -/
import Derived.Test.YtegaaccioppfjaaGreatDoorFt27
import Derived.Test.YtegaaccioppfjaaGreatDoorFt29
import Derived.Test.YtegaaccioppfjaaGreatDoorFt22
set_option linter.unusedSimpArgs false
set_option linter.unusedVariables false
set_option maxRecDepth 100000
set_option maxHeartbeats 16000000
section
namespace Go.Proofs.YtegaaccioppfjaaGreatDoor
open BigFrame Go.RowKit Go.Phx Go.Shelf
attribute [local go_sem] Oper.semAt_some

theorem rlgapply_calls (s : Sr) (u : Up) (now : Nat) (w : World) (hs : SrIn w s) (hu : UpIn w u) (hn : now < 18446744073709551616) : Calls Tryz.prog 30 #[srV s, upV u, .int .u64 now] w (Ret w (.tuple #[srV (applyS s u now), .int .i64 (checkE s u now)])) := by
 have n1 := fun W (hB : Below w.heap.size w W) => rlgcheck_calls s u now W (hs.below hB) (hu.below hB) hn
 have n2 := fun W => rsigners_calls u.bits hu.2.2.2.2.2.1 W
 have n3 := fun W (hB : Below w.heap.size w W) => rbetter_calls u s.best W (hu.2.2.2.1.below hB) (hs.2.2.2.2.1.2.2.2.1.below hB) hu.2.2.2.2.2.1 hs.2.2.2.2.1.2.2.2.2.2.1 hu.1.1.1 hu.2.2.2.2.2.2.2 hu.2.2.2.1.1.1 hs.2.2.2.2.1.1.1.1 hs.2.2.2.2.1.2.2.2.2.2.2.2 hs.2.2.2.2.1.2.2.2.1.1.1
 rw [better_ref] at n3
 have n4 := fun W => rknown_calls s.next W
 have n5 := fun W => rhasNext_calls u W
 have n6 := fun W (hB : Below w.heap.size w W) => risFinal_calls u W (hu.2.2.2.1.below hB)
 have n7 := fun W => rownFinal_calls u hu.1.1.1 hu.2.2.2.1.1.1 W
 have n8 := fun W => rtwo_calls u hu.2.2.2.2.2.1 W
 have hA : applyS s u now = if checkE s u now = 0 then applyP s u else s := rfl
 have hon := ones_le u.bits
 have hla := hs.2.2.2.2.2.2.1
 have hth := hs.2.2.2.2.2.2.2.1
 have hsf := hs.1.1.1
 have huf := hu.2.2.2.1.1.1
 clear hs hu hn
 generalize checkE s u now = e at *
 generalize applyS s u now = S at *
 by_cases he : e = 0
 rotate_left
 ·rw [if_neg he] at hA
  have e3 : (e == 0) = false := by simpa using he
  have e4 : (e != 0) = true := by simpa using he
  replace hA := Lib.hid hA
  replace n1 := Lib.hid n1
  clear n2 n3 n4 n5 n6 n7 n8 hon hla hth hsf huf he
  go_enter Tryz.func30, Tryz.ntmps30
  go_upto_region 1 with fail
  have HB : Below w.heap.size w (((w.alloc (.cells (srA s) 35)).alloc (.cells (upA u) 33)).alloc (.cells (srA Sr.zero) 35)) := bel
  have K0 := ((Blk.new0 w 35 (srA s)).alloc (.cells (upA u) 33)).alloc (.cells (srA Sr.zero) 35)
  have K1 := (Blk.new1 w (.cells (srA s) 35) 33 (upA u)).alloc (.cells (srA Sr.zero) 35)
  have K2 := Blk.new2 w (.cells (srA s) 35) (.cells (upA u) 33) 35 (srA Sr.zero)
  obtain ⟨W, hW⟩ : ∃ W, (((w.alloc (.cells (srA s) 35)).alloc (.cells (upA u) 33)).alloc (.cells (srA Sr.zero) 35)) = W := ⟨_, rfl⟩
  rw [hW] at HB K0 K1 K2 ⊢
  clear hW
  have hgl : w.heap.size ≤ w.heap.size := Nat.le_refl _
  obtain ⟨g, hg⟩ : ∃ g, w.heap.size = g := ⟨_, rfl⟩
  rw [hg] at K0 K1 K2 ⊢
  replace hgl : w.heap.size ≤ g := by omega
  replace K0 := Lib.hid K0
  replace K1 := Lib.hid K1
  replace K2 := Lib.hid K2
  clear hg
  (obtain ⟨k0, f0, l0, m0⟩ := rl_ K0; obtain ⟨k1, f1, l1, m1⟩ := rl_ K1; obtain ⟨k2, f2, l2, m2⟩ := rl_ K2)
  go_wp2_with (first | (with_reducible refine wlr (ldSr _ K0.out) rfl ?_) | (with_reducible refine wlg (ldSr _ K0.out) (by with_unfolding_all rfl) rfl ?_) | (with_reducible refine wlr (ldUp _ K1.out) rfl ?_) | (with_reducible refine wlg (ldUp _ K1.out) (by with_unfolding_all rfl) rfl ?_))
  (refine (n1.out _ HB).mono ?_; rintro e w2 ⟨rfl, hN⟩; replace K0 := Lib.hid (K0.out.below hN); replace K1 := Lib.hid (K1.out.below hN); replace K2 := Lib.hid (K2.out.below hN); replace HB : Below w.heap.size w w2 := Below.on hN HB; clear hN k0 f0 l0 m0 k1 f1 l1 m1 k2 f2 l2 m2; obtain ⟨k0, f0, l0, m0⟩ := rl_ K0; obtain ⟨k1, f1, l1, m1⟩ := rl_ K1; obtain ⟨k2, f2, l2, m2⟩ := rl_ K2)
  go_upto_region 3 with fail
  (go_wp2_with (first | (with_reducible refine wlr (ldSr _ K0.out) rfl ?_) | (with_reducible refine wlg (ldSr _ K0.out) (by with_unfolding_all rfl) rfl ?_) | (with_reducible refine wpList_store_halt (o := ⟨_, .store 35 _ _, _, _, _, none⟩) (stSr _ K2.out (s)) rfl _ _ rfl rfl rfl ?_)); generalize hWN : setRow _ _ _ _ = WN; replace K2 := Lib.hid (show Blk WN _ _ _ by rw [← hWN]; exact Blk.row K2.out.lt); replace K0 := Lib.hid (show Blk WN _ _ _ by rw [← hWN]; exact Blk.rowOver (by omega) K0.out); replace K1 := Lib.hid (show Blk WN _ _ _ by rw [← hWN]; exact Blk.rowOver (by omega) K1.out); replace HB : Below w.heap.size w WN := (by rw [← hWN]; exact Below.row HB (by omega) HB.size); clear hWN k2 f2 l2 m2 k0 f0 l0 m0 k1 f1 l1 m1; obtain ⟨k2, f2, l2, m2⟩ := rl_ K2; obtain ⟨k0, f0, l0, m0⟩ := rl_ K0; obtain ⟨k1, f1, l1, m1⟩ := rl_ K1; unfold Halted)
  go_wp2_with fail
  exact bodyPost_ret (results_cell2 rfl rfl (ldSr _ K2.out)) rfl ⟨by rw [hA.out]; rfl, HB⟩
 subst he
 rw [if_pos rfl] at hA
 obtain ⟨t1, ht1⟩ : ∃ t, bestP s u = t := ⟨_, rfl⟩
 obtain ⟨t2, ht2⟩ : ∃ t, thisP t1 u = t := ⟨_, rfl⟩
 obtain ⟨t3, ht3⟩ : ∃ t, newP t2 u = t := ⟨_, rfl⟩
 have hA2 : S = if goesP s u then clearP (takeP t3 u) else t3 := by rw [hA, ← ht3, ← ht2, ← ht1]; rfl
 obtain ⟨b1, b2, b3, b4, b5⟩ := best_keeps s u
 rw [ht1] at b1 b2 b3 b4 b5
 have hv1 : t1 = if (!s.has || betterP u s.best) = true then { s with best := u, has := true } else s := by rw [← ht1]; rfl
 have hv2 : t2 = { t1 with this := max t1.this (onesP u.bits : Int) } := by rw [← ht2]; rfl
 have c1 : t2.fin = s.fin := by rw [hv2, ← b1]
 have c2 : t2.next = s.next := by rw [hv2, ← b3]
 have c4 : t2.last = s.last := by rw [hv2, ← b4]
 have c5 : t2.this = max s.this (onesP u.bits : Int) := by rw [hv2, ← b5]
 obtain ⟨d1, d2⟩ := new_keeps t2 u
 rw [ht3, c1] at d1
 rw [ht3, c2] at d2
 have hv3 : t3 = if Int.tdiv (max t2.last t2.this) 2 < (onesP u.bits : Int) ∧ t2.new.b.slot < u.seen.b.slot then { t2 with new := u.seen } else t2 := by rw [← ht3]; rfl
 have hgo : goesP s u = (twoP u && (decide (t3.fin.b.slot < u.fin.b.slot) || (!knownP s.next && (hasNextP u && ownFinP u)))) := by
  rw [d1]
  unfold goesP
  rw [Bool.or_comm]
 have hof : ownFinP u = (isFinalP u && decide (period u.fin.b.slot = period u.seen.b.slot)) := rfl
 have nt := fun W => rlgtake_calls t3 u (by rw [d1]; exact hsf) huf W
 clear hA ht1 ht2 ht3 b1 b2 b3 b4 c1 c2 d1
 generalize goesP s u = go at *
 generalize takeP t3 u = tk at *
 generalize betterP u s.best = bt at *
 generalize hasNextP u = hx at *
 generalize isFinalP u = fi at *
 generalize ownFinP u = of at *
 generalize twoP u = tw at *
 generalize decide (period u.fin.b.slot = period u.seen.b.slot) = ow at *
 generalize knownP s.next = kn at *
 generalize onesP u.bits = n at *
 rw [← b5] at c5
 obtain ⟨m, hm⟩ : ∃ m, max t2.last t2.this = m := ⟨_, rfl⟩
 have hmb : -9223372036854775808 ≤ m ∧ m ≤ 9223372036854775807 := by rw [← hm, c4, c5, b5]; omega
 rw [hm] at hv3
 obtain ⟨q, hq⟩ : ∃ q, Int.tdiv m 2 = q := ⟨_, rfl⟩
 have hqb : -9223372036854775808 ≤ q ∧ q ≤ 9223372036854775807 := by
  have hab : q.natAbs = m.natAbs / 2 := by rw [← hq]; exact Int.natAbs_tdiv m 2
  omega
 rw [hq] at hv3
 have hq1 : IntKind.i64.wrap (Int.tdiv m 2) = q := by rw [hq]; exact IntWalk.i64_in _ hqb
 have hq2 : wrap64 (Int.tdiv m 2) = q := by rw [hq]; exact IntWalk.wrap64_in _ hqb
 replace hA2 := Lib.hid hA2
 replace hv1 := Lib.hid hv1
 replace hv2 := Lib.hid hv2
 replace hv3 := Lib.hid hv3
 replace hgo := Lib.hid hgo
 replace hof := Lib.hid hof
 replace n1 := Lib.hid n1
 replace n2 := Lib.hid n2
 replace n3 := Lib.hid n3
 replace n4 := Lib.hid n4
 replace n5 := Lib.hid n5
 replace n6 := Lib.hid n6
 replace n7 := Lib.hid n7
 replace n8 := Lib.hid n8
 replace nt := Lib.hid nt
 replace d2 := Lib.hid d2
 replace hq := Lib.hid hq
 clear c4 c5 b5 hla hth hsf huf hon hmb hqb
 go_enter Tryz.func30, Tryz.ntmps30
 go_upto_region 1 with fail
 have HB : Below w.heap.size w (((w.alloc (.cells (srA s) 35)).alloc (.cells (upA u) 33)).alloc (.cells (srA Sr.zero) 35)) := bel
 have K0 := ((Blk.new0 w 35 (srA s)).alloc (.cells (upA u) 33)).alloc (.cells (srA Sr.zero) 35)
 have K1 := (Blk.new1 w (.cells (srA s) 35) 33 (upA u)).alloc (.cells (srA Sr.zero) 35)
 have K2 := Blk.new2 w (.cells (srA s) 35) (.cells (upA u) 33) 35 (srA Sr.zero)
 obtain ⟨W, hW⟩ : ∃ W, (((w.alloc (.cells (srA s) 35)).alloc (.cells (upA u) 33)).alloc (.cells (srA Sr.zero) 35)) = W := ⟨_, rfl⟩
 rw [hW] at HB K0 K1 K2 ⊢
 clear hW
 have hgl : w.heap.size ≤ w.heap.size := Nat.le_refl _
 obtain ⟨g, hg⟩ : ∃ g, w.heap.size = g := ⟨_, rfl⟩
 rw [hg] at K0 K1 K2 ⊢
 replace hgl : w.heap.size ≤ g := by omega
 replace K0 := Lib.hid K0
 replace K1 := Lib.hid K1
 replace K2 := Lib.hid K2
 clear hg
 (obtain ⟨k0, f0, l0, m0⟩ := rl_ K0; obtain ⟨k1, f1, l1, m1⟩ := rl_ K1; obtain ⟨k2, f2, l2, m2⟩ := rl_ K2)
 go_wp2_with (first | (with_reducible refine wlr (ldSr _ K0.out) rfl ?_) | (with_reducible refine wlg (ldSr _ K0.out) (by with_unfolding_all rfl) rfl ?_) | (with_reducible refine wlr (ldUp _ K1.out) rfl ?_) | (with_reducible refine wlg (ldUp _ K1.out) (by with_unfolding_all rfl) rfl ?_))
 (refine (n1.out _ HB).mono ?_; rintro e w2 ⟨rfl, hN⟩; replace K0 := Lib.hid (K0.out.below hN); replace K1 := Lib.hid (K1.out.below hN); replace K2 := Lib.hid (K2.out.below hN); replace HB : Below w.heap.size w w2 := Below.on hN HB; clear hN k0 f0 l0 m0 k1 f1 l1 m1 k2 f2 l2 m2; obtain ⟨k0, f0, l0, m0⟩ := rl_ K0; obtain ⟨k1, f1, l1, m1⟩ := rl_ K1; obtain ⟨k2, f2, l2, m2⟩ := rl_ K2)
 go_wp2_with fail
 refine (n2.out _).mono ?_
 rintro e w' ⟨rfl, rfl⟩
 go_upto_region 5 with fail
 go_cut [30] (fun s30 wx => s30 = .bool (!s.has || bt) ∧ TkW w g s u wx)
 case first =>
  as_aux_lemma =>
   cases hh : s.has with
   | false =>
    go_wp2_with fail
    go_meet
    case rel => exact ⟨by rw [hh]; rfl, K0.out, K1.out, K2.out, HB⟩
   | true =>
    go_wp2_with (first | (with_reducible refine wlr (ldUp _ K1.out) rfl ?_) | (with_reducible refine wlg (ldUp _ K1.out) (by with_unfolding_all rfl) rfl ?_) | (with_reducible refine wlr (ldSr_best _ K0.out) rfl ?_) | (with_reducible refine wlg (ldSr_best _ K0.out) (by with_unfolding_all rfl) rfl ?_))
    (refine (n3.out _ HB).mono ?_; rintro e w3 ⟨rfl, hN⟩; replace K0 := Lib.hid (K0.out.below hN); replace K1 := Lib.hid (K1.out.below hN); replace K2 := Lib.hid (K2.out.below hN); replace HB : Below w.heap.size w w3 := Below.on hN HB; clear hN k0 f0 l0 m0 k1 f1 l1 m1 k2 f2 l2 m2; obtain ⟨k0, f0, l0, m0⟩ := rl_ K0; obtain ⟨k1, f1, l1, m1⟩ := rl_ K1; obtain ⟨k2, f2, l2, m2⟩ := rl_ K2)
    go_wp2_with fail
    go_meet
    case rel => exact ⟨by rw [hh]; rfl, K0.out, K1.out, K2.out, HB⟩
 obtain ⟨rfl, hcut⟩ := hcut
 obtain ⟨j0, j1, j2, HBn⟩ := hcut
 replace j0 := Lib.hid j0
 replace j1 := Lib.hid j1
 replace j2 := Lib.hid j2
 clear k0 f0 l0 m0 k1 f1 l1 m1 k2 f2 l2 m2 K0 K1 K2 HB
 have K0 := j0; have K1 := j1; have K2 := j2; have HB := HBn
 clear j0 j1 j2 HBn
 (obtain ⟨k0, f0, l0, m0⟩ := rl_ K0; obtain ⟨k1, f1, l1, m1⟩ := rl_ K1; obtain ⟨k2, f2, l2, m2⟩ := rl_ K2)
 clear n1 n2 n3
 have hv4 := hv1.out
 generalize (!s.has || bt) = q1 at *
 replace hv1 := Lib.hid hv4
 clear hv4
 go_upto_if 30 with fail
 go_cut [] (fun wx => TkW w g t1 u wx)
 case first =>
  as_aux_lemma =>
   cases q1 with
   | false =>
    have hv4 := hv1.out
    rw [if_neg (by decide)] at hv4
    go_wp2_with fail
    go_meet
    case rel => exact TkW.mk hv4.symm K0.out K1.out K2.out HB
   | true =>
    have hv4 := hv1.out
    rw [if_pos rfl] at hv4
    replace hv4 := Lib.hid hv4
    (go_wp2_with (first | (with_reducible refine wlr (ldUp _ K1.out) rfl ?_) | (with_reducible refine wlg (ldUp _ K1.out) (by with_unfolding_all rfl) rfl ?_) | (with_reducible refine wpList_store_halt (o := ⟨_, .store 33 _ _, _, _, _, none⟩) (stSr_best _ K0.out (u)) rfl _ _ rfl rfl rfl ?_)); generalize hWN : setRow _ _ _ _ = WN; replace K0 := Lib.hid (show Blk WN _ _ _ by rw [← hWN]; exact Blk.row K0.out.lt); replace K1 := Lib.hid (show Blk WN _ _ _ by rw [← hWN]; exact Blk.rowOver (by omega) K1.out); replace K2 := Lib.hid (show Blk WN _ _ _ by rw [← hWN]; exact Blk.rowOver (by omega) K2.out); replace HB : Below w.heap.size w WN := (by rw [← hWN]; exact Below.row HB (by omega) HB.size); clear hWN k0 f0 l0 m0 k1 f1 l1 m1 k2 f2 l2 m2; obtain ⟨k0, f0, l0, m0⟩ := rl_ K0; obtain ⟨k1, f1, l1, m1⟩ := rl_ K1; obtain ⟨k2, f2, l2, m2⟩ := rl_ K2; unfold Halted)
    (go_wp2_with (first | (with_reducible refine wpList_store_halt (o := ⟨_, .store 4 _ _, _, _, _, none⟩) (stcSr_has _ K0.out (true)) rfl _ _ rfl rfl rfl ?_)); generalize hWN : setRow _ _ _ _ = WN; replace K0 := Lib.hid (show Blk WN _ _ _ by rw [← hWN]; exact Blk.row K0.out.lt); replace K1 := Lib.hid (show Blk WN _ _ _ by rw [← hWN]; exact Blk.rowOver (by omega) K1.out); replace K2 := Lib.hid (show Blk WN _ _ _ by rw [← hWN]; exact Blk.rowOver (by omega) K2.out); replace HB : Below w.heap.size w WN := (by rw [← hWN]; exact Below.row HB (by omega) HB.size); clear hWN k0 f0 l0 m0 k1 f1 l1 m1 k2 f2 l2 m2; obtain ⟨k0, f0, l0, m0⟩ := rl_ K0; obtain ⟨k1, f1, l1, m1⟩ := rl_ K1; obtain ⟨k2, f2, l2, m2⟩ := rl_ K2; unfold Halted)
    go_wp2_with fail
    go_meet
    case rel => exact TkW.mk hv4.out.symm K0.out K1.out K2.out HB
 obtain ⟨j0, j1, j2, HBn⟩ := hcut
 replace j0 := Lib.hid j0
 replace j1 := Lib.hid j1
 replace j2 := Lib.hid j2
 clear k0 f0 l0 m0 k1 f1 l1 m1 k2 f2 l2 m2 K0 K1 K2 HB
 have K0 := j0; have K1 := j1; have K2 := j2; have HB := HBn
 clear j0 j1 j2 HBn
 (obtain ⟨k0, f0, l0, m0⟩ := rl_ K0; obtain ⟨k1, f1, l1, m1⟩ := rl_ K1; obtain ⟨k2, f2, l2, m2⟩ := rl_ K2)
 clear hv1
 go_upto_region 8 with fail
 (go_wp2_with (first | (with_reducible refine wpList_store_halt (o := ⟨_, .store 3 _ _, _, _, _, none⟩) (stcSr_this _ K0.out (max t1.this (n : Int))) rfl _ _ rfl rfl rfl ?_)); generalize hWN : setRow _ _ _ _ = WN; replace K0 := Lib.hid (show Blk WN _ _ _ by rw [← hWN]; exact Blk.row K0.out.lt); replace K1 := Lib.hid (show Blk WN _ _ _ by rw [← hWN]; exact Blk.rowOver (by omega) K1.out); replace K2 := Lib.hid (show Blk WN _ _ _ by rw [← hWN]; exact Blk.rowOver (by omega) K2.out); replace HB : Below w.heap.size w WN := (by rw [← hWN]; exact Below.row HB (by omega) HB.size); clear hWN k0 f0 l0 m0 k1 f1 l1 m1 k2 f2 l2 m2; obtain ⟨k0, f0, l0, m0⟩ := rl_ K0; obtain ⟨k1, f1, l1, m1⟩ := rl_ K1; obtain ⟨k2, f2, l2, m2⟩ := rl_ K2; unfold Halted)
 rw [← hv2.out] at K0
 clear hv2 k0 f0 l0 m0
 (obtain ⟨k0, f0, l0, m0⟩ := rl_ K0)
 go_upto_region 9 with fail
 go_cut [57] (fun s57 wx => s57 = .bool (decide (q < (n : Int)) && decide (t2.new.b.slot < u.seen.b.slot)) ∧ TkW w g t2 u wx)
 case first =>
  as_aux_lemma =>
   have e9 : decide ((t2.new.b.slot : Int) < (u.seen.b.slot : Int)) = decide (t2.new.b.slot < u.seen.b.slot) := decide_eq_decide.2 (by omega)
   by_cases h9 : q < (n : Int)
   ·go_wp2_with fail
    go_meet
    case rel => exact ⟨by rw [decide_eq_true h9, ← e9]; simp, K0.out, K1.out, K2.out, HB⟩
   ·have h9b := Lib.hid (decide_eq_false h9)
    go_wp2_with fail
    go_meet
    case rel => exact ⟨by rw [h9b.out]; rfl, K0.out, K1.out, K2.out, HB⟩
 obtain ⟨rfl, hcut⟩ := hcut
 obtain ⟨j0, j1, j2, HBn⟩ := hcut
 replace j0 := Lib.hid j0
 replace j1 := Lib.hid j1
 replace j2 := Lib.hid j2
 clear k0 f0 l0 m0 k1 f1 l1 m1 k2 f2 l2 m2 K0 K1 K2 HB
 have K0 := j0; have K1 := j1; have K2 := j2; have HB := HBn
 clear j0 j1 j2 HBn
 (obtain ⟨k0, f0, l0, m0⟩ := rl_ K0; obtain ⟨k1, f1, l1, m1⟩ := rl_ K1; obtain ⟨k2, f2, l2, m2⟩ := rl_ K2)
 have hv4 : t3 = if (decide (q < (n : Int)) && decide (t2.new.b.slot < u.seen.b.slot)) = true then { t2 with new := u.seen } else t2 := hv3.out.trans (ifc2 (by simp))
 clear hv3 hq1 hq2 hq hm
 generalize (decide (q < (n : Int)) && decide (t2.new.b.slot < u.seen.b.slot)) = q2 at *
 replace hv4 := Lib.hid hv4
 go_upto_if 57 with fail
 go_cut [] (fun wx => TkW w g t3 u wx)
 case first =>
  as_aux_lemma =>
   cases q2 with
   | false =>
    have hv5 := hv4.out
    rw [if_neg (by decide)] at hv5
    go_wp2_with fail
    go_meet
    case rel => exact TkW.mk hv5.symm K0.out K1.out K2.out HB
   | true =>
    have hv5 := hv4.out
    rw [if_pos rfl] at hv5
    replace hv5 := Lib.hid hv5
    (go_wp2_with (first | (with_reducible refine wpList_store_halt (o := ⟨_, .store 29 _ _, _, _, _, none⟩) (stSr_new _ K0.out (u.seen)) rfl _ _ rfl rfl rfl ?_)); generalize hWN : setRow _ _ _ _ = WN; replace K0 := Lib.hid (show Blk WN _ _ _ by rw [← hWN]; exact Blk.row K0.out.lt); replace K1 := Lib.hid (show Blk WN _ _ _ by rw [← hWN]; exact Blk.rowOver (by omega) K1.out); replace K2 := Lib.hid (show Blk WN _ _ _ by rw [← hWN]; exact Blk.rowOver (by omega) K2.out); replace HB : Below w.heap.size w WN := (by rw [← hWN]; exact Below.row HB (by omega) HB.size); clear hWN k0 f0 l0 m0 k1 f1 l1 m1 k2 f2 l2 m2; obtain ⟨k0, f0, l0, m0⟩ := rl_ K0; obtain ⟨k1, f1, l1, m1⟩ := rl_ K1; obtain ⟨k2, f2, l2, m2⟩ := rl_ K2; unfold Halted)
    go_wp2_with fail
    go_meet
    case rel => exact TkW.mk hv5.out.symm K0.out K1.out K2.out HB
 obtain ⟨j0, j1, j2, HBn⟩ := hcut
 replace j0 := Lib.hid j0
 replace j1 := Lib.hid j1
 replace j2 := Lib.hid j2
 clear k0 f0 l0 m0 k1 f1 l1 m1 k2 f2 l2 m2 K0 K1 K2 HB
 have K0 := j0; have K1 := j1; have K2 := j2; have HB := HBn
 clear j0 j1 j2 HBn
 (obtain ⟨k0, f0, l0, m0⟩ := rl_ K0; obtain ⟨k1, f1, l1, m1⟩ := rl_ K1; obtain ⟨k2, f2, l2, m2⟩ := rl_ K2)
 clear hv4
 rw [← d2.out] at n4
 go_upto_region 11 with fail
 go_cut [10] (fun s10 wx => s10 = .bool (!kn && (hx && of)) ∧ TkW w g t3 u wx)
 case first =>
  as_aux_lemma =>
   go_wp2_with fail
   (refine (n4.out _).mono ?_; rintro e w4 ⟨rfl, hN⟩; replace K0 := Lib.hid (K0.out.below hN); replace K1 := Lib.hid (K1.out.below hN); replace K2 := Lib.hid (K2.out.below hN); replace HB : Below w.heap.size w w4 := Below.on hN HB; clear hN k0 f0 l0 m0 k1 f1 l1 m1 k2 f2 l2 m2; obtain ⟨k0, f0, l0, m0⟩ := rl_ K0; obtain ⟨k1, f1, l1, m1⟩ := rl_ K1; obtain ⟨k2, f2, l2, m2⟩ := rl_ K2)
   cases kn with
   | true =>
    go_wp2_with fail
    go_meet
    case rel => exact ⟨rfl, K0.out, K1.out, K2.out, HB⟩
   | false =>
    go_wp2_with (first | (with_reducible refine wlr (ldUp _ K1.out) rfl ?_) | (with_reducible refine wlg (ldUp _ K1.out) (by with_unfolding_all rfl) rfl ?_))
    (refine (n5.out _).mono ?_; rintro e w5 ⟨rfl, hN⟩; replace K0 := Lib.hid (K0.out.below hN); replace K1 := Lib.hid (K1.out.below hN); replace K2 := Lib.hid (K2.out.below hN); replace HB : Below w.heap.size w w5 := Below.on hN HB; clear hN k0 f0 l0 m0 k1 f1 l1 m1 k2 f2 l2 m2; obtain ⟨k0, f0, l0, m0⟩ := rl_ K0; obtain ⟨k1, f1, l1, m1⟩ := rl_ K1; obtain ⟨k2, f2, l2, m2⟩ := rl_ K2)
    cases hx with
    | false =>
     go_wp2_with fail
     go_meet
     case rel => exact ⟨rfl, K0.out, K1.out, K2.out, HB⟩
    | true =>
     go_wp2_with (first | (with_reducible refine wlr (ldUp _ K1.out) rfl ?_) | (with_reducible refine wlg (ldUp _ K1.out) (by with_unfolding_all rfl) rfl ?_))
     (refine (n6.out _ HB).mono ?_; rintro e w6 ⟨rfl, hN⟩; replace K0 := Lib.hid (K0.out.below hN); replace K1 := Lib.hid (K1.out.below hN); replace K2 := Lib.hid (K2.out.below hN); replace HB : Below w.heap.size w w6 := Below.on hN HB; clear hN k0 f0 l0 m0 k1 f1 l1 m1 k2 f2 l2 m2; obtain ⟨k0, f0, l0, m0⟩ := rl_ K0; obtain ⟨k1, f1, l1, m1⟩ := rl_ K1; obtain ⟨k2, f2, l2, m2⟩ := rl_ K2)
     cases fi with
     | false =>
      go_wp2_with fail
      go_meet
      case rel => exact ⟨by rw [hof.out]; rfl, K0.out, K1.out, K2.out, HB⟩
     | true =>
      go_wp2_with (first | (with_reducible refine wlr (ldUp _ K1.out) rfl ?_) | (with_reducible refine wlg (ldUp _ K1.out) (by with_unfolding_all rfl) rfl ?_))
      (refine (n7.out _).mono ?_; rintro e w7 ⟨rfl, hN⟩; replace K0 := Lib.hid (K0.out.below hN); replace K1 := Lib.hid (K1.out.below hN); replace K2 := Lib.hid (K2.out.below hN); replace HB : Below w.heap.size w w7 := Below.on hN HB; clear hN k0 f0 l0 m0 k1 f1 l1 m1 k2 f2 l2 m2; obtain ⟨k0, f0, l0, m0⟩ := rl_ K0; obtain ⟨k1, f1, l1, m1⟩ := rl_ K1; obtain ⟨k2, f2, l2, m2⟩ := rl_ K2)
      go_wp2_with fail
      go_meet
      case rel => exact ⟨by rw [hof.out]; simp, K0.out, K1.out, K2.out, HB⟩
 obtain ⟨rfl, hcut⟩ := hcut
 obtain ⟨j0, j1, j2, HBn⟩ := hcut
 replace j0 := Lib.hid j0
 replace j1 := Lib.hid j1
 replace j2 := Lib.hid j2
 clear k0 f0 l0 m0 k1 f1 l1 m1 k2 f2 l2 m2 K0 K1 K2 HB
 have K0 := j0; have K1 := j1; have K2 := j2; have HB := HBn
 clear j0 j1 j2 HBn
 (obtain ⟨k0, f0, l0, m0⟩ := rl_ K0; obtain ⟨k1, f1, l1, m1⟩ := rl_ K1; obtain ⟨k2, f2, l2, m2⟩ := rl_ K2)
 clear n4 n5 n6 n7 hof d2
 have hgo2 := hgo.out
 generalize (!kn && (hx && of)) = fst at *
 replace hgo := Lib.hid hgo2
 clear hgo2
 go_upto_region 12 with fail
 go_cut [92] (fun s92 wx => s92 = .bool go ∧ TkW w g t3 u wx)
 case first =>
  as_aux_lemma =>
   have e9 : decide ((t3.fin.b.slot : Int) < (u.fin.b.slot : Int)) = decide (t3.fin.b.slot < u.fin.b.slot) := decide_eq_decide.2 (by omega)
   go_wp2_with (first | (with_reducible refine wlr (ldUp _ K1.out) rfl ?_) | (with_reducible refine wlg (ldUp _ K1.out) (by with_unfolding_all rfl) rfl ?_))
   (refine (n8.out _).mono ?_; rintro e w8 ⟨rfl, hN⟩; replace K0 := Lib.hid (K0.out.below hN); replace K1 := Lib.hid (K1.out.below hN); replace K2 := Lib.hid (K2.out.below hN); replace HB : Below w.heap.size w w8 := Below.on hN HB; clear hN k0 f0 l0 m0 k1 f1 l1 m1 k2 f2 l2 m2; obtain ⟨k0, f0, l0, m0⟩ := rl_ K0; obtain ⟨k1, f1, l1, m1⟩ := rl_ K1; obtain ⟨k2, f2, l2, m2⟩ := rl_ K2)
   cases tw with
   | false =>
    go_wp2_with fail
    go_meet
    case rel => exact ⟨by rw [hgo.out]; rfl, K0.out, K1.out, K2.out, HB⟩
   | true =>
    by_cases h9 : t3.fin.b.slot < u.fin.b.slot
    ·have h9i : (t3.fin.b.slot : Int) < (u.fin.b.slot : Int) := by omega
     have hg3 : go = true := by rw [hgo.out, decide_eq_true h9]; rfl
     replace hg3 := Lib.hid hg3
     clear e9 h9
     go_wp2_with fail
     go_meet
     case rel => exact ⟨by rw [hg3.out], K0.out, K1.out, K2.out, HB⟩
    ·have h9i : ¬ (t3.fin.b.slot : Int) < (u.fin.b.slot : Int) := by omega
     have e10 : decide (t3.fin.b.slot < u.fin.b.slot) = false := decide_eq_false h9
     have hg3 : go = fst := by rw [hgo.out, decide_eq_false h9]; simp
     replace hg3 := Lib.hid hg3
     clear e9 h9
     go_wp2_with fail
     go_meet
     case rel => exact ⟨by rw [hg3.out], K0.out, K1.out, K2.out, HB⟩
 obtain ⟨rfl, hcut⟩ := hcut
 obtain ⟨j0, j1, j2, HBn⟩ := hcut
 replace j0 := Lib.hid j0
 replace j1 := Lib.hid j1
 replace j2 := Lib.hid j2
 clear k0 f0 l0 m0 k1 f1 l1 m1 k2 f2 l2 m2 K0 K1 K2 HB
 have K0 := j0; have K1 := j1; have K2 := j2; have HB := HBn
 clear j0 j1 j2 HBn
 (obtain ⟨k0, f0, l0, m0⟩ := rl_ K0; obtain ⟨k1, f1, l1, m1⟩ := rl_ K1; obtain ⟨k2, f2, l2, m2⟩ := rl_ K2)
 clear hgo n8
 cases go with
 | false =>
  have hS : S = t3 := hA2.out
  replace hS := Lib.hid hS
  clear hA2
  (go_wp2_with (first | (with_reducible refine wlr (ldSr _ K0.out) rfl ?_) | (with_reducible refine wlg (ldSr _ K0.out) (by with_unfolding_all rfl) rfl ?_) | (with_reducible refine wpList_store_halt (o := ⟨_, .store 35 _ _, _, _, _, none⟩) (stSr _ K2.out (t3)) rfl _ _ rfl rfl rfl ?_)); generalize hWN : setRow _ _ _ _ = WN; replace K2 := Lib.hid (show Blk WN _ _ _ by rw [← hWN]; exact Blk.row K2.out.lt); replace K0 := Lib.hid (show Blk WN _ _ _ by rw [← hWN]; exact Blk.rowOver (by omega) K0.out); replace K1 := Lib.hid (show Blk WN _ _ _ by rw [← hWN]; exact Blk.rowOver (by omega) K1.out); replace HB : Below w.heap.size w WN := (by rw [← hWN]; exact Below.row HB (by omega) HB.size); clear hWN k2 f2 l2 m2 k0 f0 l0 m0 k1 f1 l1 m1; obtain ⟨k2, f2, l2, m2⟩ := rl_ K2; obtain ⟨k0, f0, l0, m0⟩ := rl_ K0; obtain ⟨k1, f1, l1, m1⟩ := rl_ K1; unfold Halted)
  go_wp2_with fail
  exact bodyPost_ret (results_cell2 rfl rfl (ldSr _ K2.out)) rfl ⟨by rw [hS.out]; rfl, HB⟩
 | true =>
  have hS : S = clearP tk := hA2.out
  replace hS := Lib.hid hS
  clear hA2
  go_wp2_with (first | (with_reducible refine wlr (ldSr _ K0.out) rfl ?_) | (with_reducible refine wlg (ldSr _ K0.out) (by with_unfolding_all rfl) rfl ?_) | (with_reducible refine wlr (ldUp _ K1.out) rfl ?_) | (with_reducible refine wlg (ldUp _ K1.out) (by with_unfolding_all rfl) rfl ?_))
  (refine (nt.out _).mono ?_; rintro e w9 ⟨rfl, hN⟩; replace K0 := Lib.hid (K0.out.below hN); replace K1 := Lib.hid (K1.out.below hN); replace K2 := Lib.hid (K2.out.below hN); replace HB : Below w.heap.size w w9 := Below.on hN HB; clear hN k0 f0 l0 m0 k1 f1 l1 m1 k2 f2 l2 m2; obtain ⟨k0, f0, l0, m0⟩ := rl_ K0; obtain ⟨k1, f1, l1, m1⟩ := rl_ K1; obtain ⟨k2, f2, l2, m2⟩ := rl_ K2)
  (go_wp2_with (first | (with_reducible refine wpList_store_halt (o := ⟨_, .store 35 _ _, _, _, _, none⟩) (stSr _ K0.out (tk)) rfl _ _ rfl rfl rfl ?_)); generalize hWN : setRow _ _ _ _ = WN; replace K0 := Lib.hid (show Blk WN _ _ _ by rw [← hWN]; exact Blk.row K0.out.lt); replace K1 := Lib.hid (show Blk WN _ _ _ by rw [← hWN]; exact Blk.rowOver (by omega) K1.out); replace K2 := Lib.hid (show Blk WN _ _ _ by rw [← hWN]; exact Blk.rowOver (by omega) K2.out); replace HB : Below w.heap.size w WN := (by rw [← hWN]; exact Below.row HB (by omega) HB.size); clear hWN k0 f0 l0 m0 k1 f1 l1 m1 k2 f2 l2 m2; obtain ⟨k0, f0, l0, m0⟩ := rl_ K0; obtain ⟨k1, f1, l1, m1⟩ := rl_ K1; obtain ⟨k2, f2, l2, m2⟩ := rl_ K2; unfold Halted)
  (go_wp2_with (first | (with_reducible refine wpList_store_halt (o := ⟨_, .store 33 _ _, _, _, _, none⟩) (stSr_best _ K0.out (Up.zero)) rfl _ _ rfl rfl rfl ?_)); generalize hWN : setRow _ _ _ _ = WN; replace K0 := Lib.hid (show Blk WN _ _ _ by rw [← hWN]; exact Blk.row K0.out.lt); replace K1 := Lib.hid (show Blk WN _ _ _ by rw [← hWN]; exact Blk.rowOver (by omega) K1.out); replace K2 := Lib.hid (show Blk WN _ _ _ by rw [← hWN]; exact Blk.rowOver (by omega) K2.out); replace HB : Below w.heap.size w WN := (by rw [← hWN]; exact Below.row HB (by omega) HB.size); clear hWN k0 f0 l0 m0 k1 f1 l1 m1 k2 f2 l2 m2; obtain ⟨k0, f0, l0, m0⟩ := rl_ K0; obtain ⟨k1, f1, l1, m1⟩ := rl_ K1; obtain ⟨k2, f2, l2, m2⟩ := rl_ K2; unfold Halted)
  (go_wp2_with (first | (with_reducible refine wpList_store_halt (o := ⟨_, .store 4 _ _, _, _, _, none⟩) (stcSr_has _ K0.out (false)) rfl _ _ rfl rfl rfl ?_)); generalize hWN : setRow _ _ _ _ = WN; replace K0 := Lib.hid (show Blk WN _ _ _ by rw [← hWN]; exact Blk.row K0.out.lt); replace K1 := Lib.hid (show Blk WN _ _ _ by rw [← hWN]; exact Blk.rowOver (by omega) K1.out); replace K2 := Lib.hid (show Blk WN _ _ _ by rw [← hWN]; exact Blk.rowOver (by omega) K2.out); replace HB : Below w.heap.size w WN := (by rw [← hWN]; exact Below.row HB (by omega) HB.size); clear hWN k0 f0 l0 m0 k1 f1 l1 m1 k2 f2 l2 m2; obtain ⟨k0, f0, l0, m0⟩ := rl_ K0; obtain ⟨k1, f1, l1, m1⟩ := rl_ K1; obtain ⟨k2, f2, l2, m2⟩ := rl_ K2; unfold Halted)
  (go_wp2_with (first | (with_reducible refine wlr (ldSr _ K0.out) rfl ?_) | (with_reducible refine wlg (ldSr _ K0.out) (by with_unfolding_all rfl) rfl ?_) | (with_reducible refine wpList_store_halt (o := ⟨_, .store 35 _ _, _, _, _, none⟩) (stSr _ K2.out (clearP tk)) rfl _ _ rfl rfl rfl ?_)); generalize hWN : setRow _ _ _ _ = WN; replace K2 := Lib.hid (show Blk WN _ _ _ by rw [← hWN]; exact Blk.row K2.out.lt); replace K0 := Lib.hid (show Blk WN _ _ _ by rw [← hWN]; exact Blk.rowOver (by omega) K0.out); replace K1 := Lib.hid (show Blk WN _ _ _ by rw [← hWN]; exact Blk.rowOver (by omega) K1.out); replace HB : Below w.heap.size w WN := (by rw [← hWN]; exact Below.row HB (by omega) HB.size); clear hWN k2 f2 l2 m2 k0 f0 l0 m0 k1 f1 l1 m1; obtain ⟨k2, f2, l2, m2⟩ := rl_ K2; obtain ⟨k0, f0, l0, m0⟩ := rl_ K0; obtain ⟨k1, f1, l1, m1⟩ := rl_ K1; unfold Halted)
  go_wp2_with fail
  exact bodyPost_ret (results_cell2 rfl rfl (ldSr _ K2.out)) rfl ⟨by rw [hS.out]; rfl, HB⟩
end Go.Proofs.YtegaaccioppfjaaGreatDoor
end
