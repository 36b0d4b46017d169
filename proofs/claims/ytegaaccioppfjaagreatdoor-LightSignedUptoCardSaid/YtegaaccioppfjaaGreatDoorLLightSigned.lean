/- What is applied was signed, of the committee of its period, by those that it names, one at least; what becomes the finalized header by two thirds, and it stood under the signed one: any store, update, slot, their bulk bounded. -/
import Derived.Test.YtegaaccioppfjaaGreatDoorFt22
import Derived.Test.YtegaaccioppfjaaGreatDoorFt26
import Derived.Test.YtegaaccioppfjaaGreatDoorFtX
import Derived.Test.YtegaaccioppfjaaGreatDoorFt8
import Derived.Test.YtegaaccioppfjaaGreatDoorFt9
import Derived.Test.YtegaaccioppfjaaGreatDoorFt16
import Derived.WalkKit
import Derived.ProofKit
import Derived.OpenShut
set_option linter.unusedSimpArgs false
set_option linter.unusedVariables false
namespace Go.Proofs.YtegaaccioppfjaaGreatDoor
open BigFrame Go.RowKit Go.Phx Go.Shelf
attribute [local go_sem] Oper.semAt_some
namespace lawLightSigned

theorem allB_empty (t g : Bytes) : allB [] t g = false := by
  unfold allB
  cases fromL g with
  | none => rfl
  | some s => first | rfl | (simp [sumE]; done) | (simp [sumE, holdsB]; done)
def SnW (w : World) (g g2 b : Nat) (s : Sr) (u : Up) (x : Sr) (c : Cm) (wx : World) : Prop := Blk wx g 35 (srA s) ∧ Blk wx (g + 1) 33 (upA u) ∧ Blk wx g2 35 (srA x) ∧ Blk wx b 31 (cmA c) ∧ Below w.heap.size w wx
set_option maxRecDepth 100000 in
set_option maxHeartbeats 8000000 in
theorem walk (s : Sr) (u : Up) (now : Int) (hn0 : 0 ≤ now) (hn1 : now ≤ 18446744073709551615) (w : World) (hs : SrIn w s) (hu : UpIn w u) (hk : HasK w) :
    Calls Tryz.prog 12 #[srV s, upV u, .int .u64 now] w (Ret w (.bool true)) := by
  obtain ⟨n, rfl⟩ : ∃ n : Nat, now = n := ⟨now.toNat, (Int.toNat_of_nonneg hn0).symm⟩
  have hn : n < 18446744073709551616 := by omega
  have n1 := fun W (hB : Below w.heap.size w W) => shown14_calls W (hk.on hB)
  have n2 := fun W (hB : Below w.heap.size w W) => lgapply_calls s u n W (hk.on hB) (hs.below hB) (hu.below hB) hn
  have hx := applyS_in n hs hu
  have hcc : CmIn w (commP s u) := by
    unfold commP
    split
    · exact hs.2.2.1
    · exact hs.2.2.2.1
  have n3 := fun W (hB : Below w.heap.size w W) => rlgkeys_calls (commP s u) u.bits hu.2.2.2.2.2.1 W (hcc.below hB)
  have n4 := fun W (hB : Below w.heap.size w W) => rtext_calls u.seen.b u.slot W (hu.1.1.below hB) hu.2.2.2.2.2.2.2
  have n5 := fun A cp W (hT : Txts W A (keysP (commP s u).ks.l u.bits)) => rall_calls A cp (keysP (commP s u).ks.l u.bits) (by have := keysP_len (commP s u).ks.l u.bits; omega) (textP u.seen.b u.slot) u.sig (textP_len _ _) W hT
  have n6 := fun W (hB : Below w.heap.size w W) => rsameLt_calls (applyS s u n).fin s.fin W (hx.1.below hB) (hs.1.below hB)
  have n7 := fun W (hB : Below w.heap.size w W) => rhroot_calls u.fin.b W (hu.2.2.2.1.1.below hB)
  have n8 := fun W => lones_calls u.bits hu.2.2.2.2.2.1 W
  have n9 := fun W (hB : Below w.heap.size w W) => rcheck_calls (hdRoot u.fin.b) u.fb.addr u.fb.cap u.fb.l 3 u.seen.b.state (by have := hdRoot_len u.fin.b; omega) (by have := hu.1.1.2.2.2.1; omega) (by have := hu.2.2.2.2.1.2.2.1; omega) (by decide) (fun y hy => by have := hu.2.2.2.2.1.2.2.2 y hy; omega) W (Txts.below hu.2.2.2.2.1.1 hB)
  have hv : checkE s u n = 0 → allB (keysP (commP s u).ks.l u.bits) (textP u.seen.b u.slot) u.sig = true ∧ (keysP (commP s u).ks.l u.bits).length ≠ 0 ∧ (sameLt (applyS s u n).fin s.fin = false → hdE u.fin.b = 0 ∧ 32 ≤ 3 * onesP u.bits ∧ decide (CheckP (hdRoot u.fin.b) u.fb.l 3 u.seen.b.state) = true) := fun h => by
    obtain ⟨a, b, c⟩ := apply_signed h allB_empty
    refine ⟨a, b, fun k => ?_⟩
    unfold applyS at k
    rw [if_pos h] at k
    obtain ⟨d, e, f⟩ := c k
    exact ⟨by unfold hdE; rw [if_pos d], e, decide_eq_true f⟩
  have q1 := wrap_period u.slot hu.2.2.2.2.2.2.2
  have q2 := wrap_period s.fin.b.slot hs.1.1.1
  have q3 := r3 u.bits
  have hcm : commP s u = if period u.slot = period s.fin.b.slot then s.now else s.next := rfl
  generalize checkE s u n = e at *
  generalize applyS s u n = x at *
  generalize commP s u = cc at *
  generalize textP u.seen.b u.slot = tx at *
  generalize sameLt x.fin s.fin = r1 at *
  generalize hdRoot u.fin.b = hr at *
  generalize hdE u.fin.b = he at *
  generalize decide (CheckP hr u.fb.l 3 u.seen.b.state) = ck at *
  generalize period u.slot = pu at *
  generalize period s.fin.b.slot = pf at *
  generalize onesP u.bits = k at *
  obtain ⟨L, hL⟩ : ∃ L, keysP cc.ks.l u.bits = L := ⟨_, rfl⟩
  rw [hL] at n5 hv
  simp only [hL] at n3
  generalize allB L tx u.sig = al at *
  replace hL := Lib.hid hL
  replace hv := Lib.hid hv
  replace hcm := Lib.hid hcm
  replace n1 := Lib.hid n1
  replace n2 := Lib.hid n2
  replace n3 := Lib.hid n3
  replace n4 := Lib.hid n4
  replace n5 := Lib.hid n5
  replace n6 := Lib.hid n6
  replace n7 := Lib.hid n7
  replace n8 := Lib.hid n8
  replace n9 := Lib.hid n9
  clear hs hu hk hn0 hn1 hn hx hcc
  have K0 := (Blk.new0 w 35 (srA s)).alloc (.cells (upA u) 33)
  have K1 := Blk.new1 w (.cells (srA s) 35) 33 (upA u)
  have HB : Below w.heap.size w ((w.alloc (.cells (srA s) 35)).alloc (.cells (upA u) 33)) := (by repeat (first | assumption | exact Below.refl _ _ | refine Below.setCell ?_ (by first | exact Nat.le_refl _ | (simp; done) | omega | (simp; omega)) _ | refine Below.alloc ?_ (by first | exact Nat.le_refl _ | (simp; done) | omega | (simp; omega)) _ | refine below_drewN ?_ _ | refine Below.drew ?_ | refine Below.on (by assumption) ?_ | refine Below.via (by assumption) (by first | exact Nat.le_refl _ | (simp; done) | omega | (simp; omega)) ?_))
  go_enter Tryz.func12, Tryz.ntmps12
  go_upto_region 1 with fail
  obtain ⟨W, hW⟩ : ∃ W, ((w.alloc (.cells (srA s) 35)).alloc (.cells (upA u) 33)) = W := ⟨_, rfl⟩
  rw [hW] at K0 K1 HB ⊢
  clear hW
  obtain ⟨g, hg⟩ : ∃ g, w.heap.size = g := ⟨_, rfl⟩
  have hgl : w.heap.size ≤ g := by omega
  rw [hg] at K0 K1 ⊢
  clear hg
  replace K0 := Lib.hid K0
  replace K1 := Lib.hid K1
  (have k0 := Blk.cell K0.out; have f0 := Blk.free K0.out; have l0 := Blk.lt K0.out; have m0 := Nat.le_of_lt l0; have k1 := Blk.cell K1.out; have f1 := Blk.free K1.out; have l1 := Blk.lt K1.out; have m1 := Nat.le_of_lt l1)
  go_wp2_with fail
  (refine (n1.out _ HB).mono ?_; rintro e w1 ⟨rfl, hN⟩; have N0 := Lib.hid (K0.out.below hN); have N1 := Lib.hid (K1.out.below hN); have HBn : Below w.heap.size w w1 := Below.on hN HB; clear hN HB K0 k0 f0 l0 m0 K1 k1 f1 l1 m1; have K0 := N0; clear N0; have K1 := N1; clear N1; have HB := HBn; clear HBn; (have k0 := Blk.cell K0.out; have f0 := Blk.free K0.out; have l0 := Blk.lt K0.out; have m0 := Nat.le_of_lt l0; have k1 := Blk.cell K1.out; have f1 := Blk.free K1.out; have l1 := Blk.lt K1.out; have m1 := Nat.le_of_lt l1))
  go_wp2_with (first | (with_reducible refine wpList_load_run (o := ⟨_, .load 35 _, _, _, _, none⟩) (ldSr _ K0.out) rfl _ rfl rfl ?_) | (with_reducible refine wpList_load_run_g (o := ⟨_, .load 35 _, _, _, _, some _⟩) (ldSr _ K0.out) (by with_unfolding_all rfl) _ rfl rfl ?_) | (with_reducible refine wpList_load_run (o := ⟨_, .load 33 _, _, _, _, none⟩) (ldUp _ K1.out) rfl _ rfl rfl ?_) | (with_reducible refine wpList_load_run_g (o := ⟨_, .load 33 _, _, _, _, some _⟩) (ldUp _ K1.out) (by with_unfolding_all rfl) _ rfl rfl ?_))
  (refine (n2.out _ HB).mono ?_; rintro e w2 ⟨rfl, hN⟩; have N0 := Lib.hid (K0.out.below hN); have N1 := Lib.hid (K1.out.below hN); have HBn : Below w.heap.size w w2 := Below.on hN HB; clear hN HB K0 k0 f0 l0 m0 K1 k1 f1 l1 m1; have K0 := N0; clear N0; have K1 := N1; clear N1; have HB := HBn; clear HBn; (have k0 := Blk.cell K0.out; have f0 := Blk.free K0.out; have l0 := Blk.lt K0.out; have m0 := Nat.le_of_lt l0; have k1 := Blk.cell K1.out; have f1 := Blk.free K1.out; have l1 := Blk.lt K1.out; have m1 := Nat.le_of_lt l1))
  (go_wp2_with (first | (with_reducible refine wpList_store_halt (o := ⟨_, .store 35 _ _, _, _, _, none⟩) (stSr Sr.zero (Blk.new0 w2 35 (srA Sr.zero)) (x)) rfl _ _ rfl rfl rfl ?_)); generalize hWN : setRow _ _ _ _ = WN; have N0 := Lib.hid (show Blk WN _ _ _ by rw [← hWN]; exact Blk.rowOver (Nat.ne_of_lt K0.out.lt) (K0.out.alloc _)); have N1 := Lib.hid (show Blk WN _ _ _ by rw [← hWN]; exact Blk.rowOver (Nat.ne_of_lt K1.out.lt) (K1.out.alloc _)); have N2 := (show Blk WN (World.heap w2).size 35 (srA (x)) by rw [← hWN]; exact Blk.row (by simp)); have HBn : Below w.heap.size w WN := (by rw [← hWN]; exact Below.row (HB.alloc HB.size _) HB.size (by have := HB.size; simp; omega)); obtain ⟨g2, hgj⟩ : ∃ g, (World.heap w2).size = g := ⟨_, rfl⟩; have hg0_2 : _ < g2 := (by rw [← hgj]; exact l0); have hg1_2 : _ < g2 := (by rw [← hgj]; exact l1); have hgl2 : w.heap.size ≤ g2 := (by rw [← hgj]; exact HB.size); rw [hgj] at N2 ⊢; replace N2 := Lib.hid N2; clear hWN hgj HB K0 k0 f0 l0 m0 K1 k1 f1 l1 m1; have K0 := N0; clear N0; have K1 := N1; clear N1; have K2 := N2; clear N2; have HB := HBn; clear HBn; (have k0 := Blk.cell K0.out; have f0 := Blk.free K0.out; have l0 := Blk.lt K0.out; have m0 := Nat.le_of_lt l0; have k1 := Blk.cell K1.out; have f1 := Blk.free K1.out; have l1 := Blk.lt K1.out; have m1 := Nat.le_of_lt l1; have k2 := Blk.cell K2.out; have f2 := Blk.free K2.out; have l2 := Blk.lt K2.out; have m2 := Nat.le_of_lt l2); unfold Halted)
  by_cases he0 : e = 0
  rotate_left
  · have e3 : (e == 0) = false := by simpa using he0
    have e4 : (e != 0) = true := by simpa using he0
    clear he0 hv
    go_wp2_with fail
    go_ret
    exact ⟨rfl, HB⟩
  subst he0
  obtain ⟨hal, hln, hrest⟩ := hv.out rfl
  subst hal
  replace hrest := Lib.hid hrest
  clear hv n2
  go_upto_region 5 with fail
  obtain ⟨W5, hW5⟩ : ∃ W5, W5 = WN := ⟨_, rfl⟩
  subst hW5
  go_wp2_with (first | (with_reducible refine wpList_load_run (o := ⟨_, .load 31 _, _, _, _, none⟩) (ldSr_next _ K0.out) rfl _ rfl rfl ?_) | (with_reducible refine wpList_store_halt (o := ⟨_, .store 31 _ _, _, _, _, none⟩) (stCm Cm.zero (Blk.new0 W5 31 (cmA Cm.zero)) s.next) rfl _ _ rfl rfl rfl ?_))
  generalize hWN : setRow _ _ _ _ = WM
  have N0 := Lib.hid (show Blk WM g 35 (srA s) by rw [← hWN]; exact Blk.rowOver (by omega) (K0.out.alloc _))
  have N1 := Lib.hid (show Blk WM (g + 1) 33 (upA u) by rw [← hWN]; exact Blk.rowOver (by omega) (K1.out.alloc _))
  have N2 := Lib.hid (show Blk WM g2 35 (srA x) by rw [← hWN]; exact Blk.rowOver (by omega) (K2.out.alloc _))
  have N3 := Lib.hid (show Blk WM W5.heap.size 31 (cmA s.next) by rw [← hWN]; exact Blk.row (by simp))
  have HBn : Below w.heap.size w WM := by rw [← hWN]; exact Below.row (HB.alloc HB.size _) HB.size (by have := HB.size; simp; omega)
  obtain ⟨g3, hg3⟩ : ∃ g3, W5.heap.size = g3 := ⟨_, rfl⟩
  have hgg : g + 1 < g3 := by rw [← hg3]; exact l1
  have hgg2 : g2 < g3 := by rw [← hg3]; exact l2
  have hgl3 : w.heap.size ≤ g3 := by rw [← hg3]; exact HB.size
  rw [hg3] at N3 ⊢
  clear hWN hg3 k0 f0 l0 m0 k1 f1 l1 m1 k2 f2 l2 m2 K0 K1 K2 HB
  have K0 := N0; have K1 := N1; have K2 := N2; have K3 := N3; have HB := HBn
  clear N0 N1 N2 N3 HBn
  (have k0 := Blk.cell K0.out; have f0 := Blk.free K0.out; have l0 := Blk.lt K0.out; have m0 := Nat.le_of_lt l0; have k1 := Blk.cell K1.out; have f1 := Blk.free K1.out; have l1 := Blk.lt K1.out; have m1 := Nat.le_of_lt l1; have k2 := Blk.cell K2.out; have f2 := Blk.free K2.out; have l2 := Blk.lt K2.out; have m2 := Nat.le_of_lt l2; have k3 := Blk.cell K3.out; have f3 := Blk.free K3.out; have l3 := Blk.lt K3.out; have m3 := Nat.le_of_lt l3)
  unfold Halted
  go_upto_region 6 with fail
  go_upto_if 37 with fail
  go_cut [] (fun wx => SnW w g g2 g3 s u x cc wx)
  case first =>
    as_aux_lemma =>
      by_cases h5 : pu = pf
      · have e5 : ((pu : Int) == (pf : Int)) = true := by simp; omega
        have hcn : cc = s.now := by rw [hcm.out, if_pos h5]
        replace hcn := Lib.hid hcn
        clear h5
        (go_wp2_with (first | (with_reducible refine wpList_store_halt (o := ⟨_, .store 31 _ _, _, _, _, none⟩) (stCm _ K3.out (s.now)) rfl _ _ rfl rfl rfl ?_)); generalize hWN : setRow _ _ _ _ = WN; have N3 := Lib.hid (show Blk WN _ _ _ by rw [← hWN]; exact Blk.row K3.out.lt); have N0 := Lib.hid (show Blk WN _ _ _ by rw [← hWN]; exact Blk.rowOver (by omega) K0.out); have N1 := Lib.hid (show Blk WN _ _ _ by rw [← hWN]; exact Blk.rowOver (by omega) K1.out); have N2 := Lib.hid (show Blk WN _ _ _ by rw [← hWN]; exact Blk.rowOver (by omega) K2.out); have HBn : Below w.heap.size w WN := (by rw [← hWN]; exact Below.row HB (by omega) HB.size); clear hWN HB K3 k3 f3 l3 m3 K0 k0 f0 l0 m0 K1 k1 f1 l1 m1 K2 k2 f2 l2 m2; have K3 := N3; clear N3; have K0 := N0; clear N0; have K1 := N1; clear N1; have K2 := N2; clear N2; have HB := HBn; clear HBn; (have k3 := Blk.cell K3.out; have f3 := Blk.free K3.out; have l3 := Blk.lt K3.out; have m3 := Nat.le_of_lt l3; have k0 := Blk.cell K0.out; have f0 := Blk.free K0.out; have l0 := Blk.lt K0.out; have m0 := Nat.le_of_lt l0; have k1 := Blk.cell K1.out; have f1 := Blk.free K1.out; have l1 := Blk.lt K1.out; have m1 := Nat.le_of_lt l1; have k2 := Blk.cell K2.out; have f2 := Blk.free K2.out; have l2 := Blk.lt K2.out; have m2 := Nat.le_of_lt l2); unfold Halted)
        go_wp2_with fail
        go_meet
        case rel => exact ⟨K0.out, K1.out, K2.out, by rw [hcn.out]; exact K3.out, HB⟩
      · have e5 : ((pu : Int) == (pf : Int)) = false := by simp; omega
        have hcn : cc = s.next := by rw [hcm.out, if_neg h5]
        replace hcn := Lib.hid hcn
        clear h5
        go_wp2_with fail
        go_meet
        case rel => exact ⟨K0.out, K1.out, K2.out, by rw [hcn.out]; exact K3.out, HB⟩
  obtain ⟨j0, j1, j2, j3, HBn⟩ := hcut
  replace j0 := Lib.hid j0
  replace j1 := Lib.hid j1
  replace j2 := Lib.hid j2
  replace j3 := Lib.hid j3
  clear k0 f0 l0 m0 k1 f1 l1 m1 k2 f2 l2 m2 k3 f3 l3 m3 K0 K1 K2 K3 HB
  have K0 := j0; have K1 := j1; have K2 := j2; have K3 := j3; have HB := HBn
  clear j0 j1 j2 j3 HBn hcm q1 q2
  (have k0 := Blk.cell K0.out; have f0 := Blk.free K0.out; have l0 := Blk.lt K0.out; have m0 := Nat.le_of_lt l0; have k1 := Blk.cell K1.out; have f1 := Blk.free K1.out; have l1 := Blk.lt K1.out; have m1 := Nat.le_of_lt l1; have k2 := Blk.cell K2.out; have f2 := Blk.free K2.out; have l2 := Blk.lt K2.out; have m2 := Nat.le_of_lt l2; have k3 := Blk.cell K3.out; have f3 := Blk.free K3.out; have l3 := Blk.lt K3.out; have m3 := Nat.le_of_lt l3)
  go_wp2_with (with_reducible refine wpList_load_run (o := ⟨_, .load 31 _, _, _, _, none⟩) (ldCm _ K3.out) rfl _ rfl rfl ?_)
  refine (n3.out _ HB).mono ?_
  rintro e w5 ⟨A, cp, rfl, hT, hN⟩
  have TX := Lib.hid hT
  have N0 := Lib.hid (K0.out.below hN)
  have N1 := Lib.hid (K1.out.below hN)
  have N2 := Lib.hid (K2.out.below hN)
  have HBn : Below w.heap.size w w5 := Below.on hN HB
  clear hN hT HB K0 k0 f0 l0 m0 K1 k1 f1 l1 m1 K2 k2 f2 l2 m2 K3 k3 f3 l3 m3 n3
  have K0 := N0; have K1 := N1; have K2 := N2; have HB := HBn
  clear N0 N1 N2 HBn
  (have k0 := Blk.cell K0.out; have f0 := Blk.free K0.out; have l0 := Blk.lt K0.out; have m0 := Nat.le_of_lt l0; have k1 := Blk.cell K1.out; have f1 := Blk.free K1.out; have l1 := Blk.lt K1.out; have m1 := Nat.le_of_lt l1; have k2 := Blk.cell K2.out; have f2 := Blk.free K2.out; have l2 := Blk.lt K2.out; have m2 := Nat.le_of_lt l2)
  go_upto_region 9 with fail
  have hwf : ∀ f, Fence.wide.fn f := fun _ => trivial
  refine (wpIn_wide (n := 9)).1 ?_
  refine wpIn_round_held (fun w' => Below w5.heap.size w5 w') (fun j => true) (by kernel_rfl) ?_
  have hS0 : (fun w' => Below w5.heap.size w5 w') w5.drew := (Below.refl _ _).drew
  have KA100 := Lib.hid (K0.out.drew)
  have KA101 := Lib.hid (K1.out.drew)
  have KA102 := Lib.hid (K2.out.drew)
  have HBt := HB.drew
  refine S_take (fun _ => trivial) 0 (.slice A L.length cp) (by kernel_rfl) rfl (by kernel_rfl) (by kernel_rfl) (by kernel_rfl) (by kernel_rfl) (onlyN_panic _ _) hS0 (by kernel_rfl) (fun w' hw => by go_simp) ?_
  refine S_take (fun _ => trivial) 1 (.pointer (some ⟨(g + 1), 0, none⟩)) (by kernel_rfl) rfl (by kernel_rfl) (by kernel_rfl) (by kernel_rfl) (by kernel_rfl) (onlyN_panic _ _) hS0 (by kernel_rfl) (fun w' hw => by go_simp) ?_
  refine S_take (fun _ => trivial) 2 (.pointer (some ⟨(g + 1), 0, none⟩)) (by kernel_rfl) rfl (by kernel_rfl) (by kernel_rfl) (by kernel_rfl) (by kernel_rfl) (onlyN_panic _ _) hS0 (by kernel_rfl) (fun w' hw => by go_simp) ?_
  refine S_take (fun _ => trivial) 3 (hdV (u.seen.b)) (by kernel_rfl) rfl (by kernel_rfl) (by kernel_rfl) (by kernel_rfl) (by kernel_rfl) (onlyN_panic _ _) hS0 (by kernel_rfl) (fun w' hw => exec_load rfl (by kernel_rfl) (ldUp_seen_b (u) (K1.out.below hw))) ?_
  refine S_take (fun _ => trivial) 4 (.pointer (some ⟨(g + 1), 24, none⟩)) (by kernel_rfl) rfl (by kernel_rfl) (by kernel_rfl) (by kernel_rfl) (by kernel_rfl) (onlyN_panic _ _) hS0 (by kernel_rfl) (fun w' hw => by go_simp) ?_
  refine S_take (fun _ => trivial) 5 (.int .u64 (u.slot : Int)) (by kernel_rfl) rfl (by kernel_rfl) (by kernel_rfl) (by kernel_rfl) (by kernel_rfl) (onlyN_panic _ _) hS0 (by kernel_rfl) (fun w' hw => exec_load rfl (by kernel_rfl) (run_load_cell (i := 24) (K1.out.below hw) rfl szU64 nrU64)) ?_
  refine S_take (fun _ => trivial) 7 (.pointer (some ⟨(g + 1), 23, none⟩)) (by kernel_rfl) rfl (by kernel_rfl) (by kernel_rfl) (by kernel_rfl) (by kernel_rfl) (onlyN_panic _ _) hS0 (by kernel_rfl) (fun w' hw => by go_simp) ?_
  refine S_take (fun _ => trivial) 8 (.string (bs u.sig)) (by kernel_rfl) rfl (by kernel_rfl) (by kernel_rfl) (by kernel_rfl) (by kernel_rfl) (onlyN_panic _ _) hS0 (by kernel_rfl) (fun w' hw => exec_load rfl (by kernel_rfl) (run_load_cell (i := 23) (K1.out.below hw) rfl szStr nrStr)) ?_
  refine S_one 6 (by kernel_rfl) rfl (fun K hK => ?_)
  go_simp
  gi_wp2_with (gi_at_call 34; refine (callsIn_wide.2 (n4.out _ (Below.on hS0 HB))).mono ?_; rintro e w5h1 ⟨rfl, hN⟩)
  replace KA100 := Lib.hid (KA100.out.below hN)
  replace KA101 := Lib.hid (KA101.out.below hN)
  replace KA102 := Lib.hid (KA102.out.below hN)
  replace HBt := Below.on hN HBt
  have hS1 : (fun w' => Below w5.heap.size w5 w') w5h1 := hS0.trans (hN.mono hS0.size)
  clear hS0
  have hS0 := hS1
  clear hS1
  clear hN
  refine ⟨(fun _ => hS0), ?_⟩
  refine S_one 9 (by kernel_rfl) rfl (fun K hK => ?_)
  go_simp
  gi_wp2_with (gi_at_call 33; refine (callsIn_wide.2 (n5.out _ _ _ (Txts.below TX.out hS0))).mono ?_; rintro e w5h2 ⟨rfl, hN⟩)
  replace KA100 := Lib.hid (KA100.out.below hN)
  replace KA101 := Lib.hid (KA101.out.below hN)
  replace KA102 := Lib.hid (KA102.out.below hN)
  replace HBt := Below.on hN HBt
  have hS1 : (fun w' => Below w5.heap.size w5 w') w5h2 := hS0.trans (hN.mono hS0.size)
  clear hS0
  have hS0 := hS1
  clear hS1
  clear hN
  refine ⟨(fun _ => hS0), ?_⟩
  refine S_take (fun _ => trivial) 10 (.bool true) (by kernel_rfl) rfl (by kernel_rfl) (by kernel_rfl) (by kernel_rfl) (by kernel_rfl) (onlyN_panic _ _) hS0 (by kernel_rfl) (fun w' hw => by go_simp) ?_
  refine ⟨by kernel_rfl, rfl, ?_⟩
  obtain ⟨WN, hWN⟩ : ∃ WN, w5h2 = WN := ⟨_, rfl⟩
  rw [hWN] at KA100 KA101 KA102 HBt ⊢
  clear hWN hwf hS0 HB
  have HB := HBt
  clear HBt
  clear K0 k0 f0 l0 m0
  clear K1 k1 f1 l1 m1
  clear K2 k2 f2 l2 m2
  have K0 := KA100
  clear KA100
  have K1 := KA101
  clear KA101
  have K2 := KA102
  clear KA102
  (have k0 := Blk.cell K0.out; have f0 := Blk.free K0.out; have l0 := Blk.lt K0.out; have m0 := Nat.le_of_lt l0; have k1 := Blk.cell K1.out; have f1 := Blk.free K1.out; have l1 := Blk.lt K1.out; have m1 := Nat.le_of_lt l1; have k2 := Blk.cell K2.out; have f2 := Blk.free K2.out; have l2 := Blk.lt K2.out; have m2 := Nat.le_of_lt l2)
  clear n4 n5
  go_wp2_with fail
  (refine (n6.out _ HB).mono ?_; rintro e w6 ⟨rfl, hN⟩; have N0 := Lib.hid (K0.out.below hN); have N1 := Lib.hid (K1.out.below hN); have N2 := Lib.hid (K2.out.below hN); have HBn : Below w.heap.size w w6 := Below.on hN HB; clear hN HB K0 k0 f0 l0 m0 K1 k1 f1 l1 m1 K2 k2 f2 l2 m2; have K0 := N0; clear N0; have K1 := N1; clear N1; have K2 := N2; clear N2; have HB := HBn; clear HBn; (have k0 := Blk.cell K0.out; have f0 := Blk.free K0.out; have l0 := Blk.lt K0.out; have m0 := Nat.le_of_lt l0; have k1 := Blk.cell K1.out; have f1 := Blk.free K1.out; have l1 := Blk.lt K1.out; have m1 := Nat.le_of_lt l1; have k2 := Blk.cell K2.out; have f2 := Blk.free K2.out; have l2 := Blk.lt K2.out; have m2 := Nat.le_of_lt l2))
  have hl1 : ((L.length : Int) == 0) = false := by simp; exact fun h => hln (by rw [h]; rfl)
  have hl2 : ¬ (L.length : Int) = 0 := by omega
  clear hln n6
  cases r1 with
  | true =>
    clear hrest
    go_wp2_with fail
    go_ret
    exact ⟨rfl, HB⟩
  | false =>
    obtain ⟨h1, h2, h3⟩ := hrest.out rfl
    have h2i : (32 : Int) ≤ 3 * (k : Int) := by omega
    subst h1 h3
    clear hrest h2
    go_wp2_with fail
    (refine (n7.out _ HB).mono ?_; rintro e w7 ⟨rfl, hN⟩; have N0 := Lib.hid (K0.out.below hN); have N1 := Lib.hid (K1.out.below hN); have N2 := Lib.hid (K2.out.below hN); have HBn : Below w.heap.size w w7 := Below.on hN HB; clear hN HB K0 k0 f0 l0 m0 K1 k1 f1 l1 m1 K2 k2 f2 l2 m2; have K0 := N0; clear N0; have K1 := N1; clear N1; have K2 := N2; clear N2; have HB := HBn; clear HBn; (have k0 := Blk.cell K0.out; have f0 := Blk.free K0.out; have l0 := Blk.lt K0.out; have m0 := Nat.le_of_lt l0; have k1 := Blk.cell K1.out; have f1 := Blk.free K1.out; have l1 := Blk.lt K1.out; have m1 := Nat.le_of_lt l1; have k2 := Blk.cell K2.out; have f2 := Blk.free K2.out; have l2 := Blk.lt K2.out; have m2 := Nat.le_of_lt l2))
    go_wp2_with fail
    refine (n8.out _).mono ?_
    rintro e w' ⟨rfl, rfl⟩
    go_wp2_with fail
    (refine (n9.out _ HB).mono ?_; rintro e w8 ⟨rfl, hN⟩; have N0 := Lib.hid (K0.out.below hN); have N1 := Lib.hid (K1.out.below hN); have N2 := Lib.hid (K2.out.below hN); have HBn : Below w.heap.size w w8 := Below.on hN HB; clear hN HB K0 k0 f0 l0 m0 K1 k1 f1 l1 m1 K2 k2 f2 l2 m2; have K0 := N0; clear N0; have K1 := N1; clear N1; have K2 := N2; clear N2; have HB := HBn; clear HBn; (have k0 := Blk.cell K0.out; have f0 := Blk.free K0.out; have l0 := Blk.lt K0.out; have m0 := Nat.le_of_lt l0; have k1 := Blk.cell K1.out; have f1 := Blk.free K1.out; have l1 := Blk.lt K1.out; have m1 := Nat.le_of_lt l1; have k2 := Blk.cell K2.out; have f2 := Blk.free K2.out; have l2 := Blk.lt K2.out; have m2 := Nat.le_of_lt l2))
    go_wp2_with fail
    go_ret
    exact ⟨rfl, HB⟩
open Go.ChangeShapes Go.WideShapes Go.ChangeAt Go.Joins

set_option maxRecDepth 100000 in
theorem contract (H : Type) (enc : TypeId × Value → H) (W : World) (base : Nat) (args : Array Value) (ds gs : List (DataW H)) (before : List MemPlace)
    (hval0 : ∀ (j : Nat) t v, Tryz.f12.params[j]? = some t → args[j]? = some v → Value.okWide Tryz.prog W .any base t v)
    (hW : DataW.Whole enc Tryz.prog Tryz.f12.params.toList Rows.lightSignedSpec.vars false W args.toList ds gs before) (hsmall : Rows.uptoSmall H (ds ++ gs) = true)
    (hL : laidMetH Tryz.prog Rows.lightSignedUptoRow.laid W) :
    Calls Tryz.prog 12 args W fun e W' => ∃ v, e = .returned v ∧ Rows.lightSignedSpec.post enc Tryz.prog Tryz.f12 false true false false W args v W' := by
  have hval := hval0
  have hW' := hW
  obtain ⟨p, q, hA0, hV, rfl, hfz, hnd⟩ := hW
  have hA : DataW.TrodAll enc Tryz.prog W 0 (fun _ => true) true Tryz.f12.params.toList args.toList ds p := hA0
  rw [Tryz.params12] at hA hval
  have hAk := hA
  obtain ⟨v0, vs0, d0, ds0, p0, q0, hargs, hds0, hps0, h0, r0⟩ := trodAll_cons hA
  obtain ⟨v1, vs1, d1, ds1, p1, q1, hvs1, hds1, hps1, h1, r1⟩ := trodAll_cons r0
  subst hvs1
  obtain ⟨v2, vs2, d2, ds2, p2, q2, hvs2, hds2, hps2, h2, r2⟩ := trodAll_cons r1
  subst hvs2
  obtain ⟨hv9, hds9, hps9⟩ := trodAll_nil r2
  subst hv9
  subst hds9
  subst hds2
  subst hds1
  subst hds0
  obtain rfl : args = #[v0, v1, v2] := by cases args; simp_all
  obtain ⟨rfl, rfl⟩ := trodVars_none hV
  obtain ⟨s0, rfl, hs0⟩ := openSr (hval 0 35 v0 rfl rfl) h0 (bulk_of hsmall (d := d0) (by simp))
  obtain ⟨s1, rfl, hs1⟩ := openUp (hval 1 33 v1 rfl rfl) h1 (bulk_of hsmall (d := d1) (by simp))
  obtain ⟨a2, rfl, hd2, hp2, wa2⟩ := openU64 (hval 2 22 v2 rfl rfl) h2
  have hK := hasK_of hL
  refine (walk s0 s1 a2 (bounds_u64 wa2).1 (bounds_u64 wa2).2 W hs0 hs1 hK).mono fun e W' ⟨he, hg⟩ => ?_
  subst he
  have hlt : ∀ x ∈ p, x.block < W.heap.size := fun x hx => hW'.lt x (by simp [hx])
  exact ⟨_, rfl, post_below (pa := p) (pv := []) hW' (fun _ _ _ => (trodAll_cons_mk (shut_bool Tryz.underlying4 _) trodAll_mk0)) (fun sp hsp => by have := stays_all laidOut hg (by kernel_rfl) hAk hlt sp (fun x hx => hsp x (by simp [hx])); rw [← Tryz.params12] at this; exact this) (fun _ _ => rfl) rfl hg (ok_one (by kernel_rfl) rfl (okWide_bool_mk Tryz.underlying4 _))⟩
theorem laid_met (os : Os) : laidMet Tryz.prog Rows.lightSignedUptoRow.laid ((laidWorld os).forCall (fun _ _ => 0) ⟨#[], #[srV Sr.zero, upV Up.zero, .int .u64 0], []⟩).memory :=
  laidMet_of_run' 8 (by kernel_rfl) (by kernel_rfl)
theorem reads (os : Os) {H : Type} (enc : TypeId × Value → H) : ∃ places, DataW.whole enc Tryz.prog ((laidWorld os).forCall (fun _ _ => 0) ⟨#[], #[srV Sr.zero, upV Up.zero, .int .u64 0], []⟩).memory Tryz.f12.params.toList Rows.lightSignedSpec.vars false #[srV Sr.zero, upV Up.zero, .int .u64 0].toList 8 = some ([srD0 H, upD0 H, .lit (.int .u64 0)], [], places) :=
  ⟨[], by kernel_rfl⟩
set_option maxRecDepth 100000 in
theorem lifted (os : Os) (started : os.Started) (H : Type) (enc : TypeId × Value → H) (F : Stop.Interp) :
    ReturnsInHanded {} Tryz.checked os 12 .any ((Rows.OpenSpec.upto Rows.lightSignedSpec).preRow enc Tryz.prog Tryz.f12 Rows.lightSignedUptoRow.domain false Rows.lightSignedUptoRow.laid) (((Rows.OpenSpec.upto Rows.lightSignedSpec).at F).post enc Tryz.prog Tryz.f12 false true false false) := by
  obtain ⟨places, hx⟩ := reads os enc
  refine returnsInHanded_of_row (C := Tryz.checked) (s := Rows.OpenSpec.upto Rows.lightSignedSpec) own started (by kernel_rfl) Tryz.func12
    (witness_row_at (enc := enc) (C := Tryz.checked) false (laidWorld os) #[srV Sr.zero, upV Up.zero, .int .u64 0] rfl (by kernel_rfl) (by kernel_rfl) (by kernel_rfl)
      (OpenSpec.preRow_of_cond 8 hx (by kernel_rfl) (fun k hk => by cases hk; kernel_rfl) (by kernel_rfl) (laid_met os))) ?_
  intro W base args ds gs before hval hW _ hcond hreach hL _ _
  exact contract H enc W base args ds gs before hval hW (hcond _ rfl) hL
theorem and_mk {a b : Bool} (h : a = true) (k : b = true) : (a && b) = true := by rw [h, k]; rfl
set_option maxHeartbeats 40000000 in
theorem facts : joinedFacts Tryz.pinned.checked.prog 12 Tryz.f12 (Rows.OpenSpec.upto Rows.lightSignedSpec).bare Rows.lightSignedUptoRow = true := by
  unfold joinedFacts
  repeat' (with_reducible refine and_mk ?_ ?_)
  all_goals (as_aux_lemma => kernel_rfl)
theorem said : Rows.LightSignedUptoSaid :=
  OpenClaim.holds_of_cond 12 Tryz.f12 rfl rfl rfl rfl rfl rfl rfl ⟨rfl, rfl, rfl, rfl, rfl⟩ rfl rfl rfl rfl rfl (by kernel_rfl) Tryz.func12 facts
    (of_decide_eq_true (by kernel_rfl)) (by unfold Func.isWrapper; first | (rw [if_pos (by decide +kernel)]; kernel_rfl) | (rw [if_neg (by decide +kernel)]; exact ⟨rfl, rfl⟩))
    (fun os started H enc _ F => by rw [OpenClaim.pre_eq_preRow]; exact lifted os started H enc F)
theorem plain (f : FuncId) (fn : Func) (hf : Tryz.pinned.checked.prog.funcNamed "pharos/pharoslaw14.LightSigned" = some f) (hfn : Tryz.pinned.checked.prog.funcs[f]? = some fn) :
    false = Tryz.pinned.checked.prog.looks [] ∧ ∀ (j : Nat) t, fn.params[j]? = some t → Tryz.pinned.checked.prog.wantsStandIn t = false := by
  obtain rfl : f = 12 := Option.some.inj ((show Tryz.prog.funcNamed "pharos/pharoslaw14.LightSigned" = some 12 by kernel_rfl).symm.trans hf) |>.symm
  obtain rfl : fn = Tryz.f12 := (Option.some.inj (Tryz.func12.symm.trans hfn)).symm
  refine ⟨by kernel_rfl, fun j t ht => ?_⟩
  rw [Tryz.params12] at ht
  have hm : t ∈ [35, 33, 22] := by simpa using Array.mem_of_getElem? ht
  have hall : ∀ t ∈ [35, 33, 22], Tryz.prog.wantsStandIn t = false := by
    intro t h
    simp only [List.mem_cons, List.not_mem_nil, or_false] at h
    rcases h with rfl | rfl | rfl <;> kernel_rfl
  exact hall t hm

/-- THE STATEMENT'S CARD -/
theorem proved : Rows.LightSignedUptoCardSaid :=
  Claim7.holds_tied_plain_at .later [] _ _ _ _ said (fun _ h => by cases h) (by kernel_rfl) (fun _ h => by cases h) lightSignedUpto_row_tie rfl ⟨rfl, rfl⟩ (by kernel_rfl) rfl plain (by kernel_rfl)

end lawLightSigned
end Go.Proofs.YtegaaccioppfjaaGreatDoor
