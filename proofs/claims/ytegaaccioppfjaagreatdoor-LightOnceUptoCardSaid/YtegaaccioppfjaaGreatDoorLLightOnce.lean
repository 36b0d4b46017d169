/- A store begins with one root alone; what was forced can't be at once forced again: by the program, any two roots, Boot, store, slot, their bulk bounded. -/
import Derived.Test.YtegaaccioppfjaaGreatDoorFr20
import Derived.Test.YtegaaccioppfjaaGreatDoorFr25
import Derived.Test.YtegaaccioppfjaaGreatDoorFr24
import Derived.Test.YtegaaccioppfjaaGreatDoorFr10
import Derived.Test.YtegaaccioppfjaaGreatDoorFr12
import Derived.WalkKit
import Derived.ProofKit
import Derived.OpenShut
set_option linter.unusedSimpArgs false
set_option linter.unusedVariables false
namespace Go.Proofs.YtegaaccioppfjaaGreatDoor
open BigFrame Go.RowKit Go.Phx Go.Shelf
attribute [local go_sem] Oper.semAt_some
namespace lawLightOnce

theorem beginS_in {w : World} (root : Bytes) {b : Bt} (h : BtIn w b) : SrIn w (beginS root b) := by
  have hz := SrIn.zero w
  unfold beginS
  split
  · exact ⟨h.1, h.1, h.2.1, hz.2.2.2.1, hz.2.2.2.2.1, hz.2.2.2.2.2⟩
  · exact hz
set_option maxRecDepth 100000 in
set_option maxHeartbeats 8000000 in
theorem walk (root other : Bytes) (b : Bt) (s : Sr) (now : Int) (hn0 : 0 ≤ now) (hn1 : now ≤ 18446744073709551615) (w : World) (hb : BtIn w b) (hs : SrIn w s) (hk : HasK w) :
    Calls Tryz.prog 6 #[.string (bs root), .string (bs other), btV b, srV s, .int .u64 now] w (Ret w (.bool true)) := by
  obtain ⟨n, rfl⟩ : ∃ n : Nat, now = n := ⟨now.toNat, (Int.toNat_of_nonneg hn0).symm⟩
  have hn : n < 18446744073709551616 := by omega
  have n1 := fun W (hB : Below w.heap.size w W) => shown14_calls W (hk.on hB)
  have n2 := fun W (hB : Below w.heap.size w W) => begin_calls root b W (hk.on hB) (hb.below hB)
  have n3 := fun W (hB : Below w.heap.size w W) => begin_calls other b W (hk.on hB) (hb.below hB)
  have n4 := fun W (hB : Below w.heap.size w W) => lgforce_calls s n W (hs.below hB) hn
  have n5 := fun W (hB : Below w.heap.size w W) => lgforce_calls (forceS s n) n W ((forceS_in n hs).below hB) hn
  have v1 : beginE root b = 0 → ((beginE other b = 0 ↔ root = other) ∧ (beginS root b).has = false ∧ (beginS root b).forced = false ∧ (beginS root b).next.ks.l.length = 0) := fun h => by
    refine ⟨begin_once h, ?_⟩
    unfold beginS
    rw [if_pos h]
    exact ⟨rfl, rfl, rfl⟩
  have v2 : forceE s n = 0 → (forceS s n).forced = true ∧ (forceS s n).has = false ∧ forceE (forceS s n) n = 148 := fun h => by
    unfold forceE at h
    by_cases hf : noForce s n = true
    · rw [if_pos hf] at h
      cases h
    · have e : forceS s n = forceP s := by unfold forceS; rw [if_neg hf]
      rw [e]
      refine ⟨rfl, rfl, ?_⟩
      unfold forceE
      rw [if_pos (force_again s n)]
  generalize beginE root b = e at *
  generalize beginE other b = f at *
  generalize beginS root b = x at *
  generalize beginS other b = x2 at *
  generalize forceE (forceS s n) n = h at *
  generalize forceS (forceS s n) n = y2 at *
  generalize forceE s n = gg at *
  generalize forceS s n = y at *
  replace v1 := Lib.hid v1
  replace v2 := Lib.hid v2
  replace n1 := Lib.hid n1
  replace n2 := Lib.hid n2
  replace n3 := Lib.hid n3
  replace n4 := Lib.hid n4
  replace n5 := Lib.hid n5
  clear hs hb hk hn0 hn1 hn
  have K0 := (Blk.new0 w 45 (btA b)).alloc (.cells (srA s) 35)
  have K1 := Blk.new1 w (.cells (btA b) 45) 35 (srA s)
  have HB : Below w.heap.size w ((w.alloc (.cells (btA b) 45)).alloc (.cells (srA s) 35)) := (by repeat (first | assumption | exact Below.refl _ _ | refine Below.setCell ?_ (by first | exact Nat.le_refl _ | (simp; done) | omega | (simp; omega)) _ | refine Below.alloc ?_ (by first | exact Nat.le_refl _ | (simp; done) | omega | (simp; omega)) _ | refine below_drewN ?_ _ | refine Below.drew ?_ | refine Below.on (by assumption) ?_ | refine Below.via (by assumption) (by first | exact Nat.le_refl _ | (simp; done) | omega | (simp; omega)) ?_))
  go_enter Tryz.func6, Tryz.ntmps6
  go_upto_region 1 with fail
  obtain ⟨W, hW⟩ : ∃ W, ((w.alloc (.cells (btA b) 45)).alloc (.cells (srA s) 35)) = W := ⟨_, rfl⟩
  rw [hW] at K0 K1 HB ⊢
  clear hW
  obtain ⟨g, hg⟩ : ∃ g, w.heap.size = g := ⟨_, rfl⟩
  have hgl : w.heap.size ≤ g := by omega
  rw [hg] at K0 K1 ⊢
  clear hg
  replace K0 := Lib.hid K0
  replace K1 := Lib.hid K1
  (have k0 := Blk.cell K0.out; have f0 := Blk.free K0.out; have l0 := Blk.lt K0.out; have m0 := Nat.le_of_lt l0; have k1 := Blk.cell K1.out; have f1 := Blk.free K1.out; have l1 := Blk.lt K1.out; have m1 := Nat.le_of_lt l1)
  go_wp2_with fail
  (refine (n1.out _ HB).mono ?_; rintro e w1 ⟨rfl, hN⟩; have N0 := Lib.hid (K0.out.below hN); have N1 := Lib.hid (K1.out.below hN); have HBn : Below w.heap.size w w1 := Below.on hN HB; clear hN HB K0 k0 f0 l0 m0 K1 k1 f1 l1 m1; have K0 := N0; clear N0; have K1 := N1; clear N1; have HB := HBn; clear HBn; (have k0 := Blk.cell K0.out; have f0 := Blk.free K0.out; have l0 := Blk.lt K0.out; have m0 := Nat.le_of_lt l0; have k1 := Blk.cell K1.out; have f1 := Blk.free K1.out; have l1 := Blk.lt K1.out; have m1 := Nat.le_of_lt l1))
  go_wp2_with (first | (with_reducible refine wpList_load_run (o := ⟨_, .load 45 _, _, _, _, none⟩) (ldBt _ K0.out) rfl _ rfl rfl ?_) | (with_reducible refine wpList_load_run_g (o := ⟨_, .load 45 _, _, _, _, some _⟩) (ldBt _ K0.out) (by with_unfolding_all rfl) _ rfl rfl ?_))
  (refine (n2.out _ HB).mono ?_; rintro e w2 ⟨rfl, hN⟩; have N0 := Lib.hid (K0.out.below hN); have N1 := Lib.hid (K1.out.below hN); have HBn : Below w.heap.size w w2 := Below.on hN HB; clear hN HB K0 k0 f0 l0 m0 K1 k1 f1 l1 m1; have K0 := N0; clear N0; have K1 := N1; clear N1; have HB := HBn; clear HBn; (have k0 := Blk.cell K0.out; have f0 := Blk.free K0.out; have l0 := Blk.lt K0.out; have m0 := Nat.le_of_lt l0; have k1 := Blk.cell K1.out; have f1 := Blk.free K1.out; have l1 := Blk.lt K1.out; have m1 := Nat.le_of_lt l1))
  (go_wp2_with (first | (with_reducible refine wpList_store_halt (o := ⟨_, .store 35 _ _, _, _, _, none⟩) (stSr Sr.zero (Blk.new0 w2 35 (srA Sr.zero)) (x)) rfl _ _ rfl rfl rfl ?_)); generalize hWN : setRow _ _ _ _ = WN; have N0 := Lib.hid (show Blk WN _ _ _ by rw [← hWN]; exact Blk.rowOver (Nat.ne_of_lt K0.out.lt) (K0.out.alloc _)); have N1 := Lib.hid (show Blk WN _ _ _ by rw [← hWN]; exact Blk.rowOver (Nat.ne_of_lt K1.out.lt) (K1.out.alloc _)); have N2 := (show Blk WN (World.heap w2).size 35 (srA (x)) by rw [← hWN]; exact Blk.row (by simp)); have HBn : Below w.heap.size w WN := (by rw [← hWN]; exact Below.row (HB.alloc HB.size _) HB.size (by have := HB.size; simp; omega)); obtain ⟨g2, hgj⟩ : ∃ g, (World.heap w2).size = g := ⟨_, rfl⟩; have hg0_2 : _ < g2 := (by rw [← hgj]; exact l0); have hg1_2 : _ < g2 := (by rw [← hgj]; exact l1); have hgl2 : w.heap.size ≤ g2 := (by rw [← hgj]; exact HB.size); rw [hgj] at N2 ⊢; replace N2 := Lib.hid N2; clear hWN hgj HB K0 k0 f0 l0 m0 K1 k1 f1 l1 m1; have K0 := N0; clear N0; have K1 := N1; clear N1; have K2 := N2; clear N2; have HB := HBn; clear HBn; (have k0 := Blk.cell K0.out; have f0 := Blk.free K0.out; have l0 := Blk.lt K0.out; have m0 := Nat.le_of_lt l0; have k1 := Blk.cell K1.out; have f1 := Blk.free K1.out; have l1 := Blk.lt K1.out; have m1 := Nat.le_of_lt l1; have k2 := Blk.cell K2.out; have f2 := Blk.free K2.out; have l2 := Blk.lt K2.out; have m2 := Nat.le_of_lt l2); unfold Halted)
  go_wp2_with (first | (with_reducible refine wpList_load_run (o := ⟨_, .load 45 _, _, _, _, none⟩) (ldBt _ K0.out) rfl _ rfl rfl ?_) | (with_reducible refine wpList_load_run_g (o := ⟨_, .load 45 _, _, _, _, some _⟩) (ldBt _ K0.out) (by with_unfolding_all rfl) _ rfl rfl ?_))
  (refine (n3.out _ HB).mono ?_; rintro e w3 ⟨rfl, hN⟩; have N0 := Lib.hid (K0.out.below hN); have N1 := Lib.hid (K1.out.below hN); have N2 := Lib.hid (K2.out.below hN); have HBn : Below w.heap.size w w3 := Below.on hN HB; clear hN HB K0 k0 f0 l0 m0 K1 k1 f1 l1 m1 K2 k2 f2 l2 m2; have K0 := N0; clear N0; have K1 := N1; clear N1; have K2 := N2; clear N2; have HB := HBn; clear HBn; (have k0 := Blk.cell K0.out; have f0 := Blk.free K0.out; have l0 := Blk.lt K0.out; have m0 := Nat.le_of_lt l0; have k1 := Blk.cell K1.out; have f1 := Blk.free K1.out; have l1 := Blk.lt K1.out; have m1 := Nat.le_of_lt l1; have k2 := Blk.cell K2.out; have f2 := Blk.free K2.out; have l2 := Blk.lt K2.out; have m2 := Nat.le_of_lt l2))
  (go_wp2_with (first | (with_reducible refine wpList_store_halt (o := ⟨_, .store 35 _ _, _, _, _, none⟩) (stSr Sr.zero (Blk.new0 w3 35 (srA Sr.zero)) (x2)) rfl _ _ rfl rfl rfl ?_)); generalize hWN : setRow _ _ _ _ = WN; have N0 := Lib.hid (show Blk WN _ _ _ by rw [← hWN]; exact Blk.rowOver (Nat.ne_of_lt K0.out.lt) (K0.out.alloc _)); have N1 := Lib.hid (show Blk WN _ _ _ by rw [← hWN]; exact Blk.rowOver (Nat.ne_of_lt K1.out.lt) (K1.out.alloc _)); have N2 := Lib.hid (show Blk WN _ _ _ by rw [← hWN]; exact Blk.rowOver (Nat.ne_of_lt K2.out.lt) (K2.out.alloc _)); have N3 := (show Blk WN (World.heap w3).size 35 (srA (x2)) by rw [← hWN]; exact Blk.row (by simp)); have HBn : Below w.heap.size w WN := (by rw [← hWN]; exact Below.row (HB.alloc HB.size _) HB.size (by have := HB.size; simp; omega)); obtain ⟨g3, hgj⟩ : ∃ g, (World.heap w3).size = g := ⟨_, rfl⟩; have hg0_3 : _ < g3 := (by rw [← hgj]; exact l0); have hg1_3 : _ < g3 := (by rw [← hgj]; exact l1); have hg2_3 : _ < g3 := (by rw [← hgj]; exact l2); have hgl3 : w.heap.size ≤ g3 := (by rw [← hgj]; exact HB.size); rw [hgj] at N3 ⊢; replace N3 := Lib.hid N3; clear hWN hgj HB K0 k0 f0 l0 m0 K1 k1 f1 l1 m1 K2 k2 f2 l2 m2; have K0 := N0; clear N0; have K1 := N1; clear N1; have K2 := N2; clear N2; have K3 := N3; clear N3; have HB := HBn; clear HBn; (have k0 := Blk.cell K0.out; have f0 := Blk.free K0.out; have l0 := Blk.lt K0.out; have m0 := Nat.le_of_lt l0; have k1 := Blk.cell K1.out; have f1 := Blk.free K1.out; have l1 := Blk.lt K1.out; have m1 := Nat.le_of_lt l1; have k2 := Blk.cell K2.out; have f2 := Blk.free K2.out; have l2 := Blk.lt K2.out; have m2 := Nat.le_of_lt l2; have k3 := Blk.cell K3.out; have f3 := Blk.free K3.out; have l3 := Blk.lt K3.out; have m3 := Nat.le_of_lt l3); unfold Halted)
  go_upto_region 4 with fail
  go_cut [61] (fun s61 wx => s61 = .bool false ∧ Blk wx (g + 1) 35 (srA s) ∧ Below w.heap.size w wx)
  case first =>
    as_aux_lemma =>
      clear v2
      by_cases he : e = 0
      · have e3 : (e == 0) = true := by simpa using he
        obtain ⟨i1, i2, i3, i4⟩ := v1.out he
        have i5 := Lib.hid (show decide (0 < x.next.ks.l.length) = false from decide_eq_false (by omega))
        clear v1 he i4
        by_cases hr : root = other
        · have e5 : (root == other) = true := by simpa using hr
          have e6 : (f == 0) = true := by simpa using i1.2 hr
          clear i1 hr
          go_wp2_with fail
          go_meet
          case rel => exact ⟨by rw [i5.out], K1.out, HB⟩
        · have e5 : (root == other) = false := by simpa using hr
          have e6 : (f == 0) = false := by simpa using fun k => hr (i1.1 k)
          clear i1 hr
          go_wp2_with fail
          go_meet
          case rel => exact ⟨by rw [i5.out], K1.out, HB⟩
      · have e3 : (e == 0) = false := by simpa using he
        clear v1 he
        go_wp2_with fail
        go_meet
        case rel => exact ⟨rfl, K1.out, HB⟩
  obtain ⟨rfl, j1, HBn⟩ := hcut
  replace j1 := Lib.hid j1
  clear k0 f0 l0 m0 k1 f1 l1 m1 k2 f2 l2 m2 k3 f3 l3 m3 K0 K1 K2 K3 HB n1 n2 n3 v1
  have K1 := j1; have HB := HBn
  clear j1 HBn
  (have k1 := Blk.cell K1.out; have f1 := Blk.free K1.out; have l1 := Blk.lt K1.out; have m1 := Nat.le_of_lt l1)
  go_wp2_with (first | (with_reducible refine wpList_load_run (o := ⟨_, .load 35 _, _, _, _, none⟩) (ldSr _ K1.out) rfl _ rfl rfl ?_) | (with_reducible refine wpList_load_run_g (o := ⟨_, .load 35 _, _, _, _, some _⟩) (ldSr _ K1.out) (by with_unfolding_all rfl) _ rfl rfl ?_))
  (refine (n4.out _ HB).mono ?_; rintro e w4 ⟨rfl, hN⟩; have N1 := Lib.hid (K1.out.below hN); have HBn : Below w.heap.size w w4 := Below.on hN HB; clear hN HB K1 k1 f1 l1 m1; have K1 := N1; clear N1; have HB := HBn; clear HBn; (have k1 := Blk.cell K1.out; have f1 := Blk.free K1.out; have l1 := Blk.lt K1.out; have m1 := Nat.le_of_lt l1))
  (go_wp2_with (first | (with_reducible refine wpList_store_halt (o := ⟨_, .store 35 _ _, _, _, _, none⟩) (stSr Sr.zero (Blk.new0 w4 35 (srA Sr.zero)) (y)) rfl _ _ rfl rfl rfl ?_)); generalize hWN : setRow _ _ _ _ = WN; have N1 := Lib.hid (show Blk WN _ _ _ by rw [← hWN]; exact Blk.rowOver (Nat.ne_of_lt K1.out.lt) (K1.out.alloc _)); have N4 := (show Blk WN (World.heap w4).size 35 (srA (y)) by rw [← hWN]; exact Blk.row (by simp)); have HBn : Below w.heap.size w WN := (by rw [← hWN]; exact Below.row (HB.alloc HB.size _) HB.size (by have := HB.size; simp; omega)); obtain ⟨g4, hgj⟩ : ∃ g, (World.heap w4).size = g := ⟨_, rfl⟩; have hg1_4 : _ < g4 := (by rw [← hgj]; exact l1); have hgl4 : w.heap.size ≤ g4 := (by rw [← hgj]; exact HB.size); rw [hgj] at N4 ⊢; replace N4 := Lib.hid N4; clear hWN hgj HB K1 k1 f1 l1 m1; have K1 := N1; clear N1; have K4 := N4; clear N4; have HB := HBn; clear HBn; (have k1 := Blk.cell K1.out; have f1 := Blk.free K1.out; have l1 := Blk.lt K1.out; have m1 := Nat.le_of_lt l1; have k4 := Blk.cell K4.out; have f4 := Blk.free K4.out; have l4 := Blk.lt K4.out; have m4 := Nat.le_of_lt l4); unfold Halted)
  go_wp2_with (first | (with_reducible refine wpList_load_run (o := ⟨_, .load 35 _, _, _, _, none⟩) (ldSr _ K4.out) rfl _ rfl rfl ?_) | (with_reducible refine wpList_load_run_g (o := ⟨_, .load 35 _, _, _, _, some _⟩) (ldSr _ K4.out) (by with_unfolding_all rfl) _ rfl rfl ?_))
  (refine (n5.out _ HB).mono ?_; rintro e w5 ⟨rfl, hN⟩; have N1 := Lib.hid (K1.out.below hN); have N4 := Lib.hid (K4.out.below hN); have HBn : Below w.heap.size w w5 := Below.on hN HB; clear hN HB K1 k1 f1 l1 m1 K4 k4 f4 l4 m4; have K1 := N1; clear N1; have K4 := N4; clear N4; have HB := HBn; clear HBn; (have k1 := Blk.cell K1.out; have f1 := Blk.free K1.out; have l1 := Blk.lt K1.out; have m1 := Nat.le_of_lt l1; have k4 := Blk.cell K4.out; have f4 := Blk.free K4.out; have l4 := Blk.lt K4.out; have m4 := Nat.le_of_lt l4))
  (go_wp2_with (first | (with_reducible refine wpList_store_halt (o := ⟨_, .store 35 _ _, _, _, _, none⟩) (stSr Sr.zero (Blk.new0 w5 35 (srA Sr.zero)) (y2)) rfl _ _ rfl rfl rfl ?_)); generalize hWN : setRow _ _ _ _ = WN; have N1 := Lib.hid (show Blk WN _ _ _ by rw [← hWN]; exact Blk.rowOver (Nat.ne_of_lt K1.out.lt) (K1.out.alloc _)); have N4 := Lib.hid (show Blk WN _ _ _ by rw [← hWN]; exact Blk.rowOver (Nat.ne_of_lt K4.out.lt) (K4.out.alloc _)); have N5 := (show Blk WN (World.heap w5).size 35 (srA (y2)) by rw [← hWN]; exact Blk.row (by simp)); have HBn : Below w.heap.size w WN := (by rw [← hWN]; exact Below.row (HB.alloc HB.size _) HB.size (by have := HB.size; simp; omega)); obtain ⟨g5, hgj⟩ : ∃ g, (World.heap w5).size = g := ⟨_, rfl⟩; have hg1_5 : _ < g5 := (by rw [← hgj]; exact l1); have hg4_5 : _ < g5 := (by rw [← hgj]; exact l4); have hgl5 : w.heap.size ≤ g5 := (by rw [← hgj]; exact HB.size); rw [hgj] at N5 ⊢; replace N5 := Lib.hid N5; clear hWN hgj HB K1 k1 f1 l1 m1 K4 k4 f4 l4 m4; have K1 := N1; clear N1; have K4 := N4; clear N4; have K5 := N5; clear N5; have HB := HBn; clear HBn; (have k1 := Blk.cell K1.out; have f1 := Blk.free K1.out; have l1 := Blk.lt K1.out; have m1 := Nat.le_of_lt l1; have k4 := Blk.cell K4.out; have f4 := Blk.free K4.out; have l4 := Blk.lt K4.out; have m4 := Nat.le_of_lt l4; have k5 := Blk.cell K5.out; have f5 := Blk.free K5.out; have l5 := Blk.lt K5.out; have m5 := Nat.le_of_lt l5); unfold Halted)
  go_upto_region 8 with fail
  by_cases he : gg = 0
  · have e3 : (gg != 0) = false := by simpa using he
    have e4 : (gg == 0) = true := by simpa using he
    obtain ⟨i1, i2, i3⟩ := v2.out he
    subst i3
    clear v2 he
    go_wp2_with fail
    go_ret
    exact ⟨rfl, HB⟩
  · have e3 : (gg != 0) = true := by simpa using he
    have e4 : (gg == 0) = false := by simpa using he
    clear v2 he
    go_wp2_with fail
    go_ret
    exact ⟨rfl, HB⟩
open Go.ChangeShapes Go.WideShapes Go.ChangeAt Go.Joins

set_option maxRecDepth 100000 in
theorem contract (H : Type) (enc : TypeId × Value → H) (W : World) (base : Nat) (args : Array Value) (ds gs : List (DataW H)) (before : List MemPlace)
    (hval0 : ∀ (j : Nat) t v, Tryz.f6.params[j]? = some t → args[j]? = some v → Value.okWide Tryz.prog W .any base t v)
    (hW : DataW.Whole enc Tryz.prog Tryz.f6.params.toList Rows.lightOnceSpec.vars false W args.toList ds gs before) (hsmall : Rows.uptoSmall H (ds ++ gs) = true)
    (hL : laidMetH Tryz.prog Rows.lightOnceUptoRow.laid W) :
    Calls Tryz.prog 6 args W fun e W' => ∃ v, e = .returned v ∧ Rows.lightOnceSpec.post enc Tryz.prog Tryz.f6 false true false false W args v W' := by
  have hval := hval0
  have hW' := hW
  obtain ⟨p, q, hA0, hV, rfl, hfz, hnd⟩ := hW
  have hA : DataW.TrodAll enc Tryz.prog W 0 (fun _ => true) true Tryz.f6.params.toList args.toList ds p := hA0
  rw [Tryz.params6] at hA hval
  have hAk := hA
  obtain ⟨v0, vs0, d0, ds0, p0, q0, hargs, hds0, hps0, h0, r0⟩ := trodAll_cons hA
  obtain ⟨v1, vs1, d1, ds1, p1, q1, hvs1, hds1, hps1, h1, r1⟩ := trodAll_cons r0
  subst hvs1
  obtain ⟨v2, vs2, d2, ds2, p2, q2, hvs2, hds2, hps2, h2, r2⟩ := trodAll_cons r1
  subst hvs2
  obtain ⟨v3, vs3, d3, ds3, p3, q3, hvs3, hds3, hps3, h3, r3⟩ := trodAll_cons r2
  subst hvs3
  obtain ⟨v4, vs4, d4, ds4, p4, q4, hvs4, hds4, hps4, h4, r4⟩ := trodAll_cons r3
  subst hvs4
  obtain ⟨hv9, hds9, hps9⟩ := trodAll_nil r4
  subst hv9
  subst hds9
  subst hds4
  subst hds3
  subst hds2
  subst hds1
  subst hds0
  obtain rfl : args = #[v0, v1, v2, v3, v4] := by cases args; simp_all
  obtain ⟨rfl, rfl⟩ := trodVars_none hV
  obtain ⟨s0, rfl, hd0, hp0, ws0⟩ := openString (hval 0 9 v0 rfl rfl) h0
  obtain ⟨s1, rfl, hd1, hp1, ws1⟩ := openString (hval 1 9 v1 rfl rfl) h1
  obtain ⟨s2, rfl, hs2⟩ := openBt (hval 2 45 v2 rfl rfl) h2 (bulk_of hsmall (d := d2) (by simp))
  obtain ⟨s3, rfl, hs3⟩ := openSr (hval 3 35 v3 rfl rfl) h3 (bulk_of hsmall (d := d3) (by simp))
  obtain ⟨a4, rfl, hd4, hp4, wa4⟩ := openU64 (hval 4 22 v4 rfl rfl) h4
  have hb0 := bulk_string (hd0 ▸ bulk_of hsmall (d := d0) (by simp))
  have hb1 := bulk_string (hd1 ▸ bulk_of hsmall (d := d1) (by simp))
  have hK := hasK_of hL
  refine (walk s0.data.toList s1.data.toList s2 s3 a4 (bounds_u64 wa4).1 (bounds_u64 wa4).2 W hs2 hs3 hK).mono fun e W' ⟨he, hg⟩ => ?_
  subst he
  have hlt : ∀ x ∈ p, x.block < W.heap.size := fun x hx => hW'.lt x (by simp [hx])
  exact ⟨_, rfl, post_below (pa := p) (pv := []) hW' (fun _ _ _ => (trodAll_cons_mk (shut_bool Tryz.underlying4 _) trodAll_mk0)) (fun sp hsp => by have := stays_all laidOut hg (by kernel_rfl) hAk hlt sp (fun x hx => hsp x (by simp [hx])); rw [← Tryz.params6] at this; exact this) (fun _ _ => rfl) rfl hg (ok_one (by kernel_rfl) rfl (okWide_bool_mk Tryz.underlying4 _))⟩
theorem laid_met (os : Os) : laidMet Tryz.prog Rows.lightOnceUptoRow.laid ((laidWorld os).forCall (fun _ _ => 0) ⟨#[], #[.string ByteArray.empty, .string ByteArray.empty, btV Bt.zero, srV Sr.zero, .int .u64 0], []⟩).memory :=
  laidMet_of_run' 8 (by kernel_rfl) (by kernel_rfl)
theorem reads (os : Os) {H : Type} (enc : TypeId × Value → H) : ∃ places, DataW.whole enc Tryz.prog ((laidWorld os).forCall (fun _ _ => 0) ⟨#[], #[.string ByteArray.empty, .string ByteArray.empty, btV Bt.zero, srV Sr.zero, .int .u64 0], []⟩).memory Tryz.f6.params.toList Rows.lightOnceSpec.vars false #[.string ByteArray.empty, .string ByteArray.empty, btV Bt.zero, srV Sr.zero, .int .u64 0].toList 8 = some ([.lit (.string []), .lit (.string []), btD0 H, srD0 H, .lit (.int .u64 0)], [], places) :=
  ⟨[], by kernel_rfl⟩
set_option maxRecDepth 100000 in
theorem lifted (os : Os) (started : os.Started) (H : Type) (enc : TypeId × Value → H) (F : Stop.Interp) :
    ReturnsInHanded {} Tryz.checked os 6 .any ((Rows.OpenSpec.upto Rows.lightOnceSpec).preRow enc Tryz.prog Tryz.f6 Rows.lightOnceUptoRow.domain false Rows.lightOnceUptoRow.laid) (((Rows.OpenSpec.upto Rows.lightOnceSpec).at F).post enc Tryz.prog Tryz.f6 false true false false) := by
  obtain ⟨places, hx⟩ := reads os enc
  refine returnsInHanded_of_row (C := Tryz.checked) (s := Rows.OpenSpec.upto Rows.lightOnceSpec) own started (by kernel_rfl) Tryz.func6
    (witness_row_at (enc := enc) (C := Tryz.checked) false (laidWorld os) #[.string ByteArray.empty, .string ByteArray.empty, btV Bt.zero, srV Sr.zero, .int .u64 0] rfl (by kernel_rfl) (by kernel_rfl) (by kernel_rfl)
      (OpenSpec.preRow_of_cond 8 hx (by kernel_rfl) (fun k hk => by cases hk; kernel_rfl) (by kernel_rfl) (laid_met os))) ?_
  intro W base args ds gs before hval hW _ hcond hreach hL _ _
  exact contract H enc W base args ds gs before hval hW (hcond _ rfl) hL
theorem and_mk {a b : Bool} (h : a = true) (k : b = true) : (a && b) = true := by rw [h, k]; rfl
set_option maxHeartbeats 40000000 in
theorem facts : joinedFacts Tryz.pinned.checked.prog 6 Tryz.f6 (Rows.OpenSpec.upto Rows.lightOnceSpec).bare Rows.lightOnceUptoRow = true := by
  unfold joinedFacts
  repeat' (with_reducible refine and_mk ?_ ?_)
  all_goals (as_aux_lemma => kernel_rfl)
theorem said : Rows.LightOnceUptoSaid :=
  OpenClaim.holds_of_cond 6 Tryz.f6 rfl rfl rfl rfl rfl rfl rfl ⟨rfl, rfl, rfl, rfl, rfl⟩ rfl rfl rfl rfl rfl (by kernel_rfl) Tryz.func6 facts
    (of_decide_eq_true (by kernel_rfl)) (by unfold Func.isWrapper; first | (rw [if_pos (by decide +kernel)]; kernel_rfl) | (rw [if_neg (by decide +kernel)]; exact ⟨rfl, rfl⟩))
    (fun os started H enc _ F => by rw [OpenClaim.pre_eq_preRow]; exact lifted os started H enc F)
theorem plain (f : FuncId) (fn : Func) (hf : Tryz.pinned.checked.prog.funcNamed "pharos/pharoslaw14.LightOnce" = some f) (hfn : Tryz.pinned.checked.prog.funcs[f]? = some fn) :
    false = Tryz.pinned.checked.prog.looks [] ∧ ∀ (j : Nat) t, fn.params[j]? = some t → Tryz.pinned.checked.prog.wantsStandIn t = false := by
  obtain rfl : f = 6 := Option.some.inj ((show Tryz.prog.funcNamed "pharos/pharoslaw14.LightOnce" = some 6 by kernel_rfl).symm.trans hf) |>.symm
  obtain rfl : fn = Tryz.f6 := (Option.some.inj (Tryz.func6.symm.trans hfn)).symm
  refine ⟨by kernel_rfl, fun j t ht => ?_⟩
  rw [Tryz.params6] at ht
  have hm : t ∈ [9, 9, 45, 35, 22] := by simpa using Array.mem_of_getElem? ht
  have hall : ∀ t ∈ [9, 9, 45, 35, 22], Tryz.prog.wantsStandIn t = false := by
    intro t h
    simp only [List.mem_cons, List.not_mem_nil, or_false] at h
    rcases h with rfl | rfl | rfl | rfl | rfl <;> kernel_rfl
  exact hall t hm

/-- THE STATEMENT'S CARD -/
theorem proved : Rows.LightOnceUptoCardSaid :=
  Claim7.holds_tied_plain_at .later [] _ _ _ _ said (fun _ h => by cases h) (by kernel_rfl) (fun _ h => by cases h) lightOnceUpto_row_tie rfl ⟨rfl, rfl⟩ (by kernel_rfl) rfl plain (by kernel_rfl)

end lawLightOnce
end Go.Proofs.YtegaaccioppfjaaGreatDoor
