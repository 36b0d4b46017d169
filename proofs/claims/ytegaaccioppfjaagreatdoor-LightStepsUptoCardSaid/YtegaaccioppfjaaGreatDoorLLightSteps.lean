/- The finalized slot, and the newest one, never go back; the period rises by at most one with what is applied; what is refused changes nothing: by the program, any store, update, slot, their bulk bounded. -/
import Derived.Test.YtegaaccioppfjaaGreatDoorFtX
import Derived.Test.YtegaaccioppfjaaGreatDoorFt22
import Derived.Test.YtegaaccioppfjaaGreatDoorFt26
import Derived.Test.YtegaaccioppfjaaGreatDoorFt9
import Derived.Test.YtegaaccioppfjaaGreatDoorFt16
import Derived.WalkKit
import Derived.ProofKit
import Derived.OpenShut
set_option linter.unusedSimpArgs false
set_option linter.unusedVariables false
namespace Go.Proofs.YtegaaccioppfjaaGreatDoor
open BigFrame Go.RowKit Go.Phx Go.Shelf
attribute [local go_sem] Oper.semAt_some
namespace lawLightSteps

set_option maxRecDepth 100000 in
set_option maxHeartbeats 8000000 in
theorem walk (s : Sr) (u : Up) (now : Int) (hn0 : 0 ≤ now) (hn1 : now ≤ 18446744073709551615) (w : World) (hs : SrIn w s) (hu : UpIn w u) (hk : HasK w) :
    Calls Tryz.prog 10 #[srV s, upV u, .int .u64 now] w (Ret w (.bool true)) := by
  obtain ⟨n, rfl⟩ : ∃ n : Nat, now = n := ⟨now.toNat, (Int.toNat_of_nonneg hn0).symm⟩
  have hn : n < 18446744073709551616 := by omega
  have n1 := fun W (hB : Below w.heap.size w W) => shown14_calls W (hk.on hB)
  have n2 := fun W (hB : Below w.heap.size w W) => lgapply_calls s u n W (hk.on hB) (hs.below hB) (hu.below hB) hn
  have n3 := fun W (hB : Below w.heap.size w W) => lgforce_calls s n W (hs.below hB) hn
  have hx := applyS_in n hs hu
  have hy := forceS_in n hs
  have n4 := fun W (hB : Below w.heap.size w W) => rsameSr_calls (applyS s u n) s W (hx.below hB) (hs.below hB)
  have n5 := fun W (hB : Below w.heap.size w W) => rsameSr_calls (forceS s n) s W (hy.below hB) (hs.below hB)
  have v1 : checkE s u n ≠ 0 → sameSr (applyS s u n) s = true := fun h => by
    unfold applyS
    rw [if_neg h]
    exact sameSr_refl s
  have v2 : forceE s n ≠ 0 → sameSr (forceS s n) s = true := fun h => by
    unfold forceS
    unfold forceE at h
    by_cases hf : noForce s n = true
    · rw [if_pos hf]
      exact sameSr_refl s
    · rw [if_neg hf] at h
      exact absurd rfl h
  have v3 : s.fin.b.slot ≤ (applyS s u n).fin.b.slot ∧ s.new.b.slot ≤ (applyS s u n).new.b.slot ∧ (applyS s u n).fin.b.slot / 64 ≤ s.fin.b.slot / 64 + 1 ∧ (checkE s u n = 0 → u.slot ≤ n) ∧ (applyS s u n).forced = s.forced := by
    unfold applyS
    by_cases h : checkE s u n = 0
    · rw [if_pos h]
      obtain ⟨a, b, c, d⟩ := apply_steps h
      exact ⟨a, b, c, fun _ => d, apply_forced s u⟩
    · rw [if_neg h]
      exact ⟨Nat.le_refl _, Nat.le_refl _, by omega, fun k => absurd k h, rfl⟩
  have v4 : s.fin.b.slot ≤ (forceS s n).fin.b.slot ∧ s.new.b.slot ≤ (forceS s n).new.b.slot := by
    unfold forceS
    split
    · exact ⟨Nat.le_refl _, Nat.le_refl _⟩
    · exact force_steps s
  have q1 := wrap_period s.fin.b.slot hs.1.1.1
  have q2 := wrap_period (applyS s u n).fin.b.slot hx.1.1.1
  have hsf := hs.1.1.1
  have hxf := hx.1.1.1
  unfold period at q1 q2
  generalize checkE s u n = e at *
  generalize applyS s u n = x at *
  generalize forceS s n = y at *
  generalize forceE s n = f at *
  generalize sameSr x s = r1 at *
  generalize sameSr y s = r2 at *
  obtain ⟨p1, p2, p3, p4, p5⟩ := v3
  obtain ⟨p6, p7⟩ := v4
  obtain ⟨a1, ha1⟩ : ∃ a, s.fin.b.slot / 64 = a := ⟨_, rfl⟩
  obtain ⟨a2, ha2⟩ : ∃ a, x.fin.b.slot / 64 = a := ⟨_, rfl⟩
  rw [ha1] at q1 p3
  rw [ha2] at q2 p3
  have q3 : IntKind.u64.wrap ((a1 : Int) + 1) = (a1 : Int) + 1 := IntWalk.u64_in _ (by omega)
  have i1 : ¬ (x.fin.b.slot : Int) < (s.fin.b.slot : Int) := by omega
  have i2 : ¬ (x.new.b.slot : Int) < (s.new.b.slot : Int) := by omega
  have i3 : ¬ (y.fin.b.slot : Int) < (s.fin.b.slot : Int) := by omega
  have i4 : ¬ (y.new.b.slot : Int) < (s.new.b.slot : Int) := by omega
  have i5 : (a2 : Int) ≤ (a1 : Int) + 1 := by omega
  replace v1 := Lib.hid v1
  replace v2 := Lib.hid v2
  replace p4 := Lib.hid p4
  replace n1 := Lib.hid n1
  replace n2 := Lib.hid n2
  replace n3 := Lib.hid n3
  replace n4 := Lib.hid n4
  replace n5 := Lib.hid n5
  clear hs hu hk hn0 hn1 hn hx hy hsf hxf ha1 ha2 p1 p2 p3 p6 p7
  have K0 := (Blk.new0 w 35 (srA s)).alloc (.cells (upA u) 33)
  have K1 := Blk.new1 w (.cells (srA s) 35) 33 (upA u)
  have HB : Below w.heap.size w ((w.alloc (.cells (srA s) 35)).alloc (.cells (upA u) 33)) := (by repeat (first | assumption | exact Below.refl _ _ | refine Below.setCell ?_ (by first | exact Nat.le_refl _ | (simp; done) | omega | (simp; omega)) _ | refine Below.alloc ?_ (by first | exact Nat.le_refl _ | (simp; done) | omega | (simp; omega)) _ | refine below_drewN ?_ _ | refine Below.drew ?_ | refine Below.on (by assumption) ?_ | refine Below.via (by assumption) (by first | exact Nat.le_refl _ | (simp; done) | omega | (simp; omega)) ?_))
  go_enter Tryz.func10, Tryz.ntmps10
  go_upto_region 1 with fail
  obtain ⟨W, hW⟩ : ∃ W, ((w.alloc (.cells (srA s) 35)).alloc (.cells (upA u) 33)) = W := ⟨_, rfl⟩
  rw [hW] at K0 K1 HB ⊢
  clear hW
  obtain ⟨g, hg⟩ : ∃ g, w.heap.size = g := ⟨_, rfl⟩
  have hgl : w.heap.size ≤ g := by omega
  rw [hg] at K0 K1 ⊢
  clear hg
  replace K0 := Lib.hid K0
  replace K1 := Lib.hid K1
  (have k0 := Blk.cell K0.out; have f0 := Blk.free K0.out; have l0 := Blk.lt K0.out; have m0 := Nat.le_of_lt l0; have k1 := Blk.cell K1.out; have f1 := Blk.free K1.out; have l1 := Blk.lt K1.out; have m1 := Nat.le_of_lt l1)
  go_wp2_with fail
  (refine (n1.out _ HB).mono ?_; rintro e w1 ⟨rfl, hN⟩; have N0 := Lib.hid (K0.out.below hN); have N1 := Lib.hid (K1.out.below hN); have HBn : Below w.heap.size w w1 := Below.on hN HB; clear hN HB K0 k0 f0 l0 m0 K1 k1 f1 l1 m1; have K0 := N0; clear N0; have K1 := N1; clear N1; have HB := HBn; clear HBn; (have k0 := Blk.cell K0.out; have f0 := Blk.free K0.out; have l0 := Blk.lt K0.out; have m0 := Nat.le_of_lt l0; have k1 := Blk.cell K1.out; have f1 := Blk.free K1.out; have l1 := Blk.lt K1.out; have m1 := Nat.le_of_lt l1))
  go_wp2_with (first | (with_reducible refine wpList_load_run (o := ⟨_, .load 35 _, _, _, _, none⟩) (ldSr _ K0.out) rfl _ rfl rfl ?_) | (with_reducible refine wpList_load_run_g (o := ⟨_, .load 35 _, _, _, _, some _⟩) (ldSr _ K0.out) (by with_unfolding_all rfl) _ rfl rfl ?_) | (with_reducible refine wpList_load_run (o := ⟨_, .load 33 _, _, _, _, none⟩) (ldUp _ K1.out) rfl _ rfl rfl ?_) | (with_reducible refine wpList_load_run_g (o := ⟨_, .load 33 _, _, _, _, some _⟩) (ldUp _ K1.out) (by with_unfolding_all rfl) _ rfl rfl ?_))
  (refine (n2.out _ HB).mono ?_; rintro e w2 ⟨rfl, hN⟩; have N0 := Lib.hid (K0.out.below hN); have N1 := Lib.hid (K1.out.below hN); have HBn : Below w.heap.size w w2 := Below.on hN HB; clear hN HB K0 k0 f0 l0 m0 K1 k1 f1 l1 m1; have K0 := N0; clear N0; have K1 := N1; clear N1; have HB := HBn; clear HBn; (have k0 := Blk.cell K0.out; have f0 := Blk.free K0.out; have l0 := Blk.lt K0.out; have m0 := Nat.le_of_lt l0; have k1 := Blk.cell K1.out; have f1 := Blk.free K1.out; have l1 := Blk.lt K1.out; have m1 := Nat.le_of_lt l1))
  (go_wp2_with (first | (with_reducible refine wpList_store_halt (o := ⟨_, .store 35 _ _, _, _, _, none⟩) (stSr Sr.zero (Blk.new0 w2 35 (srA Sr.zero)) (x)) rfl _ _ rfl rfl rfl ?_)); generalize hWN : setRow _ _ _ _ = WN; have N0 := Lib.hid (show Blk WN _ _ _ by rw [← hWN]; exact Blk.rowOver (Nat.ne_of_lt K0.out.lt) (K0.out.alloc _)); have N1 := Lib.hid (show Blk WN _ _ _ by rw [← hWN]; exact Blk.rowOver (Nat.ne_of_lt K1.out.lt) (K1.out.alloc _)); have N2 := (show Blk WN (World.heap w2).size 35 (srA (x)) by rw [← hWN]; exact Blk.row (by simp)); have HBn : Below w.heap.size w WN := (by rw [← hWN]; exact Below.row (HB.alloc HB.size _) HB.size (by have := HB.size; simp; omega)); obtain ⟨g2, hgj⟩ : ∃ g, (World.heap w2).size = g := ⟨_, rfl⟩; have hg0_2 : _ < g2 := (by rw [← hgj]; exact l0); have hg1_2 : _ < g2 := (by rw [← hgj]; exact l1); have hgl2 : w.heap.size ≤ g2 := (by rw [← hgj]; exact HB.size); rw [hgj] at N2 ⊢; replace N2 := Lib.hid N2; clear hWN hgj HB K0 k0 f0 l0 m0 K1 k1 f1 l1 m1; have K0 := N0; clear N0; have K1 := N1; clear N1; have K2 := N2; clear N2; have HB := HBn; clear HBn; (have k0 := Blk.cell K0.out; have f0 := Blk.free K0.out; have l0 := Blk.lt K0.out; have m0 := Nat.le_of_lt l0; have k1 := Blk.cell K1.out; have f1 := Blk.free K1.out; have l1 := Blk.lt K1.out; have m1 := Nat.le_of_lt l1; have k2 := Blk.cell K2.out; have f2 := Blk.free K2.out; have l2 := Blk.lt K2.out; have m2 := Nat.le_of_lt l2); unfold Halted)
  go_wp2_with (first | (with_reducible refine wpList_load_run (o := ⟨_, .load 35 _, _, _, _, none⟩) (ldSr _ K0.out) rfl _ rfl rfl ?_) | (with_reducible refine wpList_load_run_g (o := ⟨_, .load 35 _, _, _, _, some _⟩) (ldSr _ K0.out) (by with_unfolding_all rfl) _ rfl rfl ?_))
  (refine (n3.out _ HB).mono ?_; rintro e w3 ⟨rfl, hN⟩; have N0 := Lib.hid (K0.out.below hN); have N1 := Lib.hid (K1.out.below hN); have N2 := Lib.hid (K2.out.below hN); have HBn : Below w.heap.size w w3 := Below.on hN HB; clear hN HB K0 k0 f0 l0 m0 K1 k1 f1 l1 m1 K2 k2 f2 l2 m2; have K0 := N0; clear N0; have K1 := N1; clear N1; have K2 := N2; clear N2; have HB := HBn; clear HBn; (have k0 := Blk.cell K0.out; have f0 := Blk.free K0.out; have l0 := Blk.lt K0.out; have m0 := Nat.le_of_lt l0; have k1 := Blk.cell K1.out; have f1 := Blk.free K1.out; have l1 := Blk.lt K1.out; have m1 := Nat.le_of_lt l1; have k2 := Blk.cell K2.out; have f2 := Blk.free K2.out; have l2 := Blk.lt K2.out; have m2 := Nat.le_of_lt l2))
  (go_wp2_with (first | (with_reducible refine wpList_store_halt (o := ⟨_, .store 35 _ _, _, _, _, none⟩) (stSr Sr.zero (Blk.new0 w3 35 (srA Sr.zero)) (y)) rfl _ _ rfl rfl rfl ?_)); generalize hWN : setRow _ _ _ _ = WN; have N0 := Lib.hid (show Blk WN _ _ _ by rw [← hWN]; exact Blk.rowOver (Nat.ne_of_lt K0.out.lt) (K0.out.alloc _)); have N1 := Lib.hid (show Blk WN _ _ _ by rw [← hWN]; exact Blk.rowOver (Nat.ne_of_lt K1.out.lt) (K1.out.alloc _)); have N2 := Lib.hid (show Blk WN _ _ _ by rw [← hWN]; exact Blk.rowOver (Nat.ne_of_lt K2.out.lt) (K2.out.alloc _)); have N3 := (show Blk WN (World.heap w3).size 35 (srA (y)) by rw [← hWN]; exact Blk.row (by simp)); have HBn : Below w.heap.size w WN := (by rw [← hWN]; exact Below.row (HB.alloc HB.size _) HB.size (by have := HB.size; simp; omega)); obtain ⟨g3, hgj⟩ : ∃ g, (World.heap w3).size = g := ⟨_, rfl⟩; have hg0_3 : _ < g3 := (by rw [← hgj]; exact l0); have hg1_3 : _ < g3 := (by rw [← hgj]; exact l1); have hg2_3 : _ < g3 := (by rw [← hgj]; exact l2); have hgl3 : w.heap.size ≤ g3 := (by rw [← hgj]; exact HB.size); rw [hgj] at N3 ⊢; replace N3 := Lib.hid N3; clear hWN hgj HB K0 k0 f0 l0 m0 K1 k1 f1 l1 m1 K2 k2 f2 l2 m2; have K0 := N0; clear N0; have K1 := N1; clear N1; have K2 := N2; clear N2; have K3 := N3; clear N3; have HB := HBn; clear HBn; (have k0 := Blk.cell K0.out; have f0 := Blk.free K0.out; have l0 := Blk.lt K0.out; have m0 := Nat.le_of_lt l0; have k1 := Blk.cell K1.out; have f1 := Blk.free K1.out; have l1 := Blk.lt K1.out; have m1 := Nat.le_of_lt l1; have k2 := Blk.cell K2.out; have f2 := Blk.free K2.out; have l2 := Blk.lt K2.out; have m2 := Nat.le_of_lt l2; have k3 := Blk.cell K3.out; have f3 := Blk.free K3.out; have l3 := Blk.lt K3.out; have m3 := Nat.le_of_lt l3); unfold Halted)
  go_upto_region 4 with fail
  go_cut [43] (fun s43 wx => s43 = .bool false ∧ Blk wx g 35 (srA s) ∧ Blk wx (g + 1) 33 (upA u) ∧ Blk wx g2 35 (srA x) ∧ Blk wx g3 35 (srA y) ∧ Below w.heap.size w wx)
  case first =>
    as_aux_lemma =>
      clear i1 i2 i3 i4 i5 q1 q2 q3 p4 p5
      by_cases he : e = 0
      · have e3 : (e != 0) = false := by simpa using he
        have e3b : (e == 0) = true := by simpa using he
        clear v1 he
        by_cases hf : f = 0
        · have e4 : (f != 0) = false := by simpa using hf
          have e4b : (f == 0) = true := by simpa using hf
          clear v2 hf
          go_wp2_with (first | (with_reducible refine wpList_load_run (o := ⟨_, .load 35 _, _, _, _, none⟩) (ldSr _ K0.out) rfl _ rfl rfl ?_) | (with_reducible refine wpList_load_run_g (o := ⟨_, .load 35 _, _, _, _, some _⟩) (ldSr _ K0.out) (by with_unfolding_all rfl) _ rfl rfl ?_) | (with_reducible refine wpList_load_run (o := ⟨_, .load 35 _, _, _, _, none⟩) (ldSr _ K2.out) rfl _ rfl rfl ?_) | (with_reducible refine wpList_load_run_g (o := ⟨_, .load 35 _, _, _, _, some _⟩) (ldSr _ K2.out) (by with_unfolding_all rfl) _ rfl rfl ?_) | (with_reducible refine wpList_load_run (o := ⟨_, .load 35 _, _, _, _, none⟩) (ldSr _ K3.out) rfl _ rfl rfl ?_) | (with_reducible refine wpList_load_run_g (o := ⟨_, .load 35 _, _, _, _, some _⟩) (ldSr _ K3.out) (by with_unfolding_all rfl) _ rfl rfl ?_))
          go_meet
          case rel => exact ⟨rfl, K0.out, K1.out, K2.out, K3.out, HB⟩
        · have e4 : (f != 0) = true := by simpa using hf
          have e4b : (f == 0) = false := by simpa using hf
          obtain rfl := v2.out hf
          clear v2 hf
          go_wp2_with (first | (with_reducible refine wpList_load_run (o := ⟨_, .load 35 _, _, _, _, none⟩) (ldSr _ K0.out) rfl _ rfl rfl ?_) | (with_reducible refine wpList_load_run_g (o := ⟨_, .load 35 _, _, _, _, some _⟩) (ldSr _ K0.out) (by with_unfolding_all rfl) _ rfl rfl ?_) | (with_reducible refine wpList_load_run (o := ⟨_, .load 35 _, _, _, _, none⟩) (ldSr _ K2.out) rfl _ rfl rfl ?_) | (with_reducible refine wpList_load_run_g (o := ⟨_, .load 35 _, _, _, _, some _⟩) (ldSr _ K2.out) (by with_unfolding_all rfl) _ rfl rfl ?_) | (with_reducible refine wpList_load_run (o := ⟨_, .load 35 _, _, _, _, none⟩) (ldSr _ K3.out) rfl _ rfl rfl ?_) | (with_reducible refine wpList_load_run_g (o := ⟨_, .load 35 _, _, _, _, some _⟩) (ldSr _ K3.out) (by with_unfolding_all rfl) _ rfl rfl ?_))
          (refine (n5.out _ HB).mono ?_; rintro e w5 ⟨rfl, hN⟩; have N0 := Lib.hid (K0.out.below hN); have N1 := Lib.hid (K1.out.below hN); have N2 := Lib.hid (K2.out.below hN); have N3 := Lib.hid (K3.out.below hN); have HBn : Below w.heap.size w w5 := Below.on hN HB; clear hN HB K0 k0 f0 l0 m0 K1 k1 f1 l1 m1 K2 k2 f2 l2 m2 K3 k3 f3 l3 m3; have K0 := N0; clear N0; have K1 := N1; clear N1; have K2 := N2; clear N2; have K3 := N3; clear N3; have HB := HBn; clear HBn; (have k0 := Blk.cell K0.out; have f0 := Blk.free K0.out; have l0 := Blk.lt K0.out; have m0 := Nat.le_of_lt l0; have k1 := Blk.cell K1.out; have f1 := Blk.free K1.out; have l1 := Blk.lt K1.out; have m1 := Nat.le_of_lt l1; have k2 := Blk.cell K2.out; have f2 := Blk.free K2.out; have l2 := Blk.lt K2.out; have m2 := Nat.le_of_lt l2; have k3 := Blk.cell K3.out; have f3 := Blk.free K3.out; have l3 := Blk.lt K3.out; have m3 := Nat.le_of_lt l3))
          go_wp2_with (first | (with_reducible refine wpList_load_run (o := ⟨_, .load 35 _, _, _, _, none⟩) (ldSr _ K0.out) rfl _ rfl rfl ?_) | (with_reducible refine wpList_load_run_g (o := ⟨_, .load 35 _, _, _, _, some _⟩) (ldSr _ K0.out) (by with_unfolding_all rfl) _ rfl rfl ?_) | (with_reducible refine wpList_load_run (o := ⟨_, .load 35 _, _, _, _, none⟩) (ldSr _ K2.out) rfl _ rfl rfl ?_) | (with_reducible refine wpList_load_run_g (o := ⟨_, .load 35 _, _, _, _, some _⟩) (ldSr _ K2.out) (by with_unfolding_all rfl) _ rfl rfl ?_) | (with_reducible refine wpList_load_run (o := ⟨_, .load 35 _, _, _, _, none⟩) (ldSr _ K3.out) rfl _ rfl rfl ?_) | (with_reducible refine wpList_load_run_g (o := ⟨_, .load 35 _, _, _, _, some _⟩) (ldSr _ K3.out) (by with_unfolding_all rfl) _ rfl rfl ?_))
          go_meet
          case rel => exact ⟨rfl, K0.out, K1.out, K2.out, K3.out, HB⟩
      · have e3 : (e != 0) = true := by simpa using he
        have e3b : (e == 0) = false := by simpa using he
        obtain rfl := v1.out he
        clear v1 he
        by_cases hf : f = 0
        · have e4 : (f != 0) = false := by simpa using hf
          have e4b : (f == 0) = true := by simpa using hf
          clear v2 hf
          go_wp2_with (first | (with_reducible refine wpList_load_run (o := ⟨_, .load 35 _, _, _, _, none⟩) (ldSr _ K0.out) rfl _ rfl rfl ?_) | (with_reducible refine wpList_load_run_g (o := ⟨_, .load 35 _, _, _, _, some _⟩) (ldSr _ K0.out) (by with_unfolding_all rfl) _ rfl rfl ?_) | (with_reducible refine wpList_load_run (o := ⟨_, .load 35 _, _, _, _, none⟩) (ldSr _ K2.out) rfl _ rfl rfl ?_) | (with_reducible refine wpList_load_run_g (o := ⟨_, .load 35 _, _, _, _, some _⟩) (ldSr _ K2.out) (by with_unfolding_all rfl) _ rfl rfl ?_) | (with_reducible refine wpList_load_run (o := ⟨_, .load 35 _, _, _, _, none⟩) (ldSr _ K3.out) rfl _ rfl rfl ?_) | (with_reducible refine wpList_load_run_g (o := ⟨_, .load 35 _, _, _, _, some _⟩) (ldSr _ K3.out) (by with_unfolding_all rfl) _ rfl rfl ?_))
          (refine (n4.out _ HB).mono ?_; rintro e w4 ⟨rfl, hN⟩; have N0 := Lib.hid (K0.out.below hN); have N1 := Lib.hid (K1.out.below hN); have N2 := Lib.hid (K2.out.below hN); have N3 := Lib.hid (K3.out.below hN); have HBn : Below w.heap.size w w4 := Below.on hN HB; clear hN HB K0 k0 f0 l0 m0 K1 k1 f1 l1 m1 K2 k2 f2 l2 m2 K3 k3 f3 l3 m3; have K0 := N0; clear N0; have K1 := N1; clear N1; have K2 := N2; clear N2; have K3 := N3; clear N3; have HB := HBn; clear HBn; (have k0 := Blk.cell K0.out; have f0 := Blk.free K0.out; have l0 := Blk.lt K0.out; have m0 := Nat.le_of_lt l0; have k1 := Blk.cell K1.out; have f1 := Blk.free K1.out; have l1 := Blk.lt K1.out; have m1 := Nat.le_of_lt l1; have k2 := Blk.cell K2.out; have f2 := Blk.free K2.out; have l2 := Blk.lt K2.out; have m2 := Nat.le_of_lt l2; have k3 := Blk.cell K3.out; have f3 := Blk.free K3.out; have l3 := Blk.lt K3.out; have m3 := Nat.le_of_lt l3))
          go_wp2_with (first | (with_reducible refine wpList_load_run (o := ⟨_, .load 35 _, _, _, _, none⟩) (ldSr _ K0.out) rfl _ rfl rfl ?_) | (with_reducible refine wpList_load_run_g (o := ⟨_, .load 35 _, _, _, _, some _⟩) (ldSr _ K0.out) (by with_unfolding_all rfl) _ rfl rfl ?_) | (with_reducible refine wpList_load_run (o := ⟨_, .load 35 _, _, _, _, none⟩) (ldSr _ K2.out) rfl _ rfl rfl ?_) | (with_reducible refine wpList_load_run_g (o := ⟨_, .load 35 _, _, _, _, some _⟩) (ldSr _ K2.out) (by with_unfolding_all rfl) _ rfl rfl ?_) | (with_reducible refine wpList_load_run (o := ⟨_, .load 35 _, _, _, _, none⟩) (ldSr _ K3.out) rfl _ rfl rfl ?_) | (with_reducible refine wpList_load_run_g (o := ⟨_, .load 35 _, _, _, _, some _⟩) (ldSr _ K3.out) (by with_unfolding_all rfl) _ rfl rfl ?_))
          go_meet
          case rel => exact ⟨rfl, K0.out, K1.out, K2.out, K3.out, HB⟩
        · have e4 : (f != 0) = true := by simpa using hf
          have e4b : (f == 0) = false := by simpa using hf
          obtain rfl := v2.out hf
          clear v2 hf
          go_wp2_with (first | (with_reducible refine wpList_load_run (o := ⟨_, .load 35 _, _, _, _, none⟩) (ldSr _ K0.out) rfl _ rfl rfl ?_) | (with_reducible refine wpList_load_run_g (o := ⟨_, .load 35 _, _, _, _, some _⟩) (ldSr _ K0.out) (by with_unfolding_all rfl) _ rfl rfl ?_) | (with_reducible refine wpList_load_run (o := ⟨_, .load 35 _, _, _, _, none⟩) (ldSr _ K2.out) rfl _ rfl rfl ?_) | (with_reducible refine wpList_load_run_g (o := ⟨_, .load 35 _, _, _, _, some _⟩) (ldSr _ K2.out) (by with_unfolding_all rfl) _ rfl rfl ?_) | (with_reducible refine wpList_load_run (o := ⟨_, .load 35 _, _, _, _, none⟩) (ldSr _ K3.out) rfl _ rfl rfl ?_) | (with_reducible refine wpList_load_run_g (o := ⟨_, .load 35 _, _, _, _, some _⟩) (ldSr _ K3.out) (by with_unfolding_all rfl) _ rfl rfl ?_))
          (refine (n4.out _ HB).mono ?_; rintro e w4 ⟨rfl, hN⟩; have N0 := Lib.hid (K0.out.below hN); have N1 := Lib.hid (K1.out.below hN); have N2 := Lib.hid (K2.out.below hN); have N3 := Lib.hid (K3.out.below hN); have HBn : Below w.heap.size w w4 := Below.on hN HB; clear hN HB K0 k0 f0 l0 m0 K1 k1 f1 l1 m1 K2 k2 f2 l2 m2 K3 k3 f3 l3 m3; have K0 := N0; clear N0; have K1 := N1; clear N1; have K2 := N2; clear N2; have K3 := N3; clear N3; have HB := HBn; clear HBn; (have k0 := Blk.cell K0.out; have f0 := Blk.free K0.out; have l0 := Blk.lt K0.out; have m0 := Nat.le_of_lt l0; have k1 := Blk.cell K1.out; have f1 := Blk.free K1.out; have l1 := Blk.lt K1.out; have m1 := Nat.le_of_lt l1; have k2 := Blk.cell K2.out; have f2 := Blk.free K2.out; have l2 := Blk.lt K2.out; have m2 := Nat.le_of_lt l2; have k3 := Blk.cell K3.out; have f3 := Blk.free K3.out; have l3 := Blk.lt K3.out; have m3 := Nat.le_of_lt l3))
          go_wp2_with (first | (with_reducible refine wpList_load_run (o := ⟨_, .load 35 _, _, _, _, none⟩) (ldSr _ K0.out) rfl _ rfl rfl ?_) | (with_reducible refine wpList_load_run_g (o := ⟨_, .load 35 _, _, _, _, some _⟩) (ldSr _ K0.out) (by with_unfolding_all rfl) _ rfl rfl ?_) | (with_reducible refine wpList_load_run (o := ⟨_, .load 35 _, _, _, _, none⟩) (ldSr _ K2.out) rfl _ rfl rfl ?_) | (with_reducible refine wpList_load_run_g (o := ⟨_, .load 35 _, _, _, _, some _⟩) (ldSr _ K2.out) (by with_unfolding_all rfl) _ rfl rfl ?_) | (with_reducible refine wpList_load_run (o := ⟨_, .load 35 _, _, _, _, none⟩) (ldSr _ K3.out) rfl _ rfl rfl ?_) | (with_reducible refine wpList_load_run_g (o := ⟨_, .load 35 _, _, _, _, some _⟩) (ldSr _ K3.out) (by with_unfolding_all rfl) _ rfl rfl ?_))
          (refine (n5.out _ HB).mono ?_; rintro e w5 ⟨rfl, hN⟩; have N0 := Lib.hid (K0.out.below hN); have N1 := Lib.hid (K1.out.below hN); have N2 := Lib.hid (K2.out.below hN); have N3 := Lib.hid (K3.out.below hN); have HBn : Below w.heap.size w w5 := Below.on hN HB; clear hN HB K0 k0 f0 l0 m0 K1 k1 f1 l1 m1 K2 k2 f2 l2 m2 K3 k3 f3 l3 m3; have K0 := N0; clear N0; have K1 := N1; clear N1; have K2 := N2; clear N2; have K3 := N3; clear N3; have HB := HBn; clear HBn; (have k0 := Blk.cell K0.out; have f0 := Blk.free K0.out; have l0 := Blk.lt K0.out; have m0 := Nat.le_of_lt l0; have k1 := Blk.cell K1.out; have f1 := Blk.free K1.out; have l1 := Blk.lt K1.out; have m1 := Nat.le_of_lt l1; have k2 := Blk.cell K2.out; have f2 := Blk.free K2.out; have l2 := Blk.lt K2.out; have m2 := Nat.le_of_lt l2; have k3 := Blk.cell K3.out; have f3 := Blk.free K3.out; have l3 := Blk.lt K3.out; have m3 := Nat.le_of_lt l3))
          go_wp2_with (first | (with_reducible refine wpList_load_run (o := ⟨_, .load 35 _, _, _, _, none⟩) (ldSr _ K0.out) rfl _ rfl rfl ?_) | (with_reducible refine wpList_load_run_g (o := ⟨_, .load 35 _, _, _, _, some _⟩) (ldSr _ K0.out) (by with_unfolding_all rfl) _ rfl rfl ?_) | (with_reducible refine wpList_load_run (o := ⟨_, .load 35 _, _, _, _, none⟩) (ldSr _ K2.out) rfl _ rfl rfl ?_) | (with_reducible refine wpList_load_run_g (o := ⟨_, .load 35 _, _, _, _, some _⟩) (ldSr _ K2.out) (by with_unfolding_all rfl) _ rfl rfl ?_) | (with_reducible refine wpList_load_run (o := ⟨_, .load 35 _, _, _, _, none⟩) (ldSr _ K3.out) rfl _ rfl rfl ?_) | (with_reducible refine wpList_load_run_g (o := ⟨_, .load 35 _, _, _, _, some _⟩) (ldSr _ K3.out) (by with_unfolding_all rfl) _ rfl rfl ?_))
          go_meet
          case rel => exact ⟨rfl, K0.out, K1.out, K2.out, K3.out, HB⟩
  obtain ⟨rfl, j0, j1, j2, j3, HBn⟩ := hcut
  replace j0 := Lib.hid j0
  replace j1 := Lib.hid j1
  replace j2 := Lib.hid j2
  replace j3 := Lib.hid j3
  clear k0 f0 l0 m0 k1 f1 l1 m1 k2 f2 l2 m2 k3 f3 l3 m3 K0 K1 K2 K3 HB n1 n2 n3 n4 n5 v1 v2
  have K0 := j0; have K1 := j1; have K2 := j2; have K3 := j3; have HB := HBn
  clear j0 j1 j2 j3 HBn
  (have k0 := Blk.cell K0.out; have f0 := Blk.free K0.out; have l0 := Blk.lt K0.out; have m0 := Nat.le_of_lt l0; have k1 := Blk.cell K1.out; have f1 := Blk.free K1.out; have l1 := Blk.lt K1.out; have m1 := Nat.le_of_lt l1; have k2 := Blk.cell K2.out; have f2 := Blk.free K2.out; have l2 := Blk.lt K2.out; have m2 := Nat.le_of_lt l2; have k3 := Blk.cell K3.out; have f3 := Blk.free K3.out; have l3 := Blk.lt K3.out; have m3 := Nat.le_of_lt l3)
  go_upto_region 8 with fail
  by_cases he : e = 0
  · have e3 : (e != 0) = false := by simpa using he
    have e3b : (e == 0) = true := by simpa using he
    have i6 : (u.slot : Int) ≤ (n : Int) := by have := p4.out he; omega
    clear p4 he
    go_wp2_with fail
    go_ret
    exact ⟨by simp [p5], HB⟩
  · have e3 : (e != 0) = true := by simpa using he
    have e3b : (e == 0) = false := by simpa using he
    clear p4 he
    go_wp2_with fail
    go_ret
    exact ⟨by simp [p5], HB⟩
open Go.ChangeShapes Go.WideShapes Go.ChangeAt Go.Joins

set_option maxRecDepth 100000 in
theorem contract (H : Type) (enc : TypeId × Value → H) (W : World) (base : Nat) (args : Array Value) (ds gs : List (DataW H)) (before : List MemPlace)
    (hval0 : ∀ (j : Nat) t v, Tryz.f10.params[j]? = some t → args[j]? = some v → Value.okWide Tryz.prog W .any base t v)
    (hW : DataW.Whole enc Tryz.prog Tryz.f10.params.toList Rows.lightStepsSpec.vars false W args.toList ds gs before) (hsmall : Rows.uptoSmall H (ds ++ gs) = true)
    (hL : laidMetH Tryz.prog Rows.lightStepsUptoRow.laid W) :
    Calls Tryz.prog 10 args W fun e W' => ∃ v, e = .returned v ∧ Rows.lightStepsSpec.post enc Tryz.prog Tryz.f10 false true false false W args v W' := by
  have hval := hval0
  have hW' := hW
  obtain ⟨p, q, hA0, hV, rfl, hfz, hnd⟩ := hW
  have hA : DataW.TrodAll enc Tryz.prog W 0 (fun _ => true) true Tryz.f10.params.toList args.toList ds p := hA0
  rw [Tryz.params10] at hA hval
  have hAk := hA
  obtain ⟨v0, vs0, d0, ds0, p0, q0, hargs, hds0, hps0, h0, r0⟩ := trodAll_cons hA
  obtain ⟨v1, vs1, d1, ds1, p1, q1, hvs1, hds1, hps1, h1, r1⟩ := trodAll_cons r0
  subst hvs1
  obtain ⟨v2, vs2, d2, ds2, p2, q2, hvs2, hds2, hps2, h2, r2⟩ := trodAll_cons r1
  subst hvs2
  obtain ⟨hv9, hds9, hps9⟩ := trodAll_nil r2
  subst hv9
  subst hds9
  subst hds2
  subst hds1
  subst hds0
  obtain rfl : args = #[v0, v1, v2] := by cases args; simp_all
  obtain ⟨rfl, rfl⟩ := trodVars_none hV
  obtain ⟨s0, rfl, hs0⟩ := openSr (hval 0 35 v0 rfl rfl) h0 (bulk_of hsmall (d := d0) (by simp))
  obtain ⟨s1, rfl, hs1⟩ := openUp (hval 1 33 v1 rfl rfl) h1 (bulk_of hsmall (d := d1) (by simp))
  obtain ⟨a2, rfl, hd2, hp2, wa2⟩ := openU64 (hval 2 22 v2 rfl rfl) h2
  have hK := hasK_of hL
  refine (walk s0 s1 a2 (bounds_u64 wa2).1 (bounds_u64 wa2).2 W hs0 hs1 hK).mono fun e W' ⟨he, hg⟩ => ?_
  subst he
  have hlt : ∀ x ∈ p, x.block < W.heap.size := fun x hx => hW'.lt x (by simp [hx])
  exact ⟨_, rfl, post_below (pa := p) (pv := []) hW' (fun _ _ _ => (trodAll_cons_mk (shut_bool Tryz.underlying4 _) trodAll_mk0)) (fun sp hsp => by have := stays_all laidOut hg (by kernel_rfl) hAk hlt sp (fun x hx => hsp x (by simp [hx])); rw [← Tryz.params10] at this; exact this) (fun _ _ => rfl) rfl hg (ok_one (by kernel_rfl) rfl (okWide_bool_mk Tryz.underlying4 _))⟩
theorem laid_met (os : Os) : laidMet Tryz.prog Rows.lightStepsUptoRow.laid ((laidWorld os).forCall (fun _ _ => 0) ⟨#[], #[srV Sr.zero, upV Up.zero, .int .u64 0], []⟩).memory :=
  laidMet_of_run' 8 (by kernel_rfl) (by kernel_rfl)
theorem reads (os : Os) {H : Type} (enc : TypeId × Value → H) : ∃ places, DataW.whole enc Tryz.prog ((laidWorld os).forCall (fun _ _ => 0) ⟨#[], #[srV Sr.zero, upV Up.zero, .int .u64 0], []⟩).memory Tryz.f10.params.toList Rows.lightStepsSpec.vars false #[srV Sr.zero, upV Up.zero, .int .u64 0].toList 8 = some ([srD0 H, upD0 H, .lit (.int .u64 0)], [], places) :=
  ⟨[], by kernel_rfl⟩
set_option maxRecDepth 100000 in
theorem lifted (os : Os) (started : os.Started) (H : Type) (enc : TypeId × Value → H) (F : Stop.Interp) :
    ReturnsInHanded {} Tryz.checked os 10 .any ((Rows.OpenSpec.upto Rows.lightStepsSpec).preRow enc Tryz.prog Tryz.f10 Rows.lightStepsUptoRow.domain false Rows.lightStepsUptoRow.laid) (((Rows.OpenSpec.upto Rows.lightStepsSpec).at F).post enc Tryz.prog Tryz.f10 false true false false) := by
  obtain ⟨places, hx⟩ := reads os enc
  refine returnsInHanded_of_row (C := Tryz.checked) (s := Rows.OpenSpec.upto Rows.lightStepsSpec) own started (by kernel_rfl) Tryz.func10
    (witness_row_at (enc := enc) (C := Tryz.checked) false (laidWorld os) #[srV Sr.zero, upV Up.zero, .int .u64 0] rfl (by kernel_rfl) (by kernel_rfl) (by kernel_rfl)
      (OpenSpec.preRow_of_cond 8 hx (by kernel_rfl) (fun k hk => by cases hk; kernel_rfl) (by kernel_rfl) (laid_met os))) ?_
  intro W base args ds gs before hval hW _ hcond hreach hL _ _
  exact contract H enc W base args ds gs before hval hW (hcond _ rfl) hL
theorem and_mk {a b : Bool} (h : a = true) (k : b = true) : (a && b) = true := by rw [h, k]; rfl
set_option maxHeartbeats 40000000 in
theorem facts : joinedFacts Tryz.pinned.checked.prog 10 Tryz.f10 (Rows.OpenSpec.upto Rows.lightStepsSpec).bare Rows.lightStepsUptoRow = true := by
  unfold joinedFacts
  repeat' (with_reducible refine and_mk ?_ ?_)
  all_goals (as_aux_lemma => kernel_rfl)
theorem said : Rows.LightStepsUptoSaid :=
  OpenClaim.holds_of_cond 10 Tryz.f10 rfl rfl rfl rfl rfl rfl rfl ⟨rfl, rfl, rfl, rfl, rfl⟩ rfl rfl rfl rfl rfl (by kernel_rfl) Tryz.func10 facts
    (of_decide_eq_true (by kernel_rfl)) (by unfold Func.isWrapper; first | (rw [if_pos (by decide +kernel)]; kernel_rfl) | (rw [if_neg (by decide +kernel)]; exact ⟨rfl, rfl⟩))
    (fun os started H enc _ F => by rw [OpenClaim.pre_eq_preRow]; exact lifted os started H enc F)
theorem plain (f : FuncId) (fn : Func) (hf : Tryz.pinned.checked.prog.funcNamed "pharos/pharoslaw14.LightSteps" = some f) (hfn : Tryz.pinned.checked.prog.funcs[f]? = some fn) :
    false = Tryz.pinned.checked.prog.looks [] ∧ ∀ (j : Nat) t, fn.params[j]? = some t → Tryz.pinned.checked.prog.wantsStandIn t = false := by
  obtain rfl : f = 10 := Option.some.inj ((show Tryz.prog.funcNamed "pharos/pharoslaw14.LightSteps" = some 10 by kernel_rfl).symm.trans hf) |>.symm
  obtain rfl : fn = Tryz.f10 := (Option.some.inj (Tryz.func10.symm.trans hfn)).symm
  refine ⟨by kernel_rfl, fun j t ht => ?_⟩
  rw [Tryz.params10] at ht
  have hm : t ∈ [35, 33, 22] := by simpa using Array.mem_of_getElem? ht
  have hall : ∀ t ∈ [35, 33, 22], Tryz.prog.wantsStandIn t = false := by
    intro t h
    simp only [List.mem_cons, List.not_mem_nil, or_false] at h
    rcases h with rfl | rfl | rfl <;> kernel_rfl
  exact hall t hm

/-- THE STATEMENT'S CARD -/
theorem proved : Rows.LightStepsUptoCardSaid :=
  Claim7.holds_tied_plain_at .later [] _ _ _ _ said (fun _ h => by cases h) (by kernel_rfl) (fun _ h => by cases h) lightStepsUpto_row_tie rfl ⟨rfl, rfl⟩ (by kernel_rfl) rfl plain (by kernel_rfl)

end lawLightSteps
end Go.Proofs.YtegaaccioppfjaaGreatDoor
