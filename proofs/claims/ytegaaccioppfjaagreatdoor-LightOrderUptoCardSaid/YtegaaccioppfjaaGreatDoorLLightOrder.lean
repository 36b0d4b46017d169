/- No update is better than itself, of two not each than the other one, and what is better than a better one is better: by the program, any three updates, their bulk bounded. -/
import Derived.Test.YtegaaccioppfjaaGreatDoorFr20
import Derived.Test.YtegaaccioppfjaaGreatDoorFr23
import Derived.Test.YtegaaccioppfjaaGreatDoorFr10
import Derived.Test.YtegaaccioppfjaaGreatDoorFr12
import Derived.WalkKit
import Derived.ProofKit
import Derived.OpenShut
set_option linter.unusedSimpArgs false
set_option linter.unusedVariables false
namespace Go.Proofs.YtegaaccioppfjaaGreatDoor
open BigFrame Go.RowKit Go.Phx Go.Shelf
attribute [local go_sem] Oper.semAt_some
namespace lawLightOrder

theorem of_up {w : World} {u : Up} (h : UpIn w u) : u.seen.b.slot < 18446744073709551616 ∧ u.slot < 18446744073709551616 ∧ u.fin.b.slot < 18446744073709551616 := ⟨h.1.1.1, h.2.2.2.2.2.2.2, h.2.2.2.1.1.1⟩
set_option maxRecDepth 100000 in
set_option maxHeartbeats 4000000 in
theorem walk (a b c : Up) (w : World) (ha : UpIn w a) (hb : UpIn w b) (hc : UpIn w c) (hk : HasK w) :
    Calls Tryz.prog 8 #[upV a, upV b, upV c] w (Ret w (.bool true)) := by
  obtain ⟨a1, a2, a3⟩ := of_up ha
  obtain ⟨b1, b2, b3⟩ := of_up hb
  obtain ⟨c1, c2, c3⟩ := of_up hc
  have n1 := fun W (hB : Below w.heap.size w W) => shown14_calls W (hk.on hB)
  have n2 := fun W => better_calls a b a1 a2 a3 b1 b2 b3 W
  have n3 := fun W => better_calls b c b1 b2 b3 c1 c2 c3 W
  have n4 := fun W => better_calls a a a1 a2 a3 a1 a2 a3 W
  have n5 := fun W => better_calls b a b1 b2 b3 a1 a2 a3 W
  have n6 := fun W => better_calls a c a1 a2 a3 c1 c2 c3 W
  have hv := better_order a b c
  generalize betterP a b = x at *
  generalize betterP b c = y at *
  generalize betterP a a = r1 at *
  generalize betterP b a = r2 at *
  generalize betterP a c = r3 at *
  replace n1 := Lib.hid n1
  replace n2 := Lib.hid n2
  replace n3 := Lib.hid n3
  replace n4 := Lib.hid n4
  replace n5 := Lib.hid n5
  replace n6 := Lib.hid n6
  clear ha hb hc hk a1 a2 a3 b1 b2 b3 c1 c2 c3
  have K0 := (Blk.new0 w 33 (upA a)).alloc (.cells (upA b) 33) |>.alloc (.cells (upA c) 33)
  have K1 := (Blk.new1 w (.cells (upA a) 33) 33 (upA b)).alloc (.cells (upA c) 33)
  have K2 := Blk.new2 w (.cells (upA a) 33) (.cells (upA b) 33) 33 (upA c)
  have HB : Below w.heap.size w (((w.alloc (.cells (upA a) 33)).alloc (.cells (upA b) 33)).alloc (.cells (upA c) 33)) := (by repeat (first | assumption | exact Below.refl _ _ | refine Below.setCell ?_ (by first | exact Nat.le_refl _ | (simp; done) | omega | (simp; omega)) _ | refine Below.alloc ?_ (by first | exact Nat.le_refl _ | (simp; done) | omega | (simp; omega)) _ | refine below_drewN ?_ _ | refine Below.drew ?_ | refine Below.on (by assumption) ?_ | refine Below.via (by assumption) (by first | exact Nat.le_refl _ | (simp; done) | omega | (simp; omega)) ?_))
  go_enter Tryz.func8, Tryz.ntmps8
  go_upto_region 1 with fail
  obtain ⟨W, hW⟩ : ∃ W, (((w.alloc (.cells (upA a) 33)).alloc (.cells (upA b) 33)).alloc (.cells (upA c) 33)) = W := ⟨_, rfl⟩
  rw [hW] at K0 K1 K2 HB ⊢
  clear hW
  obtain ⟨g, hg⟩ : ∃ g, w.heap.size = g := ⟨_, rfl⟩
  rw [hg] at K0 K1 K2 ⊢
  clear hg
  replace K0 := Lib.hid K0
  replace K1 := Lib.hid K1
  replace K2 := Lib.hid K2
  (have k0 := Blk.cell K0.out; have f0 := Blk.free K0.out; have l0 := Blk.lt K0.out; have m0 := Nat.le_of_lt l0; have k1 := Blk.cell K1.out; have f1 := Blk.free K1.out; have l1 := Blk.lt K1.out; have m1 := Nat.le_of_lt l1; have k2 := Blk.cell K2.out; have f2 := Blk.free K2.out; have l2 := Blk.lt K2.out; have m2 := Nat.le_of_lt l2)
  go_wp2_with fail
  (refine (n1.out _ HB).mono ?_; rintro e w1 ⟨rfl, hN⟩; have N0 := Lib.hid (K0.out.below hN); have N1 := Lib.hid (K1.out.below hN); have N2 := Lib.hid (K2.out.below hN); have HBn : Below w.heap.size w w1 := Below.on hN HB; clear hN HB K0 k0 f0 l0 m0 K1 k1 f1 l1 m1 K2 k2 f2 l2 m2; have K0 := N0; clear N0; have K1 := N1; clear N1; have K2 := N2; clear N2; have HB := HBn; clear HBn; (have k0 := Blk.cell K0.out; have f0 := Blk.free K0.out; have l0 := Blk.lt K0.out; have m0 := Nat.le_of_lt l0; have k1 := Blk.cell K1.out; have f1 := Blk.free K1.out; have l1 := Blk.lt K1.out; have m1 := Nat.le_of_lt l1; have k2 := Blk.cell K2.out; have f2 := Blk.free K2.out; have l2 := Blk.lt K2.out; have m2 := Nat.le_of_lt l2))
  go_wp2_with (first | (with_reducible refine wpList_load_run (o := ⟨_, .load 33 _, _, _, _, none⟩) (ldUp _ K0.out) rfl _ rfl rfl ?_) | (with_reducible refine wpList_load_run_g (o := ⟨_, .load 33 _, _, _, _, some _⟩) (ldUp _ K0.out) (by with_unfolding_all rfl) _ rfl rfl ?_) | (with_reducible refine wpList_load_run (o := ⟨_, .load 33 _, _, _, _, none⟩) (ldUp _ K1.out) rfl _ rfl rfl ?_) | (with_reducible refine wpList_load_run_g (o := ⟨_, .load 33 _, _, _, _, some _⟩) (ldUp _ K1.out) (by with_unfolding_all rfl) _ rfl rfl ?_) | (with_reducible refine wpList_load_run (o := ⟨_, .load 33 _, _, _, _, none⟩) (ldUp _ K2.out) rfl _ rfl rfl ?_) | (with_reducible refine wpList_load_run_g (o := ⟨_, .load 33 _, _, _, _, some _⟩) (ldUp _ K2.out) (by with_unfolding_all rfl) _ rfl rfl ?_))
  (refine (n2.out _).mono ?_; rintro e w2 ⟨rfl, hN⟩; have N0 := Lib.hid (K0.out.below hN); have N1 := Lib.hid (K1.out.below hN); have N2 := Lib.hid (K2.out.below hN); have HBn : Below w.heap.size w w2 := Below.on hN HB; clear hN HB K0 k0 f0 l0 m0 K1 k1 f1 l1 m1 K2 k2 f2 l2 m2; have K0 := N0; clear N0; have K1 := N1; clear N1; have K2 := N2; clear N2; have HB := HBn; clear HBn; (have k0 := Blk.cell K0.out; have f0 := Blk.free K0.out; have l0 := Blk.lt K0.out; have m0 := Nat.le_of_lt l0; have k1 := Blk.cell K1.out; have f1 := Blk.free K1.out; have l1 := Blk.lt K1.out; have m1 := Nat.le_of_lt l1; have k2 := Blk.cell K2.out; have f2 := Blk.free K2.out; have l2 := Blk.lt K2.out; have m2 := Nat.le_of_lt l2))
  go_wp2_with (first | (with_reducible refine wpList_load_run (o := ⟨_, .load 33 _, _, _, _, none⟩) (ldUp _ K0.out) rfl _ rfl rfl ?_) | (with_reducible refine wpList_load_run_g (o := ⟨_, .load 33 _, _, _, _, some _⟩) (ldUp _ K0.out) (by with_unfolding_all rfl) _ rfl rfl ?_) | (with_reducible refine wpList_load_run (o := ⟨_, .load 33 _, _, _, _, none⟩) (ldUp _ K1.out) rfl _ rfl rfl ?_) | (with_reducible refine wpList_load_run_g (o := ⟨_, .load 33 _, _, _, _, some _⟩) (ldUp _ K1.out) (by with_unfolding_all rfl) _ rfl rfl ?_) | (with_reducible refine wpList_load_run (o := ⟨_, .load 33 _, _, _, _, none⟩) (ldUp _ K2.out) rfl _ rfl rfl ?_) | (with_reducible refine wpList_load_run_g (o := ⟨_, .load 33 _, _, _, _, some _⟩) (ldUp _ K2.out) (by with_unfolding_all rfl) _ rfl rfl ?_))
  (refine (n3.out _).mono ?_; rintro e w3 ⟨rfl, hN⟩; have N0 := Lib.hid (K0.out.below hN); have N1 := Lib.hid (K1.out.below hN); have N2 := Lib.hid (K2.out.below hN); have HBn : Below w.heap.size w w3 := Below.on hN HB; clear hN HB K0 k0 f0 l0 m0 K1 k1 f1 l1 m1 K2 k2 f2 l2 m2; have K0 := N0; clear N0; have K1 := N1; clear N1; have K2 := N2; clear N2; have HB := HBn; clear HBn; (have k0 := Blk.cell K0.out; have f0 := Blk.free K0.out; have l0 := Blk.lt K0.out; have m0 := Nat.le_of_lt l0; have k1 := Blk.cell K1.out; have f1 := Blk.free K1.out; have l1 := Blk.lt K1.out; have m1 := Nat.le_of_lt l1; have k2 := Blk.cell K2.out; have f2 := Blk.free K2.out; have l2 := Blk.lt K2.out; have m2 := Nat.le_of_lt l2))
  go_wp2_with (first | (with_reducible refine wpList_load_run (o := ⟨_, .load 33 _, _, _, _, none⟩) (ldUp _ K0.out) rfl _ rfl rfl ?_) | (with_reducible refine wpList_load_run_g (o := ⟨_, .load 33 _, _, _, _, some _⟩) (ldUp _ K0.out) (by with_unfolding_all rfl) _ rfl rfl ?_) | (with_reducible refine wpList_load_run (o := ⟨_, .load 33 _, _, _, _, none⟩) (ldUp _ K1.out) rfl _ rfl rfl ?_) | (with_reducible refine wpList_load_run_g (o := ⟨_, .load 33 _, _, _, _, some _⟩) (ldUp _ K1.out) (by with_unfolding_all rfl) _ rfl rfl ?_) | (with_reducible refine wpList_load_run (o := ⟨_, .load 33 _, _, _, _, none⟩) (ldUp _ K2.out) rfl _ rfl rfl ?_) | (with_reducible refine wpList_load_run_g (o := ⟨_, .load 33 _, _, _, _, some _⟩) (ldUp _ K2.out) (by with_unfolding_all rfl) _ rfl rfl ?_))
  (refine (n4.out _).mono ?_; rintro e w4 ⟨rfl, hN⟩; have N0 := Lib.hid (K0.out.below hN); have N1 := Lib.hid (K1.out.below hN); have N2 := Lib.hid (K2.out.below hN); have HBn : Below w.heap.size w w4 := Below.on hN HB; clear hN HB K0 k0 f0 l0 m0 K1 k1 f1 l1 m1 K2 k2 f2 l2 m2; have K0 := N0; clear N0; have K1 := N1; clear N1; have K2 := N2; clear N2; have HB := HBn; clear HBn; (have k0 := Blk.cell K0.out; have f0 := Blk.free K0.out; have l0 := Blk.lt K0.out; have m0 := Nat.le_of_lt l0; have k1 := Blk.cell K1.out; have f1 := Blk.free K1.out; have l1 := Blk.lt K1.out; have m1 := Nat.le_of_lt l1; have k2 := Blk.cell K2.out; have f2 := Blk.free K2.out; have l2 := Blk.lt K2.out; have m2 := Nat.le_of_lt l2))
  cases r1
  · cases x
    · clear hv
      cases y
      all_goals
        go_wp2_with (first | (with_reducible refine wpList_load_run (o := ⟨_, .load 33 _, _, _, _, none⟩) (ldUp _ K0.out) rfl _ rfl rfl ?_) | (with_reducible refine wpList_load_run_g (o := ⟨_, .load 33 _, _, _, _, some _⟩) (ldUp _ K0.out) (by with_unfolding_all rfl) _ rfl rfl ?_) | (with_reducible refine wpList_load_run (o := ⟨_, .load 33 _, _, _, _, none⟩) (ldUp _ K1.out) rfl _ rfl rfl ?_) | (with_reducible refine wpList_load_run_g (o := ⟨_, .load 33 _, _, _, _, some _⟩) (ldUp _ K1.out) (by with_unfolding_all rfl) _ rfl rfl ?_) | (with_reducible refine wpList_load_run (o := ⟨_, .load 33 _, _, _, _, none⟩) (ldUp _ K2.out) rfl _ rfl rfl ?_) | (with_reducible refine wpList_load_run_g (o := ⟨_, .load 33 _, _, _, _, some _⟩) (ldUp _ K2.out) (by with_unfolding_all rfl) _ rfl rfl ?_))
        go_ret
        exact ⟨rfl, HB⟩
    · cases r2
      · cases y
        · clear hv
          go_wp2_with (first | (with_reducible refine wpList_load_run (o := ⟨_, .load 33 _, _, _, _, none⟩) (ldUp _ K0.out) rfl _ rfl rfl ?_) | (with_reducible refine wpList_load_run_g (o := ⟨_, .load 33 _, _, _, _, some _⟩) (ldUp _ K0.out) (by with_unfolding_all rfl) _ rfl rfl ?_) | (with_reducible refine wpList_load_run (o := ⟨_, .load 33 _, _, _, _, none⟩) (ldUp _ K1.out) rfl _ rfl rfl ?_) | (with_reducible refine wpList_load_run_g (o := ⟨_, .load 33 _, _, _, _, some _⟩) (ldUp _ K1.out) (by with_unfolding_all rfl) _ rfl rfl ?_) | (with_reducible refine wpList_load_run (o := ⟨_, .load 33 _, _, _, _, none⟩) (ldUp _ K2.out) rfl _ rfl rfl ?_) | (with_reducible refine wpList_load_run_g (o := ⟨_, .load 33 _, _, _, _, some _⟩) (ldUp _ K2.out) (by with_unfolding_all rfl) _ rfl rfl ?_))
          (refine (n5.out _).mono ?_; rintro e w5 ⟨rfl, hN⟩; have N0 := Lib.hid (K0.out.below hN); have N1 := Lib.hid (K1.out.below hN); have N2 := Lib.hid (K2.out.below hN); have HBn : Below w.heap.size w w5 := Below.on hN HB; clear hN HB K0 k0 f0 l0 m0 K1 k1 f1 l1 m1 K2 k2 f2 l2 m2; have K0 := N0; clear N0; have K1 := N1; clear N1; have K2 := N2; clear N2; have HB := HBn; clear HBn; (have k0 := Blk.cell K0.out; have f0 := Blk.free K0.out; have l0 := Blk.lt K0.out; have m0 := Nat.le_of_lt l0; have k1 := Blk.cell K1.out; have f1 := Blk.free K1.out; have l1 := Blk.lt K1.out; have m1 := Nat.le_of_lt l1; have k2 := Blk.cell K2.out; have f2 := Blk.free K2.out; have l2 := Blk.lt K2.out; have m2 := Nat.le_of_lt l2))
          go_wp2_with (first | (with_reducible refine wpList_load_run (o := ⟨_, .load 33 _, _, _, _, none⟩) (ldUp _ K0.out) rfl _ rfl rfl ?_) | (with_reducible refine wpList_load_run_g (o := ⟨_, .load 33 _, _, _, _, some _⟩) (ldUp _ K0.out) (by with_unfolding_all rfl) _ rfl rfl ?_) | (with_reducible refine wpList_load_run (o := ⟨_, .load 33 _, _, _, _, none⟩) (ldUp _ K1.out) rfl _ rfl rfl ?_) | (with_reducible refine wpList_load_run_g (o := ⟨_, .load 33 _, _, _, _, some _⟩) (ldUp _ K1.out) (by with_unfolding_all rfl) _ rfl rfl ?_) | (with_reducible refine wpList_load_run (o := ⟨_, .load 33 _, _, _, _, none⟩) (ldUp _ K2.out) rfl _ rfl rfl ?_) | (with_reducible refine wpList_load_run_g (o := ⟨_, .load 33 _, _, _, _, some _⟩) (ldUp _ K2.out) (by with_unfolding_all rfl) _ rfl rfl ?_))
          go_ret
          exact ⟨rfl, HB⟩
        · cases r3
          · cases hv
          · clear hv
            go_wp2_with (first | (with_reducible refine wpList_load_run (o := ⟨_, .load 33 _, _, _, _, none⟩) (ldUp _ K0.out) rfl _ rfl rfl ?_) | (with_reducible refine wpList_load_run_g (o := ⟨_, .load 33 _, _, _, _, some _⟩) (ldUp _ K0.out) (by with_unfolding_all rfl) _ rfl rfl ?_) | (with_reducible refine wpList_load_run (o := ⟨_, .load 33 _, _, _, _, none⟩) (ldUp _ K1.out) rfl _ rfl rfl ?_) | (with_reducible refine wpList_load_run_g (o := ⟨_, .load 33 _, _, _, _, some _⟩) (ldUp _ K1.out) (by with_unfolding_all rfl) _ rfl rfl ?_) | (with_reducible refine wpList_load_run (o := ⟨_, .load 33 _, _, _, _, none⟩) (ldUp _ K2.out) rfl _ rfl rfl ?_) | (with_reducible refine wpList_load_run_g (o := ⟨_, .load 33 _, _, _, _, some _⟩) (ldUp _ K2.out) (by with_unfolding_all rfl) _ rfl rfl ?_))
            (refine (n5.out _).mono ?_; rintro e w5 ⟨rfl, hN⟩; have N0 := Lib.hid (K0.out.below hN); have N1 := Lib.hid (K1.out.below hN); have N2 := Lib.hid (K2.out.below hN); have HBn : Below w.heap.size w w5 := Below.on hN HB; clear hN HB K0 k0 f0 l0 m0 K1 k1 f1 l1 m1 K2 k2 f2 l2 m2; have K0 := N0; clear N0; have K1 := N1; clear N1; have K2 := N2; clear N2; have HB := HBn; clear HBn; (have k0 := Blk.cell K0.out; have f0 := Blk.free K0.out; have l0 := Blk.lt K0.out; have m0 := Nat.le_of_lt l0; have k1 := Blk.cell K1.out; have f1 := Blk.free K1.out; have l1 := Blk.lt K1.out; have m1 := Nat.le_of_lt l1; have k2 := Blk.cell K2.out; have f2 := Blk.free K2.out; have l2 := Blk.lt K2.out; have m2 := Nat.le_of_lt l2))
            go_wp2_with (first | (with_reducible refine wpList_load_run (o := ⟨_, .load 33 _, _, _, _, none⟩) (ldUp _ K0.out) rfl _ rfl rfl ?_) | (with_reducible refine wpList_load_run_g (o := ⟨_, .load 33 _, _, _, _, some _⟩) (ldUp _ K0.out) (by with_unfolding_all rfl) _ rfl rfl ?_) | (with_reducible refine wpList_load_run (o := ⟨_, .load 33 _, _, _, _, none⟩) (ldUp _ K1.out) rfl _ rfl rfl ?_) | (with_reducible refine wpList_load_run_g (o := ⟨_, .load 33 _, _, _, _, some _⟩) (ldUp _ K1.out) (by with_unfolding_all rfl) _ rfl rfl ?_) | (with_reducible refine wpList_load_run (o := ⟨_, .load 33 _, _, _, _, none⟩) (ldUp _ K2.out) rfl _ rfl rfl ?_) | (with_reducible refine wpList_load_run_g (o := ⟨_, .load 33 _, _, _, _, some _⟩) (ldUp _ K2.out) (by with_unfolding_all rfl) _ rfl rfl ?_))
            (refine (n6.out _).mono ?_; rintro e w6 ⟨rfl, hN⟩; have N0 := Lib.hid (K0.out.below hN); have N1 := Lib.hid (K1.out.below hN); have N2 := Lib.hid (K2.out.below hN); have HBn : Below w.heap.size w w6 := Below.on hN HB; clear hN HB K0 k0 f0 l0 m0 K1 k1 f1 l1 m1 K2 k2 f2 l2 m2; have K0 := N0; clear N0; have K1 := N1; clear N1; have K2 := N2; clear N2; have HB := HBn; clear HBn; (have k0 := Blk.cell K0.out; have f0 := Blk.free K0.out; have l0 := Blk.lt K0.out; have m0 := Nat.le_of_lt l0; have k1 := Blk.cell K1.out; have f1 := Blk.free K1.out; have l1 := Blk.lt K1.out; have m1 := Nat.le_of_lt l1; have k2 := Blk.cell K2.out; have f2 := Blk.free K2.out; have l2 := Blk.lt K2.out; have m2 := Nat.le_of_lt l2))
            go_wp2_with (first | (with_reducible refine wpList_load_run (o := ⟨_, .load 33 _, _, _, _, none⟩) (ldUp _ K0.out) rfl _ rfl rfl ?_) | (with_reducible refine wpList_load_run_g (o := ⟨_, .load 33 _, _, _, _, some _⟩) (ldUp _ K0.out) (by with_unfolding_all rfl) _ rfl rfl ?_) | (with_reducible refine wpList_load_run (o := ⟨_, .load 33 _, _, _, _, none⟩) (ldUp _ K1.out) rfl _ rfl rfl ?_) | (with_reducible refine wpList_load_run_g (o := ⟨_, .load 33 _, _, _, _, some _⟩) (ldUp _ K1.out) (by with_unfolding_all rfl) _ rfl rfl ?_) | (with_reducible refine wpList_load_run (o := ⟨_, .load 33 _, _, _, _, none⟩) (ldUp _ K2.out) rfl _ rfl rfl ?_) | (with_reducible refine wpList_load_run_g (o := ⟨_, .load 33 _, _, _, _, some _⟩) (ldUp _ K2.out) (by with_unfolding_all rfl) _ rfl rfl ?_))
            go_ret
            exact ⟨rfl, HB⟩
      · cases y <;> cases r3 <;> cases hv
  · cases x <;> cases y <;> cases r2 <;> cases r3 <;> cases hv
open Go.ChangeShapes Go.WideShapes Go.ChangeAt Go.Joins

set_option maxRecDepth 100000 in
theorem contract (H : Type) (enc : TypeId × Value → H) (W : World) (base : Nat) (args : Array Value) (ds gs : List (DataW H)) (before : List MemPlace)
    (hval0 : ∀ (j : Nat) t v, Tryz.f8.params[j]? = some t → args[j]? = some v → Value.okWide Tryz.prog W .any base t v)
    (hW : DataW.Whole enc Tryz.prog Tryz.f8.params.toList Rows.lightOrderSpec.vars false W args.toList ds gs before) (hsmall : Rows.uptoSmall H (ds ++ gs) = true)
    (hL : laidMetH Tryz.prog Rows.lightOrderUptoRow.laid W) :
    Calls Tryz.prog 8 args W fun e W' => ∃ v, e = .returned v ∧ Rows.lightOrderSpec.post enc Tryz.prog Tryz.f8 false true false false W args v W' := by
  have hval := hval0
  have hW' := hW
  obtain ⟨p, q, hA0, hV, rfl, hfz, hnd⟩ := hW
  have hA : DataW.TrodAll enc Tryz.prog W 0 (fun _ => true) true Tryz.f8.params.toList args.toList ds p := hA0
  rw [Tryz.params8] at hA hval
  have hAk := hA
  obtain ⟨v0, vs0, d0, ds0, p0, q0, hargs, hds0, hps0, h0, r0⟩ := trodAll_cons hA
  obtain ⟨v1, vs1, d1, ds1, p1, q1, hvs1, hds1, hps1, h1, r1⟩ := trodAll_cons r0
  subst hvs1
  obtain ⟨v2, vs2, d2, ds2, p2, q2, hvs2, hds2, hps2, h2, r2⟩ := trodAll_cons r1
  subst hvs2
  obtain ⟨hv9, hds9, hps9⟩ := trodAll_nil r2
  subst hv9
  subst hds9
  subst hds2
  subst hds1
  subst hds0
  obtain rfl : args = #[v0, v1, v2] := by cases args; simp_all
  obtain ⟨rfl, rfl⟩ := trodVars_none hV
  obtain ⟨s0, rfl, hs0⟩ := openUp (hval 0 33 v0 rfl rfl) h0 (bulk_of hsmall (d := d0) (by simp))
  obtain ⟨s1, rfl, hs1⟩ := openUp (hval 1 33 v1 rfl rfl) h1 (bulk_of hsmall (d := d1) (by simp))
  obtain ⟨s2, rfl, hs2⟩ := openUp (hval 2 33 v2 rfl rfl) h2 (bulk_of hsmall (d := d2) (by simp))
  have hK := hasK_of hL
  refine (walk s0 s1 s2 W hs0 hs1 hs2 hK).mono fun e W' ⟨he, hg⟩ => ?_
  subst he
  have hlt : ∀ x ∈ p, x.block < W.heap.size := fun x hx => hW'.lt x (by simp [hx])
  exact ⟨_, rfl, post_below (pa := p) (pv := []) hW' (fun _ _ _ => (trodAll_cons_mk (shut_bool Tryz.underlying4 _) trodAll_mk0)) (fun sp hsp => by have := stays_all laidOut hg (by kernel_rfl) hAk hlt sp (fun x hx => hsp x (by simp [hx])); rw [← Tryz.params8] at this; exact this) (fun _ _ => rfl) rfl hg (ok_one (by kernel_rfl) rfl (okWide_bool_mk Tryz.underlying4 _))⟩
theorem laid_met (os : Os) : laidMet Tryz.prog Rows.lightOrderUptoRow.laid ((laidWorld os).forCall (fun _ _ => 0) ⟨#[], #[upV Up.zero, upV Up.zero, upV Up.zero], []⟩).memory :=
  laidMet_of_run' 8 (by kernel_rfl) (by kernel_rfl)
theorem reads (os : Os) {H : Type} (enc : TypeId × Value → H) : ∃ places, DataW.whole enc Tryz.prog ((laidWorld os).forCall (fun _ _ => 0) ⟨#[], #[upV Up.zero, upV Up.zero, upV Up.zero], []⟩).memory Tryz.f8.params.toList Rows.lightOrderSpec.vars false #[upV Up.zero, upV Up.zero, upV Up.zero].toList 8 = some ([upD0 H, upD0 H, upD0 H], [], places) :=
  ⟨[], by kernel_rfl⟩
set_option maxRecDepth 100000 in
theorem lifted (os : Os) (started : os.Started) (H : Type) (enc : TypeId × Value → H) (F : Stop.Interp) :
    ReturnsInHanded {} Tryz.checked os 8 .any ((Rows.OpenSpec.upto Rows.lightOrderSpec).preRow enc Tryz.prog Tryz.f8 Rows.lightOrderUptoRow.domain false Rows.lightOrderUptoRow.laid) (((Rows.OpenSpec.upto Rows.lightOrderSpec).at F).post enc Tryz.prog Tryz.f8 false true false false) := by
  obtain ⟨places, hx⟩ := reads os enc
  refine returnsInHanded_of_row (C := Tryz.checked) (s := Rows.OpenSpec.upto Rows.lightOrderSpec) own started (by kernel_rfl) Tryz.func8
    (witness_row_at (enc := enc) (C := Tryz.checked) false (laidWorld os) #[upV Up.zero, upV Up.zero, upV Up.zero] rfl (by kernel_rfl) (by kernel_rfl) (by kernel_rfl)
      (OpenSpec.preRow_of_cond 8 hx (by kernel_rfl) (fun k hk => by cases hk; kernel_rfl) (by kernel_rfl) (laid_met os))) ?_
  intro W base args ds gs before hval hW _ hcond hreach hL _ _
  exact contract H enc W base args ds gs before hval hW (hcond _ rfl) hL
theorem and_mk {a b : Bool} (h : a = true) (k : b = true) : (a && b) = true := by rw [h, k]; rfl
set_option maxHeartbeats 40000000 in
theorem facts : joinedFacts Tryz.pinned.checked.prog 8 Tryz.f8 (Rows.OpenSpec.upto Rows.lightOrderSpec).bare Rows.lightOrderUptoRow = true := by
  unfold joinedFacts
  repeat' (with_reducible refine and_mk ?_ ?_)
  all_goals (as_aux_lemma => kernel_rfl)
theorem said : Rows.LightOrderUptoSaid :=
  OpenClaim.holds_of_cond 8 Tryz.f8 rfl rfl rfl rfl rfl rfl rfl ⟨rfl, rfl, rfl, rfl, rfl⟩ rfl rfl rfl rfl rfl (by kernel_rfl) Tryz.func8 facts
    (of_decide_eq_true (by kernel_rfl)) (by unfold Func.isWrapper; first | (rw [if_pos (by decide +kernel)]; kernel_rfl) | (rw [if_neg (by decide +kernel)]; exact ⟨rfl, rfl⟩))
    (fun os started H enc _ F => by rw [OpenClaim.pre_eq_preRow]; exact lifted os started H enc F)
theorem plain (f : FuncId) (fn : Func) (hf : Tryz.pinned.checked.prog.funcNamed "pharos/pharoslaw14.LightOrder" = some f) (hfn : Tryz.pinned.checked.prog.funcs[f]? = some fn) :
    false = Tryz.pinned.checked.prog.looks [] ∧ ∀ (j : Nat) t, fn.params[j]? = some t → Tryz.pinned.checked.prog.wantsStandIn t = false := by
  obtain rfl : f = 8 := Option.some.inj ((show Tryz.prog.funcNamed "pharos/pharoslaw14.LightOrder" = some 8 by kernel_rfl).symm.trans hf) |>.symm
  obtain rfl : fn = Tryz.f8 := (Option.some.inj (Tryz.func8.symm.trans hfn)).symm
  refine ⟨by kernel_rfl, fun j t ht => ?_⟩
  rw [Tryz.params8] at ht
  have hm : t ∈ [33, 33, 33] := by simpa using Array.mem_of_getElem? ht
  have hall : ∀ t ∈ [33, 33, 33], Tryz.prog.wantsStandIn t = false := by
    intro t h
    simp only [List.mem_cons, List.not_mem_nil, or_false] at h
    rcases h with rfl | rfl | rfl <;> kernel_rfl
  exact hall t hm

/-- THE STATEMENT'S CARD -/
theorem proved : Rows.LightOrderUptoCardSaid :=
  Claim7.holds_tied_plain_at .later [] _ _ _ _ said (fun _ h => by cases h) (by kernel_rfl) (fun _ h => by cases h) lightOrderUpto_row_tie rfl ⟨rfl, rfl⟩ (by kernel_rfl) rfl plain (by kernel_rfl)

end lawLightOrder
end Go.Proofs.YtegaaccioppfjaaGreatDoor
