/- The committee of secrets, and a Light, by the program and by the reference: any secrets (the first twenty), slot, roots, state, their bulk bounded. -/
import Derived.Test.YtegaaccioppfjaaGreatDoorFm25
import Derived.Test.YtegaaccioppfjaaGreatDoorFm27
import Derived.Test.YtegaaccioppfjaaGreatDoorFm11
import Derived.Test.YtegaaccioppfjaaGreatDoorFm16
import Derived.WalkKit
import Derived.ProofKit
import Derived.OpenShut
set_option linter.unusedSimpArgs false
set_option linter.unusedVariables false
namespace Go.Proofs.YtegaaccioppfjaaGreatDoor
open BigFrame Go.RowKit Go.Phx Go.Shelf
attribute [local go_sem] Oper.semAt_some
namespace lawMintCommittees

set_option maxRecDepth 100000 in
set_option maxHeartbeats 4000000 in
theorem walk (A : Option Addr) (c : Nat) (l : List Nat) (sl : Int) (h0 : 0 ≤ sl) (h1 : sl ≤ 18446744073709551615) (a r st : Bytes) (w : World) (hl : NumsAll w A c l) (hk : HasK w) :
    Calls Tryz.prog 14 #[.slice A l.length c, .int .u64 sl, .string (bs a), .string (bs r), .string (bs st)] w (Ret w (.bool true)) := by
  obtain ⟨slot, rfl⟩ : ∃ n : Nat, sl = n := ⟨sl.toNat, (Int.toNat_of_nonneg h0).symm⟩
  have hn : slot < 18446744073709551616 := by omega
  obtain ⟨L, hL⟩ : ∃ L, l.take 20 = L := ⟨_, rfl⟩
  have hLl : L.length = min l.length 20 := by rw [← hL, List.length_take]; omega
  have hi := hl.cut
  rw [hL] at hi
  have e1 : min (l.length : Int) 20 = (L.length : Int) := by omega
  have hyn : L.length ≤ l.length := by omega
  have hcc : l.length ≤ c := hl.2.1
  have hyc : L.length ≤ c := by omega
  have n1 := Lib.hid (fun W (hB : Below w.heap.size w W) => shown15_calls W (hk.on hB))
  have n2 := Lib.hid (fun W (hB : Below w.heap.size w W) => mcomm_calls A c L W (hi.below hB))
  have n3 := Lib.hid (fun W (hB : Below w.heap.size w W) => rmcomm_calls A c L W (hi.below hB))
  have n4 := Lib.hid (fun W (hB : Below w.heap.size w W) => mlight_calls slot a r st hn W (hk.on hB))
  have n5 := Lib.hid (fun W => rmlight_calls slot a r st hn W)
  have n6 := Lib.hid (fun x y W (hx : CmIn W x) (hy : CmIn W y) => rsameCm_calls x y W hx hy)
  have n7 := Lib.hid (fun x y W (hx : LtIn W x) (hy : LtIn W y) => rsameLt_calls x y W hx hy)
  obtain ⟨ce, hce⟩ : ∃ ce, commE L = ce := ⟨_, rfl⟩
  rw [hce] at n2 n3
  obtain ⟨le, hle⟩ : ∃ le, lightE a r st = le := ⟨_, rfl⟩
  rw [hle] at n4 n5
  clear hce hle hk hi hl hL hLl h0 h1 hn
  have HB := Below.refl w.heap.size w
  go_enter Tryz.func14, Tryz.ntmps14
  go_wp2_with fail
  (refine (n1.out _ HB).mono ?_; rintro e w1 ⟨rfl, hN⟩; have HBn : Below w.heap.size w w1 := Below.on hN HB; clear hN HB ; have HB := HBn; clear HBn)
  clear n1
  go_wp2_with fail
  (refine (n2.out _ HB).mono ?_; rintro e w2 ⟨cm, rfl, hcm, hcn, hN⟩; have HBn : Below w.heap.size w w2 := Below.on hN HB; clear hN HB ; have HB := HBn; clear HBn)
  have C1 := Lib.hid hcm.1
  replace hcm := Lib.hid hcm
  clear hcn n2
  (go_wp2_with (first | (with_reducible refine wpList_store_halt (o := ⟨_, .store 31 _ _, _, _, _, none⟩) (stCm (Cm.zero) (Blk.new0 w2 31 (cmA (Cm.zero))) (cm)) rfl _ _ rfl rfl rfl ?_)); generalize hWN : setRow _ _ _ _ = WN; have N0 := (show Blk WN (World.heap w2).size 31 (cmA (cm)) by rw [← hWN]; exact Blk.row (by simp)); have HBn : Below w.heap.size w WN := (by rw [← hWN]; exact Below.row (HB.alloc HB.size _) HB.size (by have := HB.size; simp; omega)); have HBx : Below (World.heap w2).size w2 WN := (by rw [← hWN]; exact Below.row ((Below.refl _ _).alloc (Nat.le_refl _) _) (Nat.le_refl _) (by simp)); have NC1 := Lib.hid (C1.out.below HBx); obtain ⟨g0, hgj⟩ : ∃ g, (World.heap w2).size = g := ⟨_, rfl⟩; have hgl0 : w.heap.size ≤ g0 := (by rw [← hgj]; exact HB.size); rw [hgj] at N0 ⊢; replace N0 := Lib.hid N0; clear hWN hgj HB HBx  C1; have K0 := N0; clear N0; have C1 := NC1; clear NC1; have HB := HBn; clear HBn; (have k0 := Blk.cell K0.out; have f0 := Blk.free K0.out; have l0 := Blk.lt K0.out; have m0 := Nat.le_of_lt l0); unfold Halted)
  obtain ⟨w3, rfl⟩ : ∃ w', w' = WN := ⟨_, rfl⟩
  go_wp2_with fail
  (refine (n3.out _ HB).mono ?_; rintro e w4 ⟨cm2, rfl, hcm2, hcn, hN⟩; have N0 := Lib.hid (K0.out.below hN); have NC1 := Lib.hid (C1.out.below hN); have HBn : Below w.heap.size w w4 := Below.on hN HB; clear hN HB K0 k0 f0 l0 m0 C1; have K0 := N0; clear N0; have C1 := NC1; clear NC1; have HB := HBn; clear HBn; (have k0 := Blk.cell K0.out; have f0 := Blk.free K0.out; have l0 := Blk.lt K0.out; have m0 := Nat.le_of_lt l0))
  have C2 := Lib.hid hcm2.1
  replace hcm2 := Lib.hid hcm2
  clear hcn n3
  (go_wp2_with (first | (with_reducible refine wpList_store_halt (o := ⟨_, .store 31 _ _, _, _, _, none⟩) (stCm (Cm.zero) (Blk.new0 w4 31 (cmA (Cm.zero))) (cm2)) rfl _ _ rfl rfl rfl ?_)); generalize hWN : setRow _ _ _ _ = WN; have N0 := Lib.hid (show Blk WN _ _ _ by rw [← hWN]; exact Blk.rowOver (Nat.ne_of_lt K0.out.lt) (K0.out.alloc _)); have N1 := (show Blk WN (World.heap w4).size 31 (cmA (cm2)) by rw [← hWN]; exact Blk.row (by simp)); have HBn : Below w.heap.size w WN := (by rw [← hWN]; exact Below.row (HB.alloc HB.size _) HB.size (by have := HB.size; simp; omega)); have HBx : Below (World.heap w4).size w4 WN := (by rw [← hWN]; exact Below.row ((Below.refl _ _).alloc (Nat.le_refl _) _) (Nat.le_refl _) (by simp)); have NC1 := Lib.hid (C1.out.below HBx); have NC2 := Lib.hid (C2.out.below HBx); obtain ⟨g1, hgj⟩ : ∃ g, (World.heap w4).size = g := ⟨_, rfl⟩; have hg0_1 : _ < g1 := (by rw [← hgj]; exact l0); have hgl1 : w.heap.size ≤ g1 := (by rw [← hgj]; exact HB.size); rw [hgj] at N1 ⊢; replace N1 := Lib.hid N1; clear hWN hgj HB HBx K0 k0 f0 l0 m0 C1 C2; have K0 := N0; clear N0; have K1 := N1; clear N1; have C1 := NC1; clear NC1; have C2 := NC2; clear NC2; have HB := HBn; clear HBn; (have k0 := Blk.cell K0.out; have f0 := Blk.free K0.out; have l0 := Blk.lt K0.out; have m0 := Nat.le_of_lt l0; have k1 := Blk.cell K1.out; have f1 := Blk.free K1.out; have l1 := Blk.lt K1.out; have m1 := Nat.le_of_lt l1); unfold Halted)
  obtain ⟨w5, rfl⟩ : ∃ w', w' = WN := ⟨_, rfl⟩
  go_wp2_with fail
  (refine (n4.out _ HB).mono ?_; rintro e w6 ⟨lt, rfl, hlt, hln, hN⟩; have N0 := Lib.hid (K0.out.below hN); have N1 := Lib.hid (K1.out.below hN); have NC1 := Lib.hid (C1.out.below hN); have NC2 := Lib.hid (C2.out.below hN); have HBn : Below w.heap.size w w6 := Below.on hN HB; clear hN HB K0 k0 f0 l0 m0 K1 k1 f1 l1 m1 C1 C2; have K0 := N0; clear N0; have K1 := N1; clear N1; have C1 := NC1; clear NC1; have C2 := NC2; clear NC2; have HB := HBn; clear HBn; (have k0 := Blk.cell K0.out; have f0 := Blk.free K0.out; have l0 := Blk.lt K0.out; have m0 := Nat.le_of_lt l0; have k1 := Blk.cell K1.out; have f1 := Blk.free K1.out; have l1 := Blk.lt K1.out; have m1 := Nat.le_of_lt l1))
  have L1 := Lib.hid hlt.1
  replace hlt := Lib.hid hlt
  clear hln n4
  (go_wp2_with (first | (with_reducible refine wpList_store_halt (o := ⟨_, .store 29 _ _, _, _, _, none⟩) (stLt (Lt.zero) (Blk.new0 w6 29 (ltA (Lt.zero))) (lt)) rfl _ _ rfl rfl rfl ?_)); generalize hWN : setRow _ _ _ _ = WN; have N0 := Lib.hid (show Blk WN _ _ _ by rw [← hWN]; exact Blk.rowOver (Nat.ne_of_lt K0.out.lt) (K0.out.alloc _)); have N1 := Lib.hid (show Blk WN _ _ _ by rw [← hWN]; exact Blk.rowOver (Nat.ne_of_lt K1.out.lt) (K1.out.alloc _)); have N2 := (show Blk WN (World.heap w6).size 29 (ltA (lt)) by rw [← hWN]; exact Blk.row (by simp)); have HBn : Below w.heap.size w WN := (by rw [← hWN]; exact Below.row (HB.alloc HB.size _) HB.size (by have := HB.size; simp; omega)); have HBx : Below (World.heap w6).size w6 WN := (by rw [← hWN]; exact Below.row ((Below.refl _ _).alloc (Nat.le_refl _) _) (Nat.le_refl _) (by simp)); have NC1 := Lib.hid (C1.out.below HBx); have NC2 := Lib.hid (C2.out.below HBx); have NL1 := Lib.hid (L1.out.below HBx); obtain ⟨g2, hgj⟩ : ∃ g, (World.heap w6).size = g := ⟨_, rfl⟩; have hg0_2 : _ < g2 := (by rw [← hgj]; exact l0); have hg1_2 : _ < g2 := (by rw [← hgj]; exact l1); have hgl2 : w.heap.size ≤ g2 := (by rw [← hgj]; exact HB.size); rw [hgj] at N2 ⊢; replace N2 := Lib.hid N2; clear hWN hgj HB HBx K0 k0 f0 l0 m0 K1 k1 f1 l1 m1 C1 C2 L1; have K0 := N0; clear N0; have K1 := N1; clear N1; have K2 := N2; clear N2; have C1 := NC1; clear NC1; have C2 := NC2; clear NC2; have L1 := NL1; clear NL1; have HB := HBn; clear HBn; (have k0 := Blk.cell K0.out; have f0 := Blk.free K0.out; have l0 := Blk.lt K0.out; have m0 := Nat.le_of_lt l0; have k1 := Blk.cell K1.out; have f1 := Blk.free K1.out; have l1 := Blk.lt K1.out; have m1 := Nat.le_of_lt l1; have k2 := Blk.cell K2.out; have f2 := Blk.free K2.out; have l2 := Blk.lt K2.out; have m2 := Nat.le_of_lt l2); unfold Halted)
  obtain ⟨w7, rfl⟩ : ∃ w', w' = WN := ⟨_, rfl⟩
  go_wp2_with fail
  (refine (n5.out _).mono ?_; rintro e w8 ⟨lt2, rfl, hlt2, hln, hN⟩; have N0 := Lib.hid (K0.out.below hN); have N1 := Lib.hid (K1.out.below hN); have N2 := Lib.hid (K2.out.below hN); have NC1 := Lib.hid (C1.out.below hN); have NC2 := Lib.hid (C2.out.below hN); have NL1 := Lib.hid (L1.out.below hN); have HBn : Below w.heap.size w w8 := Below.on hN HB; clear hN HB K0 k0 f0 l0 m0 K1 k1 f1 l1 m1 K2 k2 f2 l2 m2 C1 C2 L1; have K0 := N0; clear N0; have K1 := N1; clear N1; have K2 := N2; clear N2; have C1 := NC1; clear NC1; have C2 := NC2; clear NC2; have L1 := NL1; clear NL1; have HB := HBn; clear HBn; (have k0 := Blk.cell K0.out; have f0 := Blk.free K0.out; have l0 := Blk.lt K0.out; have m0 := Nat.le_of_lt l0; have k1 := Blk.cell K1.out; have f1 := Blk.free K1.out; have l1 := Blk.lt K1.out; have m1 := Nat.le_of_lt l1; have k2 := Blk.cell K2.out; have f2 := Blk.free K2.out; have l2 := Blk.lt K2.out; have m2 := Nat.le_of_lt l2))
  have L2 := Lib.hid hlt2.1
  replace hlt2 := Lib.hid hlt2
  clear hln n5
  (go_wp2_with (first | (with_reducible refine wpList_store_halt (o := ⟨_, .store 29 _ _, _, _, _, none⟩) (stLt (Lt.zero) (Blk.new0 w8 29 (ltA (Lt.zero))) (lt2)) rfl _ _ rfl rfl rfl ?_)); generalize hWN : setRow _ _ _ _ = WN; have N0 := Lib.hid (show Blk WN _ _ _ by rw [← hWN]; exact Blk.rowOver (Nat.ne_of_lt K0.out.lt) (K0.out.alloc _)); have N1 := Lib.hid (show Blk WN _ _ _ by rw [← hWN]; exact Blk.rowOver (Nat.ne_of_lt K1.out.lt) (K1.out.alloc _)); have N2 := Lib.hid (show Blk WN _ _ _ by rw [← hWN]; exact Blk.rowOver (Nat.ne_of_lt K2.out.lt) (K2.out.alloc _)); have N3 := (show Blk WN (World.heap w8).size 29 (ltA (lt2)) by rw [← hWN]; exact Blk.row (by simp)); have HBn : Below w.heap.size w WN := (by rw [← hWN]; exact Below.row (HB.alloc HB.size _) HB.size (by have := HB.size; simp; omega)); have HBx : Below (World.heap w8).size w8 WN := (by rw [← hWN]; exact Below.row ((Below.refl _ _).alloc (Nat.le_refl _) _) (Nat.le_refl _) (by simp)); have NC1 := Lib.hid (C1.out.below HBx); have NC2 := Lib.hid (C2.out.below HBx); have NL1 := Lib.hid (L1.out.below HBx); have NL2 := Lib.hid (L2.out.below HBx); obtain ⟨g3, hgj⟩ : ∃ g, (World.heap w8).size = g := ⟨_, rfl⟩; have hg0_3 : _ < g3 := (by rw [← hgj]; exact l0); have hg1_3 : _ < g3 := (by rw [← hgj]; exact l1); have hg2_3 : _ < g3 := (by rw [← hgj]; exact l2); have hgl3 : w.heap.size ≤ g3 := (by rw [← hgj]; exact HB.size); rw [hgj] at N3 ⊢; replace N3 := Lib.hid N3; clear hWN hgj HB HBx K0 k0 f0 l0 m0 K1 k1 f1 l1 m1 K2 k2 f2 l2 m2 C1 C2 L1 L2; have K0 := N0; clear N0; have K1 := N1; clear N1; have K2 := N2; clear N2; have K3 := N3; clear N3; have C1 := NC1; clear NC1; have C2 := NC2; clear NC2; have L1 := NL1; clear NL1; have L2 := NL2; clear NL2; have HB := HBn; clear HBn; (have k0 := Blk.cell K0.out; have f0 := Blk.free K0.out; have l0 := Blk.lt K0.out; have m0 := Nat.le_of_lt l0; have k1 := Blk.cell K1.out; have f1 := Blk.free K1.out; have l1 := Blk.lt K1.out; have m1 := Nat.le_of_lt l1; have k2 := Blk.cell K2.out; have f2 := Blk.free K2.out; have l2 := Blk.lt K2.out; have m2 := Nat.le_of_lt l2; have k3 := Blk.cell K3.out; have f3 := Blk.free K3.out; have l3 := Blk.lt K3.out; have m3 := Nat.le_of_lt l3); unfold Halted)
  obtain ⟨w9, rfl⟩ : ∃ w', w' = WN := ⟨_, rfl⟩
  have n62 := n6.out cm cm2
  rw [sameCm_bare (hcm.out.same hcm2.out)] at n62
  have n72 := n7.out lt lt2
  rw [sameLt_bare (hlt.out.same hlt2.out)] at n72
  replace n62 := Lib.hid n62
  replace n72 := Lib.hid n72
  clear n6 n7 hcm hcm2 hlt hlt2
  go_wp2_with (first | (with_reducible refine wpList_load_run (o := ⟨_, .load 31 _, _, _, _, none⟩) (ldCm _ K0.out) rfl _ rfl rfl ?_) | (with_reducible refine wpList_load_run_g (o := ⟨_, .load 31 _, _, _, _, some _⟩) (ldCm _ K0.out) (by with_unfolding_all rfl) _ rfl rfl ?_) | (with_reducible refine wpList_load_run (o := ⟨_, .load 31 _, _, _, _, none⟩) (ldCm _ K1.out) rfl _ rfl rfl ?_) | (with_reducible refine wpList_load_run_g (o := ⟨_, .load 31 _, _, _, _, some _⟩) (ldCm _ K1.out) (by with_unfolding_all rfl) _ rfl rfl ?_) | (with_reducible refine wpList_load_run (o := ⟨_, .load 29 _, _, _, _, none⟩) (ldLt _ K2.out) rfl _ rfl rfl ?_) | (with_reducible refine wpList_load_run_g (o := ⟨_, .load 29 _, _, _, _, some _⟩) (ldLt _ K2.out) (by with_unfolding_all rfl) _ rfl rfl ?_) | (with_reducible refine wpList_load_run (o := ⟨_, .load 29 _, _, _, _, none⟩) (ldLt _ K3.out) rfl _ rfl rfl ?_) | (with_reducible refine wpList_load_run_g (o := ⟨_, .load 29 _, _, _, _, some _⟩) (ldLt _ K3.out) (by with_unfolding_all rfl) _ rfl rfl ?_))
  (refine (n62.out _ C1.out C2.out).mono ?_; rintro e w10 ⟨rfl, hN⟩; have N0 := Lib.hid (K0.out.below hN); have N1 := Lib.hid (K1.out.below hN); have N2 := Lib.hid (K2.out.below hN); have N3 := Lib.hid (K3.out.below hN); have NL1 := Lib.hid (L1.out.below hN); have NL2 := Lib.hid (L2.out.below hN); have HBn : Below w.heap.size w w10 := Below.on hN HB; clear hN HB K0 k0 f0 l0 m0 K1 k1 f1 l1 m1 K2 k2 f2 l2 m2 K3 k3 f3 l3 m3 L1 L2; have K0 := N0; clear N0; have K1 := N1; clear N1; have K2 := N2; clear N2; have K3 := N3; clear N3; have L1 := NL1; clear NL1; have L2 := NL2; clear NL2; have HB := HBn; clear HBn; (have k0 := Blk.cell K0.out; have f0 := Blk.free K0.out; have l0 := Blk.lt K0.out; have m0 := Nat.le_of_lt l0; have k1 := Blk.cell K1.out; have f1 := Blk.free K1.out; have l1 := Blk.lt K1.out; have m1 := Nat.le_of_lt l1; have k2 := Blk.cell K2.out; have f2 := Blk.free K2.out; have l2 := Blk.lt K2.out; have m2 := Nat.le_of_lt l2; have k3 := Blk.cell K3.out; have f3 := Blk.free K3.out; have l3 := Blk.lt K3.out; have m3 := Nat.le_of_lt l3))
  go_wp2_with (first | (with_reducible refine wpList_load_run (o := ⟨_, .load 31 _, _, _, _, none⟩) (ldCm _ K0.out) rfl _ rfl rfl ?_) | (with_reducible refine wpList_load_run_g (o := ⟨_, .load 31 _, _, _, _, some _⟩) (ldCm _ K0.out) (by with_unfolding_all rfl) _ rfl rfl ?_) | (with_reducible refine wpList_load_run (o := ⟨_, .load 31 _, _, _, _, none⟩) (ldCm _ K1.out) rfl _ rfl rfl ?_) | (with_reducible refine wpList_load_run_g (o := ⟨_, .load 31 _, _, _, _, some _⟩) (ldCm _ K1.out) (by with_unfolding_all rfl) _ rfl rfl ?_) | (with_reducible refine wpList_load_run (o := ⟨_, .load 29 _, _, _, _, none⟩) (ldLt _ K2.out) rfl _ rfl rfl ?_) | (with_reducible refine wpList_load_run_g (o := ⟨_, .load 29 _, _, _, _, some _⟩) (ldLt _ K2.out) (by with_unfolding_all rfl) _ rfl rfl ?_) | (with_reducible refine wpList_load_run (o := ⟨_, .load 29 _, _, _, _, none⟩) (ldLt _ K3.out) rfl _ rfl rfl ?_) | (with_reducible refine wpList_load_run_g (o := ⟨_, .load 29 _, _, _, _, some _⟩) (ldLt _ K3.out) (by with_unfolding_all rfl) _ rfl rfl ?_))
  (refine (n72.out _ L1.out L2.out).mono ?_; rintro e w11 ⟨rfl, hN⟩; have N0 := Lib.hid (K0.out.below hN); have N1 := Lib.hid (K1.out.below hN); have N2 := Lib.hid (K2.out.below hN); have N3 := Lib.hid (K3.out.below hN); have HBn : Below w.heap.size w w11 := Below.on hN HB; clear hN HB K0 k0 f0 l0 m0 K1 k1 f1 l1 m1 K2 k2 f2 l2 m2 K3 k3 f3 l3 m3; have K0 := N0; clear N0; have K1 := N1; clear N1; have K2 := N2; clear N2; have K3 := N3; clear N3; have HB := HBn; clear HBn; (have k0 := Blk.cell K0.out; have f0 := Blk.free K0.out; have l0 := Blk.lt K0.out; have m0 := Nat.le_of_lt l0; have k1 := Blk.cell K1.out; have f1 := Blk.free K1.out; have l1 := Blk.lt K1.out; have m1 := Nat.le_of_lt l1; have k2 := Blk.cell K2.out; have f2 := Blk.free K2.out; have l2 := Blk.lt K2.out; have m2 := Nat.le_of_lt l2; have k3 := Blk.cell K3.out; have f3 := Blk.free K3.out; have l3 := Blk.lt K3.out; have m3 := Nat.le_of_lt l3))
  go_wp2_with fail
  go_ret
  exact ⟨by simp, HB⟩
open Go.ChangeShapes Go.WideShapes Go.ChangeAt Go.Joins

set_option maxRecDepth 100000 in
theorem contract (H : Type) (enc : TypeId × Value → H) (W : World) (base : Nat) (args : Array Value) (ds gs : List (DataW H)) (before : List MemPlace)
    (hval0 : ∀ (j : Nat) t v, Tryz.f14.params[j]? = some t → args[j]? = some v → Value.okWide Tryz.prog W .any base t v)
    (hW : DataW.Whole enc Tryz.prog Tryz.f14.params.toList Rows.mintCommitteesSpec.vars false W args.toList ds gs before) (hsmall : Rows.uptoSmall H (ds ++ gs) = true)
    (hL : laidMetH Tryz.prog Rows.mintCommitteesUptoRow.laid W) :
    Calls Tryz.prog 14 args W fun e W' => ∃ v, e = .returned v ∧ Rows.mintCommitteesSpec.post enc Tryz.prog Tryz.f14 false true false false W args v W' := by
  have hval := hval0
  have hW' := hW
  obtain ⟨p, q, hA0, hV, rfl, hfz, hnd⟩ := hW
  have hA : DataW.TrodAll enc Tryz.prog W 0 (fun _ => true) true Tryz.f14.params.toList args.toList ds p := hA0
  rw [Tryz.params14] at hA hval
  have hAk := hA
  obtain ⟨v0, vs0, d0, ds0, p0, q0, hargs, hds0, hps0, h0, r0⟩ := trodAll_cons hA
  obtain ⟨v1, vs1, d1, ds1, p1, q1, hvs1, hds1, hps1, h1, r1⟩ := trodAll_cons r0
  subst hvs1
  obtain ⟨v2, vs2, d2, ds2, p2, q2, hvs2, hds2, hps2, h2, r2⟩ := trodAll_cons r1
  subst hvs2
  obtain ⟨v3, vs3, d3, ds3, p3, q3, hvs3, hds3, hps3, h3, r3⟩ := trodAll_cons r2
  subst hvs3
  obtain ⟨v4, vs4, d4, ds4, p4, q4, hvs4, hds4, hps4, h4, r4⟩ := trodAll_cons r3
  subst hvs4
  obtain ⟨hv9, hds9, hps9⟩ := trodAll_nil r4
  subst hv9
  subst hds9
  subst hds4
  subst hds3
  subst hds2
  subst hds1
  subst hds0
  obtain rfl : args = #[v0, v1, v2, v3, v4] := by cases args; simp_all
  obtain ⟨rfl, rfl⟩ := trodVars_none hV
  obtain ⟨A0, c0, l0, rfl, hs0⟩ := openNums (hval 0 61 v0 rfl rfl) h0
  obtain ⟨a1, rfl, hd1, hp1, wa1⟩ := openU64 (hval 1 22 v1 rfl rfl) h1
  obtain ⟨s2, rfl, hd2, hp2, ws2⟩ := openString (hval 2 9 v2 rfl rfl) h2
  obtain ⟨s3, rfl, hd3, hp3, ws3⟩ := openString (hval 3 9 v3 rfl rfl) h3
  obtain ⟨s4, rfl, hd4, hp4, ws4⟩ := openString (hval 4 9 v4 rfl rfl) h4
  have hb2 := bulk_string (hd2 ▸ bulk_of hsmall (d := d2) (by simp))
  have hb3 := bulk_string (hd3 ▸ bulk_of hsmall (d := d3) (by simp))
  have hb4 := bulk_string (hd4 ▸ bulk_of hsmall (d := d4) (by simp))
  have hK := hasK_of hL
  refine (walk A0 c0 l0 a1 (bounds_u64 wa1).1 (bounds_u64 wa1).2 s2.data.toList s3.data.toList s4.data.toList W hs0 hK).mono fun e W' ⟨he, hg⟩ => ?_
  subst he
  have hlt : ∀ x ∈ p, x.block < W.heap.size := fun x hx => hW'.lt x (by simp [hx])
  exact ⟨_, rfl, post_below (pa := p) (pv := []) hW' (fun _ _ _ => (trodAll_cons_mk (shut_bool Tryz.underlying4 _) trodAll_mk0)) (fun sp hsp => by have := stays_all laidOut hg (by kernel_rfl) hAk hlt sp (fun x hx => hsp x (by simp [hx])); rw [← Tryz.params14] at this; exact this) (fun _ _ => rfl) rfl hg (ok_one (by kernel_rfl) rfl (okWide_bool_mk Tryz.underlying4 _))⟩
theorem laid_met (os : Os) : laidMet Tryz.prog Rows.mintCommitteesUptoRow.laid ((laidWorld os).forCall (fun _ _ => 0) ⟨#[], #[.slice none 0 0, .int .u64 0, .string ByteArray.empty, .string ByteArray.empty, .string ByteArray.empty], []⟩).memory :=
  laidMet_of_run' 8 (by kernel_rfl) (by kernel_rfl)
theorem reads (os : Os) {H : Type} (enc : TypeId × Value → H) : ∃ places, DataW.whole enc Tryz.prog ((laidWorld os).forCall (fun _ _ => 0) ⟨#[], #[.slice none 0 0, .int .u64 0, .string ByteArray.empty, .string ByteArray.empty, .string ByteArray.empty], []⟩).memory Tryz.f14.params.toList Rows.mintCommitteesSpec.vars false #[.slice none 0 0, .int .u64 0, .string ByteArray.empty, .string ByteArray.empty, .string ByteArray.empty].toList 8 = some ([.nil, .lit (.int .u64 0), .lit (.string []), .lit (.string []), .lit (.string [])], [], places) :=
  ⟨[], by kernel_rfl⟩
set_option maxRecDepth 100000 in
theorem lifted (os : Os) (started : os.Started) (H : Type) (enc : TypeId × Value → H) (F : Stop.Interp) :
    ReturnsInHanded {} Tryz.checked os 14 .any ((Rows.OpenSpec.upto Rows.mintCommitteesSpec).preRow enc Tryz.prog Tryz.f14 Rows.mintCommitteesUptoRow.domain false Rows.mintCommitteesUptoRow.laid) (((Rows.OpenSpec.upto Rows.mintCommitteesSpec).at F).post enc Tryz.prog Tryz.f14 false true false false) := by
  obtain ⟨places, hx⟩ := reads os enc
  refine returnsInHanded_of_row (C := Tryz.checked) (s := Rows.OpenSpec.upto Rows.mintCommitteesSpec) own started (by kernel_rfl) Tryz.func14
    (witness_row_at (enc := enc) (C := Tryz.checked) false (laidWorld os) #[.slice none 0 0, .int .u64 0, .string ByteArray.empty, .string ByteArray.empty, .string ByteArray.empty] rfl (by kernel_rfl) (by kernel_rfl) (by kernel_rfl)
      (OpenSpec.preRow_of_cond 8 hx (by kernel_rfl) (fun k hk => by cases hk; kernel_rfl) (by kernel_rfl) (laid_met os))) ?_
  intro W base args ds gs before hval hW _ hcond hreach hL _ _
  exact contract H enc W base args ds gs before hval hW (hcond _ rfl) hL
theorem and_mk {a b : Bool} (h : a = true) (k : b = true) : (a && b) = true := by rw [h, k]; rfl
set_option maxHeartbeats 40000000 in
theorem facts : joinedFacts Tryz.pinned.checked.prog 14 Tryz.f14 (Rows.OpenSpec.upto Rows.mintCommitteesSpec).bare Rows.mintCommitteesUptoRow = true := by
  unfold joinedFacts
  repeat' (with_reducible refine and_mk ?_ ?_)
  all_goals (as_aux_lemma => kernel_rfl)
theorem said : Rows.MintCommitteesUptoSaid :=
  OpenClaim.holds_of_cond 14 Tryz.f14 rfl rfl rfl rfl rfl rfl rfl ⟨rfl, rfl, rfl, rfl, rfl⟩ rfl rfl rfl rfl rfl (by kernel_rfl) Tryz.func14 facts
    (of_decide_eq_true (by kernel_rfl)) (by unfold Func.isWrapper; first | (rw [if_pos (by decide +kernel)]; kernel_rfl) | (rw [if_neg (by decide +kernel)]; exact ⟨rfl, rfl⟩))
    (fun os started H enc _ F => by rw [OpenClaim.pre_eq_preRow]; exact lifted os started H enc F)
theorem plain (f : FuncId) (fn : Func) (hf : Tryz.pinned.checked.prog.funcNamed "pharos/pharoslaw15.MintCommittees" = some f) (hfn : Tryz.pinned.checked.prog.funcs[f]? = some fn) :
    false = Tryz.pinned.checked.prog.looks [] ∧ ∀ (j : Nat) t, fn.params[j]? = some t → Tryz.pinned.checked.prog.wantsStandIn t = false := by
  obtain rfl : f = 14 := Option.some.inj ((show Tryz.prog.funcNamed "pharos/pharoslaw15.MintCommittees" = some 14 by kernel_rfl).symm.trans hf) |>.symm
  obtain rfl : fn = Tryz.f14 := (Option.some.inj (Tryz.func14.symm.trans hfn)).symm
  refine ⟨by kernel_rfl, fun j t ht => ?_⟩
  rw [Tryz.params14] at ht
  have hm : t ∈ [61, 22, 9, 9, 9] := by simpa using Array.mem_of_getElem? ht
  have hall : ∀ t ∈ [61, 22, 9, 9, 9], Tryz.prog.wantsStandIn t = false := by
    intro t h
    simp only [List.mem_cons, List.not_mem_nil, or_false] at h
    rcases h with rfl | rfl | rfl | rfl | rfl <;> kernel_rfl
  exact hall t hm

/-- THE STATEMENT'S CARD -/
theorem proved : Rows.MintCommitteesUptoCardSaid :=
  Claim7.holds_tied_plain_at .later [] _ _ _ _ said (fun _ h => by cases h) (by kernel_rfl) (fun _ h => by cases h) mintCommitteesUpto_row_tie rfl ⟨rfl, rfl⟩ (by kernel_rfl) rfl plain (by kernel_rfl)

end lawMintCommittees
end Go.Proofs.YtegaaccioppfjaaGreatDoor
