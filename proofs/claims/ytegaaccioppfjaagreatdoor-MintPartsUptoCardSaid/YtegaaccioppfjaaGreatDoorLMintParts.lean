/- A committee's keys are its secrets', and its sum theirs; what an update names stands under its signed header; by the program alone: any plan (the first twenty secrets of each committee), its bulk bounded. -/
import Derived.Test.YtegaaccioppfjaaGreatDoorFm25
import Derived.Test.YtegaaccioppfjaaGreatDoorFm21
import Derived.Test.YtegaaccioppfjaaGreatDoorFm11
import Derived.Test.YtegaaccioppfjaaGreatDoorFm16
import Derived.WalkKit
import Derived.ProofKit
import Derived.OpenShut
set_option linter.unusedSimpArgs false
set_option linter.unusedVariables false
namespace Go.Proofs.YtegaaccioppfjaaGreatDoor
open BigFrame Go.RowKit Go.Phx Go.Shelf
attribute [local go_sem] Oper.semAt_some
namespace lawMintParts

/-- where the statement stands behind its update -/
def PaW (w : World) (g0 g2 : Nat) (p : Pl) (u : Up) (wx : World) : Prop := Blk wx g0 72 (plA p) ∧ Blk wx g2 33 (upA u) ∧ UpIn wx u ∧ Below w.heap.size w wx
set_option maxRecDepth 100000 in
set_option maxHeartbeats 4000000 in
theorem walk (q : Pl) (w : World) (hq : PlAll w q) (hk : HasK w) :
    Calls Tryz.prog 18 #[plV q] w (Ret w (.bool true)) := by
  obtain ⟨p, hp⟩ : ∃ p, q.cut = p := ⟨_, rfl⟩
  have hi := hq.cut
  rw [hp] at hi
  obtain ⟨L1, hL1⟩ : ∃ L, q.now.take 20 = L := ⟨_, rfl⟩
  obtain ⟨L2, hL2⟩ : ∃ L, q.next.take 20 = L := ⟨_, rfl⟩
  have hl1 : L1.length = min q.now.length 20 := by rw [← hL1, List.length_take]; omega
  have hl2 : L2.length = min q.next.length 20 := by rw [← hL2, List.length_take]; omega
  have e1 : min (q.now.length : Int) 20 = (L1.length : Int) := by omega
  have e2 : min (q.next.length : Int) 20 = (L2.length : Int) := by omega
  have hy1 : L1.length ≤ q.now.length := by omega
  have hy2 : L2.length ≤ q.next.length := by omega
  have hc1 : q.now.length ≤ q.nowC := hq.2.2.2.1.2.1
  have hc2 : q.next.length ≤ q.nextC := hq.2.2.2.2.1.2.1
  have hy3 : L1.length ≤ q.nowC := by omega
  have hy4 : L2.length ≤ q.nextC := by omega
  have hp2 : (⟨q.seen, q.slot, q.fin, q.nowA, q.nowC, L1, q.nextA, q.nextC, L2, q.bits, q.acc, q.rcp⟩ : Pl) = p := by rw [← hp, ← hL1, ← hL2]; rfl
  replace hp2 := Lib.hid hp2
  clear hp hL1 hL2 hl1 hl2
  have n1 := Lib.hid (fun W (hB : Below w.heap.size w W) => shown15_calls W (hk.on hB))
  have n2 := Lib.hid (fun W (hB : Below w.heap.size w W) => mcomm_calls p.nowA p.nowC p.now W (hi.2.2.2.1.below hB))
  have n3 := Lib.hid (fun W (hB : Below w.heap.size w W) => mupdate_calls p W (hk.on hB) (hi.below hB))
  have n4 := Lib.hid (fun (n : Nat) (h : n < 18446744073709551616) W => key_calls (n : Int) (Int.natCast_nonneg n) (by omega) W)
  have n6 := Lib.hid (fun A c W (hs : Txts W A (keysS p.now)) => sSum_calls A c (keysS p.now) (by rw [keysS_len]; have := hi.2.2.2.1.2.1; omega) W hs)
  have n7 := Lib.hid (fun u W (hB : Below w.heap.size w W) (hu : UpIn W u) => hroot_calls u.fin.b W (hk.on hB) hu.2.2.2.1.1)
  have n8 := Lib.hid (fun u W (hB : Below w.heap.size w W) (hu : UpIn W u) => croot_calls u.next W (hk.on hB) hu.2.1)
  have n9 := Lib.hid (fun u W (hB : Below w.heap.size w W) (hu : UpIn W u) => lholds_calls u.seen W (hk.on hB) hu.1)
  have r1 := Lib.hid (fun u W (hB : Below w.heap.size w W) (hu : UpIn W u) => check_calls (hdRoot u.fin.b) u.fb.addr u.fb.cap u.fb.l 3 u.seen.b.state (by have := hdRoot_len u.fin.b; omega) (by have := hu.1.1.2.2.2.1; omega) (by have := hu.2.2.2.2.1.2.2.1; omega) (by decide) (fun y hy => by have := hu.2.2.2.2.1.2.2.2 y hy; omega) W (hk.on hB) hu.2.2.2.2.1.1)
  have r2 := Lib.hid (fun u W (hB : Below w.heap.size w W) (hu : UpIn W u) => check_calls (cmRoot u.next) u.nb.addr u.nb.cap u.nb.l 5 u.seen.b.state (by unfold cmRoot; split <;> simp [sha_len]) (by have := hu.1.1.2.2.2.1; omega) (by have := hu.2.2.1.2.2.1; omega) (by decide) (fun y hy => by have := hu.2.2.1.2.2.2 y hy; omega) W (hk.on hB) hu.2.2.1.1)
  have hcE : commE p.now = if goodS p.now then 0 else 2 := rfl
  obtain ⟨ce, hce⟩ : ∃ ce, commE p.now = ce := ⟨_, rfl⟩
  rw [hce] at n2 hcE
  have huE : updE p = if goodU p then 0 else 2 := rfl
  obtain ⟨ue, hue⟩ : ∃ ue, updE p = ue := ⟨_, rfl⟩
  rw [hue] at n3 huE
  replace hcE := Lib.hid hcE
  replace huE := Lib.hid huE
  replace hi := Lib.hid hi
  clear hce hue hk hq
  go_enter Tryz.func18, Tryz.ntmps18
  go_upto_region 1 with fail
  obtain ⟨W, hW⟩ : ∃ W, w.alloc (.cells (plA q) 72) = W := ⟨_, rfl⟩
  have K0 := Lib.hid (show Blk W w.heap.size 72 (plA q) by rw [← hW]; exact Blk.new0 w _ _)
  have HB : Below w.heap.size w W := by rw [← hW]; exact (Below.refl _ _).alloc (Nat.le_refl _) _
  rw [hW]
  clear hW
  obtain ⟨g0, hg⟩ : ∃ g, w.heap.size = g := ⟨_, rfl⟩
  have hgl0 : w.heap.size ≤ g0 := by omega
  rw [hg] at K0 ⊢
  clear hg
  (have k0 := Blk.cell K0.out; have f0 := Blk.free K0.out; have l0 := Blk.lt K0.out; have m0 := Nat.le_of_lt l0)
  go_wp2_with fail
  (refine (n1.out _ HB).mono ?_; rintro e w1 ⟨rfl, hN⟩; have N0 := Lib.hid (K0.out.below hN); have HBn : Below w.heap.size w w1 := Below.on hN HB; clear hN HB K0 k0 f0 l0 m0; have K0 := N0; clear N0; have HB := HBn; clear HBn; (have k0 := Blk.cell K0.out; have f0 := Blk.free K0.out; have l0 := Blk.lt K0.out; have m0 := Nat.le_of_lt l0))
  clear n1
  go_upto_region 3 with fail
  (obtain ⟨WN, hWN⟩ : ∃ W', World.setCell w1 ⟨g0, 3, none⟩ (.slice q.nowA L1.length q.nowC) = W' := ⟨_, rfl⟩; have N0 := Lib.hid (show Blk WN _ _ (plA ⟨q.seen, q.slot, q.fin, q.nowA, q.nowC, L1, q.nextA, q.nextC, q.next, q.bits, q.acc, q.rcp⟩) by rw [← hWN]; exact Blk.to (Blk.set_ K0.out 3 _) rfl); have HBn : Below w.heap.size w WN := (by rw [← hWN]; exact HB.setCell (by simp; omega) _); rw [hWN]; clear hWN HB K0 k0 f0 l0 m0; have K0 := N0; clear N0; have HB := HBn; clear HBn; (have k0 := Blk.cell K0.out; have f0 := Blk.free K0.out; have l0 := Blk.lt K0.out; have m0 := Nat.le_of_lt l0))
  obtain ⟨w2, rfl⟩ : ∃ w', w' = WN := ⟨_, rfl⟩
  go_upto_region 4 with fail
  (obtain ⟨WN, hWN⟩ : ∃ W', World.setCell w2 ⟨g0, 4, none⟩ (.slice q.nextA L2.length q.nextC) = W' := ⟨_, rfl⟩; have N0 := Lib.hid (show Blk WN _ _ (plA ⟨q.seen, q.slot, q.fin, q.nowA, q.nowC, L1, q.nextA, q.nextC, L2, q.bits, q.acc, q.rcp⟩) by rw [← hWN]; exact Blk.to (Blk.set_ K0.out 4 _) rfl); have HBn : Below w.heap.size w WN := (by rw [← hWN]; exact HB.setCell (by simp; omega) _); rw [hWN]; clear hWN HB K0 k0 f0 l0 m0; have K0 := N0; clear N0; have HB := HBn; clear HBn; (have k0 := Blk.cell K0.out; have f0 := Blk.free K0.out; have l0 := Blk.lt K0.out; have m0 := Nat.le_of_lt l0))
  obtain ⟨w3, rfl⟩ : ∃ w', w' = WN := ⟨_, rfl⟩
  have N0 := K0.out
  rw [hp2.out] at N0
  clear K0 k0 f0 l0 m0 hp2 e1 e2 hy1 hy2 hc1 hc2 hy3 hy4
  have K0 := Lib.hid N0
  clear N0
  (have k0 := Blk.cell K0.out; have f0 := Blk.free K0.out; have l0 := Blk.lt K0.out; have m0 := Nat.le_of_lt l0)
  go_wp2_with fail
  (refine (n2.out _ HB).mono ?_; rintro e w4 ⟨cm, rfl, hcm, hcn, hN⟩; have N0 := Lib.hid (K0.out.below hN); have HBn : Below w.heap.size w w4 := Below.on hN HB; clear hN HB K0 k0 f0 l0 m0; have K0 := N0; clear N0; have HB := HBn; clear HBn; (have k0 := Blk.cell K0.out; have f0 := Blk.free K0.out; have l0 := Blk.lt K0.out; have m0 := Nat.le_of_lt l0))
  have C1 := Lib.hid hcm.1
  replace hcm := Lib.hid hcm
  clear hcn n2
  (go_wp2_with (first | (with_reducible refine wpList_store_halt (o := ⟨_, .store 31 _ _, _, _, _, none⟩) (stCm (Cm.zero) (Blk.new0 w4 31 (cmA (Cm.zero))) (cm)) rfl _ _ rfl rfl rfl ?_)); generalize hWN : setRow _ _ _ _ = WN; have N0 := Lib.hid (show Blk WN _ _ _ by rw [← hWN]; exact Blk.rowOver (Nat.ne_of_lt K0.out.lt) (K0.out.alloc _)); have N1 := (show Blk WN (World.heap w4).size 31 (cmA (cm)) by rw [← hWN]; exact Blk.row (by simp)); have HBn : Below w.heap.size w WN := (by rw [← hWN]; exact Below.row (HB.alloc HB.size _) HB.size (by have := HB.size; simp; omega)); have HBx : Below (World.heap w4).size w4 WN := (by rw [← hWN]; exact Below.row ((Below.refl _ _).alloc (Nat.le_refl _) _) (Nat.le_refl _) (by simp)); have NC1 := Lib.hid (C1.out.below HBx); obtain ⟨g1, hgj⟩ : ∃ g, (World.heap w4).size = g := ⟨_, rfl⟩; have hg0_1 : _ < g1 := (by rw [← hgj]; exact l0); have hgl1 : w.heap.size ≤ g1 := (by rw [← hgj]; exact HB.size); rw [hgj] at N1 ⊢; replace N1 := Lib.hid N1; clear hWN hgj HB HBx K0 k0 f0 l0 m0 C1; have K0 := N0; clear N0; have K1 := N1; clear N1; have C1 := NC1; clear NC1; have HB := HBn; clear HBn; (have k0 := Blk.cell K0.out; have f0 := Blk.free K0.out; have l0 := Blk.lt K0.out; have m0 := Nat.le_of_lt l0; have k1 := Blk.cell K1.out; have f1 := Blk.free K1.out; have l1 := Blk.lt K1.out; have m1 := Nat.le_of_lt l1); unfold Halted)
  obtain ⟨w5, rfl⟩ : ∃ w', w' = WN := ⟨_, rfl⟩
  cases hgs : goodS p.now with
  | false =>
    have hce0 : ce = 2 := by rw [hcE.out, hgs]; rfl
    subst hce0
    obtain rfl := hcm.out.2.2 hgs
    clear hcE huE hcm n3 n4 n6 n7 n8 n9 r1 r2 C1 hgs
    go_wp2_with fail
    go_ret
    exact ⟨by simp; rfl, HB⟩
  | true =>
    have hce0 : ce = 0 := by rw [hcE.out, hgs]; rfl
    subst hce0
    obtain ⟨hk1, hk2⟩ := hcm.out.2.1 hgs
    have hgs2 := hgs
    unfold goodS at hgs2
    simp only [Bool.and_eq_true, decide_eq_true_eq] at hgs2
    obtain ⟨hsc, h16⟩ := hgs2
    have hkl : cm.ks.l.length = 16 := by rw [hk1, keysS_len, h16]
    have e3 : (cm.ks.l.length : Int) = 16 := by omega
    have e4 : (p.now.length : Int) = 16 := by omega
    have hsn := (sumB_keys hsc).2
    obtain ⟨bA, oA, hA, -, -⟩ := hi.out.2.2.2.1.1.at 0 (by omega)
    obtain ⟨bC, oC, hC, -, -⟩ := Txts.at C1.out.1.1 0 (by omega)
    have hA9 := Lib.hid hA
    have hC9 := Lib.hid hC
    replace hgs := Lib.hid hgs
    replace hsc := Lib.hid hsc
    replace h16 := Lib.hid h16
    replace hk1 := Lib.hid hk1
    replace hk2 := Lib.hid hk2
    replace hkl := Lib.hid hkl
    replace hsn := Lib.hid hsn
    clear hcE hcm
    go_upto_region 10 with fail
    rw [hA]
    go_loopw [6] (fun i wr => ∃ k : Nat, k ≤ 16 ∧ i = .int .i64 k ∧ Blk wr g0 72 (plA p) ∧ Blk wr g1 31 (cmA cm) ∧ CmIn wr cm ∧ Below w.heap.size w wr) (fun i _ => (16 - intOf i).toNat)
    case atStart => exact ⟨0, by omega, rfl, K0.out, K1.out, C1.out, HB⟩
    case round =>
      obtain ⟨k, hk6, rfl, hK0, hK1, hC1, HBr⟩ := hrel
      clear K0 k0 f0 l0 m0 K1 k1 f1 l1 m1 C1 HB
      have K0 := Lib.hid hK0
      have K1 := Lib.hid hK1
      have C1 := Lib.hid hC1
      have HB := HBr
      clear hK0 hK1 hC1 HBr
      (have k0 := Blk.cell K0.out; have f0 := Blk.free K0.out; have l0 := Blk.lt K0.out; have m0 := Nat.le_of_lt l0; have k1 := Blk.cell K1.out; have f1 := Blk.free K1.out; have l1 := Blk.lt K1.out; have m1 := Nat.le_of_lt l1)
      by_cases hlt : k < 16
      · have hkn : k < p.now.length := by rw [h16.out]; exact hlt
        have hkc : k < cm.ks.l.length := by rw [hkl.out]; exact hlt
        obtain ⟨b8, o8, hb8, hb2, hcell⟩ := (hi.out.2.2.2.1.1.below HB).at k hkn
        obtain ⟨b9, o9, hb9, hb3, hcell9⟩ := Txts.at C1.out.1.1 k hkc
        rw [hA9.out] at hb8
        rw [hC9.out] at hb9
        injection hb8 with hb8
        injection hb8 with h8 h8b
        injection hb9 with hb9
        injection hb9 with h9 h9b
        subst h8 h8b h9 h9b
        have hy := secrets_all hsc.out (p.now.getD k 0) (by rw [List.getD, List.getElem?_eq_getElem hkn]; exact List.getElem_mem hkn)
        have hkk : cm.ks.l.getD k [] = keyB ((p.now.getD k 0 : Nat) : Int) genE := by
          rw [hk1.out]
          unfold keysS
          rw [List.getD, List.getD, List.getElem?_map, List.getElem?_eq_getElem hkn]
          rfl
        rw [hkk] at hcell9
        have hn9 := hi.out.2.2.2.1.2.2 (p.now.getD k 0) (by rw [List.getD, List.getElem?_eq_getElem hkn]; exact List.getElem_mem hkn)
        have n5 := n4.out (p.now.getD k 0) hn9
        unfold keyV keyE at n5
        rw [if_pos hy] at n5
        generalize p.now.getD k 0 = y9 at *
        generalize keyB (y9 : Int) genE = kb at *
        replace n5 := Lib.hid n5
        have hlt9 : (k : Int) < 16 := by omega
        clear hy hkk hn9
        go_wp2_with fail
        refine (n5.out _).mono ?_
        rintro e w6 ⟨rfl, hN⟩
        have hc9 : w6.cell? ⟨bC, oC + k, none⟩ = some (.string (bs kb)) := (hN.cell (p := ⟨bC, oC + k, none⟩) hb3).trans hcell9
        have N0 := Lib.hid (K0.out.below hN)
        have N1 := Lib.hid (K1.out.below hN)
        have NC := Lib.hid (C1.out.below hN)
        have HBn : Below w.heap.size w w6 := Below.on hN HB
        clear K0 k0 f0 l0 m0 K1 k1 f1 l1 m1 C1 HB hN hcell hcell9 hb2 n5
        have K0 := N0; have K1 := N1
        clear N0 N1
        (have k0 := Blk.cell K0.out; have f0 := Blk.free K0.out; have l0 := Blk.lt K0.out; have m0 := Nat.le_of_lt l0; have k1 := Blk.cell K1.out; have f1 := Blk.free K1.out; have l1 := Blk.lt K1.out; have m1 := Nat.le_of_lt l1)
        go_wp2_with fail
        go_roundw
        case rel => exact ⟨k + 1, by omega, by go_num, K0.out, K1.out, NC.out, HBn⟩
        case measure => simp [intOf]; omega
      · obtain rfl : k = 16 := by omega
        clear n4
        have hle : ¬ ((16 : Nat) : Int) < 16 := by omega
        have n62 := n6.out cm.ks.addr cm.ks.cap wr (by rw [← hk1.out]; exact C1.out.1.1)
        rw [sumV_eq, hsn.out, ← hk2.out, ← hk1.out, hC9.out] at n62
        replace n62 := Lib.hid n62
        clear n6
        go_wp2_with fail
        (refine (n62.out).mono ?_; rintro e w6 ⟨rfl, hN⟩; have N0 := Lib.hid (K0.out.below hN); have N1 := Lib.hid (K1.out.below hN); have HBn : Below w.heap.size w w6 := Below.on hN HB; clear hN HB K0 k0 f0 l0 m0 K1 k1 f1 l1 m1; have K0 := N0; clear N0; have K1 := N1; clear N1; have HB := HBn; clear HBn; (have k0 := Blk.cell K0.out; have f0 := Blk.free K0.out; have l0 := Blk.lt K0.out; have m0 := Nat.le_of_lt l0; have k1 := Blk.cell K1.out; have f1 := Blk.free K1.out; have l1 := Blk.lt K1.out; have m1 := Nat.le_of_lt l1))
        go_wp2_with (first | (with_reducible refine wpList_load_run (o := ⟨_, .load 72 _, _, _, _, none⟩) (ldPl _ K0.out) rfl _ rfl rfl ?_) | (with_reducible refine wpList_load_run_g (o := ⟨_, .load 72 _, _, _, _, some _⟩) (ldPl _ K0.out) (by with_unfolding_all rfl) _ rfl rfl ?_))
        (refine (n3.out _ HB).mono ?_; rintro e w7 ⟨u, rfl, huo, hN⟩; have N0 := Lib.hid (K0.out.below hN); have N1 := Lib.hid (K1.out.below hN); have HBn : Below w.heap.size w w7 := Below.on hN HB; clear hN HB K0 k0 f0 l0 m0 K1 k1 f1 l1 m1; have K0 := N0; clear N0; have K1 := N1; clear N1; have HB := HBn; clear HBn; (have k0 := Blk.cell K0.out; have f0 := Blk.free K0.out; have l0 := Blk.lt K0.out; have m0 := Nat.le_of_lt l0; have k1 := Blk.cell K1.out; have f1 := Blk.free K1.out; have l1 := Blk.lt K1.out; have m1 := Nat.le_of_lt l1))
        have UI := Lib.hid huo.1
        replace huo := Lib.hid huo
        clear n3 n62
        (go_wp2_with (first | (with_reducible refine wpList_store_halt (o := ⟨_, .store 33 _ _, _, _, _, none⟩) (stUp (Up.zero) (Blk.new0 w7 33 (upA (Up.zero))) (u)) rfl _ _ rfl rfl rfl ?_)); generalize hWN : setRow _ _ _ _ = WN; have N0 := Lib.hid (show Blk WN _ _ _ by rw [← hWN]; exact Blk.rowOver (Nat.ne_of_lt K0.out.lt) (K0.out.alloc _)); have N1 := Lib.hid (show Blk WN _ _ _ by rw [← hWN]; exact Blk.rowOver (Nat.ne_of_lt K1.out.lt) (K1.out.alloc _)); have N2 := (show Blk WN (World.heap w7).size 33 (upA (u)) by rw [← hWN]; exact Blk.row (by simp)); have HBn : Below w.heap.size w WN := (by rw [← hWN]; exact Below.row (HB.alloc HB.size _) HB.size (by have := HB.size; simp; omega)); have HBx : Below (World.heap w7).size w7 WN := (by rw [← hWN]; exact Below.row ((Below.refl _ _).alloc (Nat.le_refl _) _) (Nat.le_refl _) (by simp)); have NUI := Lib.hid (UI.out.below HBx); obtain ⟨g2, hgj⟩ : ∃ g, (World.heap w7).size = g := ⟨_, rfl⟩; have hg0_2 : _ < g2 := (by rw [← hgj]; exact l0); have hg1_2 : _ < g2 := (by rw [← hgj]; exact l1); have hgl2 : w.heap.size ≤ g2 := (by rw [← hgj]; exact HB.size); rw [hgj] at N2 ⊢; replace N2 := Lib.hid N2; clear hWN hgj HB HBx K0 k0 f0 l0 m0 K1 k1 f1 l1 m1 UI; have K0 := N0; clear N0; have K1 := N1; clear N1; have K2 := N2; clear N2; have UI := NUI; clear NUI; have HB := HBn; clear HBn; (have k0 := Blk.cell K0.out; have f0 := Blk.free K0.out; have l0 := Blk.lt K0.out; have m0 := Nat.le_of_lt l0; have k1 := Blk.cell K1.out; have f1 := Blk.free K1.out; have l1 := Blk.lt K1.out; have m1 := Nat.le_of_lt l1; have k2 := Blk.cell K2.out; have f2 := Blk.free K2.out; have l2 := Blk.lt K2.out; have m2 := Nat.le_of_lt l2); unfold Halted)
        obtain ⟨w8, rfl⟩ : ∃ w', w' = WN := ⟨_, rfl⟩
        cases hgu : goodU p with
        | false =>
          have hue0 : ue = 2 := by rw [huE.out, hgu]; rfl
          subst hue0
          clear huE huo n7 n8 n9 r1 r2 hgu
          go_wp2_with fail
          go_ret
          exact ⟨by simp, HB⟩
        | true =>
          have hue0 : ue = 0 := by rw [huE.out, hgu]; rfl
          subst hue0
          have hub := huo.out.2.1 hgu
          have hub2 := Lib.hid hub
          have s1 : u.slot = p.slot := show u.bare.slot = _ by rw [hub]; rfl
          have s2 : u.bits = p.bits := show u.bare.bits = _ by rw [hub]; rfl
          have n92 := n9.out u
          rw [up_seen hgu hub] at n92
          replace n92 := Lib.hid n92
          replace s1 := Lib.hid s1
          replace s2 := Lib.hid s2
          have hgu2 := Lib.hid hgu
          clear huE huo hub hgu n9
          obtain ⟨bf, hbf⟩ : ∃ b, ((p.fin : Int) != 0) = b := ⟨_, rfl⟩
          have hbf2 : ((p.fin : Int) == 0) = !bf := by rw [← hbf, bne, Bool.not_not]
          have hbf3 := Lib.hid (show bf = !decide (p.fin = 0) by rw [← hbf, Bool.eq_iff_iff]; simp)
          have hW : PaW w g0 g2 p u w8 := ⟨K0.out, K2.out, UI.out, HB⟩
          go_upto_if 124 with fail
          clear hbf hbf2 K0 k0 f0 l0 m0 K1 k1 f1 l1 m1 K2 k2 f2 l2 m2 UI HB
          go_cut [] (fun wx => PaW w g0 g2 p u wx)
          case first =>
            have j0 := Lib.hid hW.1
            have j2 := Lib.hid hW.2.1
            have UI := Lib.hid hW.2.2.1
            have HB := hW.2.2.2
            clear hW
            have K0 := j0; have K2 := j2
            clear j0 j2
            (have k0 := Blk.cell K0.out; have f0 := Blk.free K0.out; have l0 := Blk.lt K0.out; have m0 := Nat.le_of_lt l0; have k2 := Blk.cell K2.out; have f2 := Blk.free K2.out; have l2 := Blk.lt K2.out; have m2 := Nat.le_of_lt l2)
            clear n8 n92 r2
            cases bf with
            | false =>
              clear n7 r1
              go_wp2_with fail
              go_meet
              case rel => exact ⟨K0.out, K2.out, UI.out, HB⟩
            | true =>
              have hf : p.fin ≠ 0 := by simpa using hbf3.out
              have n72 := n7.out u
              have r12 := r1.out u
              have hck := up_fin hgu2.out hub2.out hf
              unfold underP at hck
              rw [Bool.and_eq_true] at hck
              rw [hck.2] at r12
              obtain ⟨hr, hhr⟩ : ∃ hr, hdRoot u.fin.b = hr := ⟨_, rfl⟩
              obtain ⟨he, hhe⟩ : ∃ he, hdE u.fin.b = he := ⟨_, rfl⟩
              rw [hhr, hhe] at n72
              rw [hhr] at r12
              replace n72 := Lib.hid n72
              replace r12 := Lib.hid r12
              clear n7 r1 hck hhr hhe hf
              go_wp2_with (with_reducible refine wpList_load_run (o := ⟨_, .load 24 _, _, _, _, none⟩) (ldUp_fin_b _ K2.out) rfl _ rfl rfl ?_)
              (refine (n72.out _ HB UI.out).mono ?_; rintro e w9 ⟨rfl, hN⟩; have N0 := Lib.hid (K0.out.below hN); have N2 := Lib.hid (K2.out.below hN); have NUI := Lib.hid (UI.out.below hN); have HBn : Below w.heap.size w w9 := Below.on hN HB; clear hN HB K0 k0 f0 l0 m0 K2 k2 f2 l2 m2 UI; have K0 := N0; clear N0; have K2 := N2; clear N2; have UI := NUI; clear NUI; have HB := HBn; clear HBn; (have k0 := Blk.cell K0.out; have f0 := Blk.free K0.out; have l0 := Blk.lt K0.out; have m0 := Nat.le_of_lt l0; have k2 := Blk.cell K2.out; have f2 := Blk.free K2.out; have l2 := Blk.lt K2.out; have m2 := Nat.le_of_lt l2))
              go_wp2_with fail
              (refine (r12.out _ HB UI.out).mono ?_; rintro e w10 ⟨rfl, hN⟩; have N0 := Lib.hid (K0.out.below hN); have N2 := Lib.hid (K2.out.below hN); have NUI := Lib.hid (UI.out.below hN); have HBn : Below w.heap.size w w10 := Below.on hN HB; clear hN HB K0 k0 f0 l0 m0 K2 k2 f2 l2 m2 UI; have K0 := N0; clear N0; have K2 := N2; clear N2; have UI := NUI; clear NUI; have HB := HBn; clear HBn; (have k0 := Blk.cell K0.out; have f0 := Blk.free K0.out; have l0 := Blk.lt K0.out; have m0 := Nat.le_of_lt l0; have k2 := Blk.cell K2.out; have f2 := Blk.free K2.out; have l2 := Blk.lt K2.out; have m2 := Nat.le_of_lt l2))
              go_wp2_with fail
              go_meet
              case rel => exact ⟨K0.out, K2.out, UI.out, HB⟩
          clear hW n7 r1 hbf3
          have hW := hcut
          clear hcut
          go_upto_region 24 with fail
          go_cut [141] (fun s wx => s = .bool (decide (0 < p.next.length)) ∧ PaW w g0 g2 p u wx)
          case first =>
            have j0 := Lib.hid hW.1
            have j2 := Lib.hid hW.2.1
            have UI := Lib.hid hW.2.2.1
            have HB := hW.2.2.2
            clear hW
            have K0 := j0; have K2 := j2
            clear j0 j2
            (have k0 := Blk.cell K0.out; have f0 := Blk.free K0.out; have l0 := Blk.lt K0.out; have m0 := Nat.le_of_lt l0; have k2 := Blk.cell K2.out; have f2 := Blk.free K2.out; have l2 := Blk.lt K2.out; have m2 := Nat.le_of_lt l2)
            clear n8 n92 r2
            rcases Nat.eq_zero_or_pos p.next.length with h0 | h0
            · have e1 : (p.next.length : Int) = 0 := by omega
              go_wp2_with fail
              go_meet
              case rel => exact ⟨by rw [decide_eq_false (by omega)], K0.out, K2.out, UI.out, HB⟩
            · have e1 : (0 : Int) < (p.next.length : Int) := by omega
              go_wp2_with fail
              go_meet
              case rel => exact ⟨by rw [decide_eq_true h0], K0.out, K2.out, UI.out, HB⟩
          clear hW
          obtain ⟨rfl, hW⟩ := hcut
          obtain ⟨bn, hbn⟩ : ∃ b, decide (0 < p.next.length) = b := ⟨_, rfl⟩
          rw [hbn]
          replace hbn := Lib.hid hbn
          go_upto_if 141 with fail
          go_cut [] (fun wx => PaW w g0 g2 p u wx)
          case first =>
            have j0 := Lib.hid hW.1
            have j2 := Lib.hid hW.2.1
            have UI := Lib.hid hW.2.2.1
            have HB := hW.2.2.2
            clear hW
            have K0 := j0; have K2 := j2
            clear j0 j2
            (have k0 := Blk.cell K0.out; have f0 := Blk.free K0.out; have l0 := Blk.lt K0.out; have m0 := Nat.le_of_lt l0; have k2 := Blk.cell K2.out; have f2 := Blk.free K2.out; have l2 := Blk.lt K2.out; have m2 := Nat.le_of_lt l2)
            clear n92
            cases bn with
            | false =>
              clear n8 r2
              go_wp2_with fail
              go_meet
              case rel => exact ⟨K0.out, K2.out, UI.out, HB⟩
            | true =>
              have h0 : p.next.length ≠ 0 := by have := of_decide_eq_true hbn.out; omega
              have n82 := n8.out u
              have r22 := r2.out u
              have hck := up_next hgu2.out hub2.out h0
              unfold underP at hck
              rw [Bool.and_eq_true] at hck
              rw [hck.2] at r22
              obtain ⟨hr, hhr⟩ : ∃ hr, cmRoot u.next = hr := ⟨_, rfl⟩
              obtain ⟨he, hhe⟩ : ∃ he, cmE u.next = he := ⟨_, rfl⟩
              rw [hhr, hhe] at n82
              rw [hhr] at r22
              replace n82 := Lib.hid n82
              replace r22 := Lib.hid r22
              clear n8 r2 hck hhr hhe h0
              go_wp2_with (with_reducible refine wpList_load_run (o := ⟨_, .load 31 _, _, _, _, none⟩) (ldUp_next _ K2.out) rfl _ rfl rfl ?_)
              (refine (n82.out _ HB UI.out).mono ?_; rintro e w9 ⟨rfl, hN⟩; have N0 := Lib.hid (K0.out.below hN); have N2 := Lib.hid (K2.out.below hN); have NUI := Lib.hid (UI.out.below hN); have HBn : Below w.heap.size w w9 := Below.on hN HB; clear hN HB K0 k0 f0 l0 m0 K2 k2 f2 l2 m2 UI; have K0 := N0; clear N0; have K2 := N2; clear N2; have UI := NUI; clear NUI; have HB := HBn; clear HBn; (have k0 := Blk.cell K0.out; have f0 := Blk.free K0.out; have l0 := Blk.lt K0.out; have m0 := Nat.le_of_lt l0; have k2 := Blk.cell K2.out; have f2 := Blk.free K2.out; have l2 := Blk.lt K2.out; have m2 := Nat.le_of_lt l2))
              go_wp2_with fail
              (refine (r22.out _ HB UI.out).mono ?_; rintro e w10 ⟨rfl, hN⟩; have N0 := Lib.hid (K0.out.below hN); have N2 := Lib.hid (K2.out.below hN); have NUI := Lib.hid (UI.out.below hN); have HBn : Below w.heap.size w w10 := Below.on hN HB; clear hN HB K0 k0 f0 l0 m0 K2 k2 f2 l2 m2 UI; have K0 := N0; clear N0; have K2 := N2; clear N2; have UI := NUI; clear NUI; have HB := HBn; clear HBn; (have k0 := Blk.cell K0.out; have f0 := Blk.free K0.out; have l0 := Blk.lt K0.out; have m0 := Nat.le_of_lt l0; have k2 := Blk.cell K2.out; have f2 := Blk.free K2.out; have l2 := Blk.lt K2.out; have m2 := Nat.le_of_lt l2))
              go_wp2_with fail
              go_meet
              case rel => exact ⟨K0.out, K2.out, UI.out, HB⟩
          clear hW n8 r2 hbn
          have hW := hcut
          clear hcut
          have j0 := Lib.hid hW.1
          have j2 := Lib.hid hW.2.1
          have UI := Lib.hid hW.2.2.1
          have HB := hW.2.2.2
          clear hW
          have K0 := j0; have K2 := j2
          clear j0 j2
          (have k0 := Blk.cell K0.out; have f0 := Blk.free K0.out; have l0 := Blk.lt K0.out; have m0 := Nat.le_of_lt l0; have k2 := Blk.cell K2.out; have f2 := Blk.free K2.out; have l2 := Blk.lt K2.out; have m2 := Nat.le_of_lt l2)
          have s3 : (u.slot : Int) = (p.slot : Int) := by rw [s1.out]
          have s4 : (u.bits : Int) = (p.bits : Int) := by rw [s2.out]
          go_wp2_with (first | (with_reducible refine wpList_load_run (o := ⟨_, .load 29 _, _, _, _, none⟩) (ldUp_seen _ K2.out) rfl _ rfl rfl ?_) | (with_reducible refine wpList_load_run_g (o := ⟨_, .load 29 _, _, _, _, some _⟩) (ldUp_seen _ K2.out) (by with_unfolding_all rfl) _ rfl rfl ?_))
          (refine (n92.out _ HB UI.out).mono ?_; rintro e w11 ⟨rfl, hN⟩; have N0 := Lib.hid (K0.out.below hN); have N2 := Lib.hid (K2.out.below hN); have HBn : Below w.heap.size w w11 := Below.on hN HB; clear hN HB K0 k0 f0 l0 m0 K2 k2 f2 l2 m2; have K0 := N0; clear N0; have K2 := N2; clear N2; have HB := HBn; clear HBn; (have k0 := Blk.cell K0.out; have f0 := Blk.free K0.out; have l0 := Blk.lt K0.out; have m0 := Nat.le_of_lt l0; have k2 := Blk.cell K2.out; have f2 := Blk.free K2.out; have l2 := Blk.lt K2.out; have m2 := Nat.le_of_lt l2))
          go_wp2_with fail
          go_ret
          exact ⟨by simp, HB⟩
open Go.ChangeShapes Go.WideShapes Go.ChangeAt Go.Joins

set_option maxRecDepth 100000 in
theorem contract (H : Type) (enc : TypeId × Value → H) (W : World) (base : Nat) (args : Array Value) (ds gs : List (DataW H)) (before : List MemPlace)
    (hval0 : ∀ (j : Nat) t v, Tryz.f18.params[j]? = some t → args[j]? = some v → Value.okWide Tryz.prog W .any base t v)
    (hW : DataW.Whole enc Tryz.prog Tryz.f18.params.toList Rows.mintPartsSpec.vars false W args.toList ds gs before) (hsmall : Rows.uptoSmall H (ds ++ gs) = true)
    (hL : laidMetH Tryz.prog Rows.mintPartsUptoRow.laid W) :
    Calls Tryz.prog 18 args W fun e W' => ∃ v, e = .returned v ∧ Rows.mintPartsSpec.post enc Tryz.prog Tryz.f18 false true false false W args v W' := by
  have hval := hval0
  have hW' := hW
  obtain ⟨p, q, hA0, hV, rfl, hfz, hnd⟩ := hW
  have hA : DataW.TrodAll enc Tryz.prog W 0 (fun _ => true) true Tryz.f18.params.toList args.toList ds p := hA0
  rw [Tryz.params18] at hA hval
  have hAk := hA
  obtain ⟨v0, vs0, d0, ds0, p0, q0, hargs, hds0, hps0, h0, r0⟩ := trodAll_cons hA
  obtain ⟨hv9, hds9, hps9⟩ := trodAll_nil r0
  subst hv9
  subst hds9
  subst hds0
  obtain rfl : args = #[v0] := by cases args; simp_all
  obtain ⟨rfl, rfl⟩ := trodVars_none hV
  obtain ⟨s0, rfl, hs0⟩ := openPl (hval 0 72 v0 rfl rfl) h0 (bulk_of hsmall (d := d0) (by simp))
  have hK := hasK_of hL
  refine (walk s0 W hs0 hK).mono fun e W' ⟨he, hg⟩ => ?_
  subst he
  have hlt : ∀ x ∈ p, x.block < W.heap.size := fun x hx => hW'.lt x (by simp [hx])
  exact ⟨_, rfl, post_below (pa := p) (pv := []) hW' (fun _ _ _ => (trodAll_cons_mk (shut_bool Tryz.underlying4 _) trodAll_mk0)) (fun sp hsp => by have := stays_all laidOut hg (by kernel_rfl) hAk hlt sp (fun x hx => hsp x (by simp [hx])); rw [← Tryz.params18] at this; exact this) (fun _ _ => rfl) rfl hg (ok_one (by kernel_rfl) rfl (okWide_bool_mk Tryz.underlying4 _))⟩
theorem laid_met (os : Os) : laidMet Tryz.prog Rows.mintPartsUptoRow.laid ((laidWorld os).forCall (fun _ _ => 0) ⟨#[], #[plV Pl.zero], []⟩).memory :=
  laidMet_of_run' 8 (by kernel_rfl) (by kernel_rfl)
theorem reads (os : Os) {H : Type} (enc : TypeId × Value → H) : ∃ places, DataW.whole enc Tryz.prog ((laidWorld os).forCall (fun _ _ => 0) ⟨#[], #[plV Pl.zero], []⟩).memory Tryz.f18.params.toList Rows.mintPartsSpec.vars false #[plV Pl.zero].toList 8 = some ([plD0 H], [], places) :=
  ⟨[], by kernel_rfl⟩
set_option maxRecDepth 100000 in
theorem lifted (os : Os) (started : os.Started) (H : Type) (enc : TypeId × Value → H) (F : Stop.Interp) :
    ReturnsInHanded {} Tryz.checked os 18 .any ((Rows.OpenSpec.upto Rows.mintPartsSpec).preRow enc Tryz.prog Tryz.f18 Rows.mintPartsUptoRow.domain false Rows.mintPartsUptoRow.laid) (((Rows.OpenSpec.upto Rows.mintPartsSpec).at F).post enc Tryz.prog Tryz.f18 false true false false) := by
  obtain ⟨places, hx⟩ := reads os enc
  refine returnsInHanded_of_row (C := Tryz.checked) (s := Rows.OpenSpec.upto Rows.mintPartsSpec) own started (by kernel_rfl) Tryz.func18
    (witness_row_at (enc := enc) (C := Tryz.checked) false (laidWorld os) #[plV Pl.zero] rfl (by kernel_rfl) (by kernel_rfl) (by kernel_rfl)
      (OpenSpec.preRow_of_cond 8 hx (by kernel_rfl) (fun k hk => by cases hk; kernel_rfl) (by kernel_rfl) (laid_met os))) ?_
  intro W base args ds gs before hval hW _ hcond hreach hL _ _
  exact contract H enc W base args ds gs before hval hW (hcond _ rfl) hL
theorem and_mk {a b : Bool} (h : a = true) (k : b = true) : (a && b) = true := by rw [h, k]; rfl
set_option maxHeartbeats 40000000 in
theorem facts : joinedFacts Tryz.pinned.checked.prog 18 Tryz.f18 (Rows.OpenSpec.upto Rows.mintPartsSpec).bare Rows.mintPartsUptoRow = true := by
  unfold joinedFacts
  repeat' (with_reducible refine and_mk ?_ ?_)
  all_goals (as_aux_lemma => kernel_rfl)
theorem said : Rows.MintPartsUptoSaid :=
  OpenClaim.holds_of_cond 18 Tryz.f18 rfl rfl rfl rfl rfl rfl rfl ⟨rfl, rfl, rfl, rfl, rfl⟩ rfl rfl rfl rfl rfl (by kernel_rfl) Tryz.func18 facts
    (of_decide_eq_true (by kernel_rfl)) (by unfold Func.isWrapper; first | (rw [if_pos (by decide +kernel)]; kernel_rfl) | (rw [if_neg (by decide +kernel)]; exact ⟨rfl, rfl⟩))
    (fun os started H enc _ F => by rw [OpenClaim.pre_eq_preRow]; exact lifted os started H enc F)
theorem plain (f : FuncId) (fn : Func) (hf : Tryz.pinned.checked.prog.funcNamed "pharos/pharoslaw15.MintParts" = some f) (hfn : Tryz.pinned.checked.prog.funcs[f]? = some fn) :
    false = Tryz.pinned.checked.prog.looks [] ∧ ∀ (j : Nat) t, fn.params[j]? = some t → Tryz.pinned.checked.prog.wantsStandIn t = false := by
  obtain rfl : f = 18 := Option.some.inj ((show Tryz.prog.funcNamed "pharos/pharoslaw15.MintParts" = some 18 by kernel_rfl).symm.trans hf) |>.symm
  obtain rfl : fn = Tryz.f18 := (Option.some.inj (Tryz.func18.symm.trans hfn)).symm
  refine ⟨by kernel_rfl, fun j t ht => ?_⟩
  rw [Tryz.params18] at ht
  have hm : t ∈ [72] := by simpa using Array.mem_of_getElem? ht
  have hall : ∀ t ∈ [72], Tryz.prog.wantsStandIn t = false := by
    intro t h
    simp only [List.mem_cons, List.not_mem_nil, or_false] at h
    subst h; kernel_rfl
  exact hall t hm

/-- THE STATEMENT'S CARD -/
theorem proved : Rows.MintPartsUptoCardSaid :=
  Claim7.holds_tied_plain_at .later [] _ _ _ _ said (fun _ h => by cases h) (by kernel_rfl) (fun _ h => by cases h) mintPartsUpto_row_tie rfl ⟨rfl, rfl⟩ (by kernel_rfl) rfl plain (by kernel_rfl)

end lawMintParts
end Go.Proofs.YtegaaccioppfjaaGreatDoor
