/- What the later texts stand on (RLg5, RLg2, Lgta, RLg8, RLg9): plain laws and walks, each by its own conditions. -/
import Derived.Test.YtegaaccioppfjaaGreatDoorFr24
import Derived.Test.YtegaaccioppfjaaGreatDoorFr20
import Derived.Test.YtegaaccioppfjaaGreatDoorFr21
set_option linter.unusedSimpArgs false
set_option linter.unusedVariables false
section
namespace Go.Proofs.YtegaaccioppfjaaGreatDoor
open BigFrame Go.RowKit Go.Phx Go.Shelf
attribute [local go_sem] Oper.semAt_some

set_option maxRecDepth 100000 in
set_option maxHeartbeats 4000000 in
theorem rbegin_calls (root : Bytes) (b : Bt) (w : World) (hb : BtIn w b) : Calls Tryz.prog 26 #[.string (bs root), btV b] w (Ret w (.tuple #[srV (beginS root b), .int .i64 (beginE root b)])) := by
 have n1 := fun W (hB : Below w.heap.size w W) => rcroot_calls b.now W (hb.2.1.below hB)
 have n2 := fun W (hB : Below w.heap.size w W) => rhroot_calls b.lt.b W (hb.1.1.below hB)
 have n3 := fun W (hB : Below w.heap.size w W) => rlholds_calls b.lt W (hb.1.below hB)
 have n4 := fun W (hB : Below w.heap.size w W) => runder_calls (cmRoot b.now) b.br 4 b.lt.b.state W (cmRoot_len b.now) hb.1.1.2.2.2.1 (by decide) (hb.2.2.below hB)
 have hE : beginE root b = if cmOk b.now && holdsP b.lt then if hdRoot b.lt.b = root then if underP (cmRoot b.now) b.br.l 4 b.lt.b.state then 0 else 145 else 140 else 130 := rfl
 have hS : beginS root b = if beginE root b = 0 then beginP b else Sr.zero := rfl
 unfold cmE at n1
 unfold rwV at n4
 generalize beginE root b = E at *
 generalize beginS root b = S at *
 generalize cmRoot b.now = cr at *
 generalize cmOk b.now = r1 at *
 generalize hdRoot b.lt.b = hr at *
 generalize hdE b.lt.b = he at *
 generalize holdsP b.lt = r3 at *
 generalize underP cr b.br.l 4 b.lt.b.state = r4 at *
 replace hE := Lib.hid hE
 replace hS := Lib.hid hS
 replace n2 := Lib.hid n2
 replace n3 := Lib.hid n3
 replace n4 := Lib.hid n4
 clear hb
 have K0 := (Blk.new0 w 45 (btA b)).alloc (.cells (srA Sr.zero) 35)
 have K1 := Blk.new1 w (.cells (btA b) 45) 35 (srA Sr.zero)
 have HB : Below w.heap.size w ((w.alloc (.cells (btA b) 45)).alloc (.cells (srA Sr.zero) 35)) := bel
 cases r3 with
 | false =>
  obtain ⟨e1, he1⟩ : ∃ e1 : Int, (if r1 = true then (0 : Int) else 130) = e1 := ⟨_, rfl⟩
  rw [he1] at n1
  replace n1 := Lib.hid n1
  clear he1
  have hE2 : E = 130 := by rw [hE.out]; cases r1 <;> rfl
  have hS2 : S = Sr.zero := by rw [hS.out, hE2]; rfl
  replace hE2 := Lib.hid hE2
  replace hS2 := Lib.hid hS2
  go_enter Tryz.func26, Tryz.ntmps26
  go_upto_region 1 with fail
  obtain ⟨W, hW⟩ : ∃ W, ((w.alloc (.cells (btA b) 45)).alloc (.cells (srA Sr.zero) 35)) = W := ⟨_, rfl⟩
  rw [hW] at K0 K1 HB ⊢
  clear hW
  have hgl : w.heap.size ≤ w.heap.size := Nat.le_refl _
  obtain ⟨g, hg⟩ : ∃ g, w.heap.size = g := ⟨_, rfl⟩
  rw [hg] at K0 K1 ⊢
  replace hgl : w.heap.size ≤ g := by omega
  clear hg
  replace K0 := Lib.hid K0
  replace K1 := Lib.hid K1
  (obtain ⟨k0, f0, l0, m0⟩ := K0.out.rl; obtain ⟨k1, f1, l1, m1⟩ := K1.out.rl)
  go_wp2_with fail
  (refine (n3.out _ HB).mono ?_; rintro e w1 ⟨rfl, hN⟩; have N0 := Lib.hid (K0.out.below hN); have N1 := Lib.hid (K1.out.below hN); have HBn : Below w.heap.size w w1 := Below.on hN HB; clear hN HB K0 k0 f0 l0 m0 K1 k1 f1 l1 m1; have K0 := N0; clear N0; have K1 := N1; clear N1; have HB := HBn; clear HBn; (obtain ⟨k0, f0, l0, m0⟩ := K0.out.rl; obtain ⟨k1, f1, l1, m1⟩ := K1.out.rl))
  go_wp2_with fail
  (refine (n1.out _ HB).mono ?_; rintro e w2 ⟨rfl, hN⟩; have N0 := Lib.hid (K0.out.below hN); have N1 := Lib.hid (K1.out.below hN); have HBn : Below w.heap.size w w2 := Below.on hN HB; clear hN HB K0 k0 f0 l0 m0 K1 k1 f1 l1 m1; have K0 := N0; clear N0; have K1 := N1; clear N1; have HB := HBn; clear HBn; (obtain ⟨k0, f0, l0, m0⟩ := K0.out.rl; obtain ⟨k1, f1, l1, m1⟩ := K1.out.rl))
  (go_wp2_with (first | (with_reducible refine wpList_store_halt (o := ⟨_, .store 35 _ _, _, _, _, none⟩) (stSr _ K1.out (Sr.zero)) rfl _ _ rfl rfl rfl ?_)); generalize hWN : setRow _ _ _ _ = WN; have N1 := Lib.hid (show Blk WN _ _ _ by rw [← hWN]; exact Blk.row K1.out.lt); have N0 := Lib.hid (show Blk WN _ _ _ by rw [← hWN]; exact Blk.rowOver (by omega) K0.out); have HBn : Below w.heap.size w WN := (by rw [← hWN]; exact Below.row HB (by omega) HB.size); clear hWN HB K1 k1 f1 l1 m1 K0 k0 f0 l0 m0; have K1 := N1; clear N1; have K0 := N0; clear N0; have HB := HBn; clear HBn; (obtain ⟨k1, f1, l1, m1⟩ := K1.out.rl; obtain ⟨k0, f0, l0, m0⟩ := K0.out.rl); unfold Halted)
  go_wp2_with fail
  exact bodyPost_ret (results_cell2 rfl rfl (ldSr _ K1.out)) rfl ⟨by rw [hS2.out, hE2.out]; rfl, HB⟩
 | true =>
  cases r1 with
  | false =>
   rw [if_neg (by simp)] at n1
   replace n1 := Lib.hid n1
   have hE2 : E = 130 := by rw [hE.out]; rfl
   have hS2 : S = Sr.zero := by rw [hS.out, hE2]; rfl
   replace hE2 := Lib.hid hE2
   replace hS2 := Lib.hid hS2
   go_enter Tryz.func26, Tryz.ntmps26
   go_upto_region 1 with fail
   obtain ⟨W, hW⟩ : ∃ W, ((w.alloc (.cells (btA b) 45)).alloc (.cells (srA Sr.zero) 35)) = W := ⟨_, rfl⟩
   rw [hW] at K0 K1 HB ⊢
   clear hW
   have hgl : w.heap.size ≤ w.heap.size := Nat.le_refl _
   obtain ⟨g, hg⟩ : ∃ g, w.heap.size = g := ⟨_, rfl⟩
   rw [hg] at K0 K1 ⊢
   replace hgl : w.heap.size ≤ g := by omega
   clear hg
   replace K0 := Lib.hid K0
   replace K1 := Lib.hid K1
   (obtain ⟨k0, f0, l0, m0⟩ := K0.out.rl; obtain ⟨k1, f1, l1, m1⟩ := K1.out.rl)
   go_wp2_with fail
   (refine (n3.out _ HB).mono ?_; rintro e w1 ⟨rfl, hN⟩; have N0 := Lib.hid (K0.out.below hN); have N1 := Lib.hid (K1.out.below hN); have HBn : Below w.heap.size w w1 := Below.on hN HB; clear hN HB K0 k0 f0 l0 m0 K1 k1 f1 l1 m1; have K0 := N0; clear N0; have K1 := N1; clear N1; have HB := HBn; clear HBn; (obtain ⟨k0, f0, l0, m0⟩ := K0.out.rl; obtain ⟨k1, f1, l1, m1⟩ := K1.out.rl))
   go_wp2_with fail
   (refine (n1.out _ HB).mono ?_; rintro e w2 ⟨rfl, hN⟩; have N0 := Lib.hid (K0.out.below hN); have N1 := Lib.hid (K1.out.below hN); have HBn : Below w.heap.size w w2 := Below.on hN HB; clear hN HB K0 k0 f0 l0 m0 K1 k1 f1 l1 m1; have K0 := N0; clear N0; have K1 := N1; clear N1; have HB := HBn; clear HBn; (obtain ⟨k0, f0, l0, m0⟩ := K0.out.rl; obtain ⟨k1, f1, l1, m1⟩ := K1.out.rl))
   (go_wp2_with (first | (with_reducible refine wpList_store_halt (o := ⟨_, .store 35 _ _, _, _, _, none⟩) (stSr _ K1.out (Sr.zero)) rfl _ _ rfl rfl rfl ?_)); generalize hWN : setRow _ _ _ _ = WN; have N1 := Lib.hid (show Blk WN _ _ _ by rw [← hWN]; exact Blk.row K1.out.lt); have N0 := Lib.hid (show Blk WN _ _ _ by rw [← hWN]; exact Blk.rowOver (by omega) K0.out); have HBn : Below w.heap.size w WN := (by rw [← hWN]; exact Below.row HB (by omega) HB.size); clear hWN HB K1 k1 f1 l1 m1 K0 k0 f0 l0 m0; have K1 := N1; clear N1; have K0 := N0; clear N0; have HB := HBn; clear HBn; (obtain ⟨k1, f1, l1, m1⟩ := K1.out.rl; obtain ⟨k0, f0, l0, m0⟩ := K0.out.rl); unfold Halted)
   go_wp2_with fail
   exact bodyPost_ret (results_cell2 rfl rfl (ldSr _ K1.out)) rfl ⟨by rw [hS2.out, hE2.out]; rfl, HB⟩
  | true =>
   rw [if_pos rfl] at n1
   replace n1 := Lib.hid n1
   go_enter Tryz.func26, Tryz.ntmps26
   go_upto_region 1 with fail
   obtain ⟨W, hW⟩ : ∃ W, ((w.alloc (.cells (btA b) 45)).alloc (.cells (srA Sr.zero) 35)) = W := ⟨_, rfl⟩
   rw [hW] at K0 K1 HB ⊢
   clear hW
   have hgl : w.heap.size ≤ w.heap.size := Nat.le_refl _
   obtain ⟨g, hg⟩ : ∃ g, w.heap.size = g := ⟨_, rfl⟩
   rw [hg] at K0 K1 ⊢
   replace hgl : w.heap.size ≤ g := by omega
   clear hg
   replace K0 := Lib.hid K0
   replace K1 := Lib.hid K1
   (obtain ⟨k0, f0, l0, m0⟩ := K0.out.rl; obtain ⟨k1, f1, l1, m1⟩ := K1.out.rl)
   go_wp2_with fail
   (refine (n3.out _ HB).mono ?_; rintro e w1 ⟨rfl, hN⟩; have N0 := Lib.hid (K0.out.below hN); have N1 := Lib.hid (K1.out.below hN); have HBn : Below w.heap.size w w1 := Below.on hN HB; clear hN HB K0 k0 f0 l0 m0 K1 k1 f1 l1 m1; have K0 := N0; clear N0; have K1 := N1; clear N1; have HB := HBn; clear HBn; (obtain ⟨k0, f0, l0, m0⟩ := K0.out.rl; obtain ⟨k1, f1, l1, m1⟩ := K1.out.rl))
   go_wp2_with fail
   (refine (n1.out _ HB).mono ?_; rintro e w2 ⟨rfl, hN⟩; have N0 := Lib.hid (K0.out.below hN); have N1 := Lib.hid (K1.out.below hN); have HBn : Below w.heap.size w w2 := Below.on hN HB; clear hN HB K0 k0 f0 l0 m0 K1 k1 f1 l1 m1; have K0 := N0; clear N0; have K1 := N1; clear N1; have HB := HBn; clear HBn; (obtain ⟨k0, f0, l0, m0⟩ := K0.out.rl; obtain ⟨k1, f1, l1, m1⟩ := K1.out.rl))
   go_wp2_with fail
   (refine (n2.out _ HB).mono ?_; rintro e w3 ⟨rfl, hN⟩; have N0 := Lib.hid (K0.out.below hN); have N1 := Lib.hid (K1.out.below hN); have HBn : Below w.heap.size w w3 := Below.on hN HB; clear hN HB K0 k0 f0 l0 m0 K1 k1 f1 l1 m1; have K0 := N0; clear N0; have K1 := N1; clear N1; have HB := HBn; clear HBn; (obtain ⟨k0, f0, l0, m0⟩ := K0.out.rl; obtain ⟨k1, f1, l1, m1⟩ := K1.out.rl))
   by_cases hrr : hr = root
   ·subst hrr
    go_wp2_with fail
    (refine (n4.out _ HB).mono ?_; rintro e w4 ⟨rfl, hN⟩; have N0 := Lib.hid (K0.out.below hN); have N1 := Lib.hid (K1.out.below hN); have HBn : Below w.heap.size w w4 := Below.on hN HB; clear hN HB K0 k0 f0 l0 m0 K1 k1 f1 l1 m1; have K0 := N0; clear N0; have K1 := N1; clear N1; have HB := HBn; clear HBn; (obtain ⟨k0, f0, l0, m0⟩ := K0.out.rl; obtain ⟨k1, f1, l1, m1⟩ := K1.out.rl))
    cases r4 with
    | false =>
     have hE2 : E = 145 := by rw [hE.out]; simp
     have hS2 : S = Sr.zero := by rw [hS.out, hE2]; rfl
     replace hE2 := Lib.hid hE2
     replace hS2 := Lib.hid hS2
     (go_wp2_with (first | (with_reducible refine wpList_store_halt (o := ⟨_, .store 35 _ _, _, _, _, none⟩) (stSr _ K1.out (Sr.zero)) rfl _ _ rfl rfl rfl ?_)); generalize hWN : setRow _ _ _ _ = WN; have N1 := Lib.hid (show Blk WN _ _ _ by rw [← hWN]; exact Blk.row K1.out.lt); have N0 := Lib.hid (show Blk WN _ _ _ by rw [← hWN]; exact Blk.rowOver (by omega) K0.out); have HBn : Below w.heap.size w WN := (by rw [← hWN]; exact Below.row HB (by omega) HB.size); clear hWN HB K1 k1 f1 l1 m1 K0 k0 f0 l0 m0; have K1 := N1; clear N1; have K0 := N0; clear N0; have HB := HBn; clear HBn; (obtain ⟨k1, f1, l1, m1⟩ := K1.out.rl; obtain ⟨k0, f0, l0, m0⟩ := K0.out.rl); unfold Halted)
     go_wp2_with fail
     exact bodyPost_ret (results_cell2 rfl rfl (ldSr _ K1.out)) rfl ⟨by rw [hS2.out, hE2.out]; rfl, HB⟩
    | true =>
     have hE2 : E = 0 := by rw [hE.out]; simp
     have hS2 : S = beginP b := by rw [hS.out, hE2]; rfl
     replace hE2 := Lib.hid hE2
     replace hS2 := Lib.hid hS2
     go_wp2_with (first | (with_reducible refine wpList_build_run (o := ⟨_, .build 35 _, _, _, _, none⟩) (build_begin b.lt b.lt b.now _) rfl _ rfl (by with_unfolding_all rfl) ?_) | (with_reducible refine wpList_store_halt (o := ⟨_, .store 35 _ _, _, _, _, none⟩) (stSr _ K1.out { Sr.zero with fin := b.lt, new := b.lt, now := b.now }) rfl _ _ rfl rfl rfl ?_))
     generalize hWN : setRow _ _ _ _ = WN
     have N1 := Lib.hid (show Blk WN (g + 1) 35 (srA { Sr.zero with fin := b.lt, new := b.lt, now := b.now }) by rw [← hWN]; exact Blk.row K1.out.lt)
     have HBn : Below w.heap.size w WN := by rw [← hWN]; exact Below.row HB (by omega) HB.size
     clear hWN
     unfold Halted
     go_wp2_with fail
     exact bodyPost_ret (results_cell2 rfl rfl (ldSr _ N1.out)) rfl ⟨by rw [hS2.out, hE2.out]; rfl, HBn⟩
   ·have e5 : (hr == root) = false := by simpa using hrr
    have e6 : (hr != root) = true := by simpa using hrr
    have hE2 : E = 140 := by rw [hE.out]; simp [hrr]
    have hS2 : S = Sr.zero := by rw [hS.out, hE2]; rfl
    replace hE2 := Lib.hid hE2
    replace hS2 := Lib.hid hS2
    clear hrr
    (go_wp2_with (first | (with_reducible refine wpList_store_halt (o := ⟨_, .store 35 _ _, _, _, _, none⟩) (stSr _ K1.out (Sr.zero)) rfl _ _ rfl rfl rfl ?_)); generalize hWN : setRow _ _ _ _ = WN; have N1 := Lib.hid (show Blk WN _ _ _ by rw [← hWN]; exact Blk.row K1.out.lt); have N0 := Lib.hid (show Blk WN _ _ _ by rw [← hWN]; exact Blk.rowOver (by omega) K0.out); have HBn : Below w.heap.size w WN := (by rw [← hWN]; exact Below.row HB (by omega) HB.size); clear hWN HB K1 k1 f1 l1 m1 K0 k0 f0 l0 m0; have K1 := N1; clear N1; have K0 := N0; clear N0; have HB := HBn; clear HBn; (obtain ⟨k1, f1, l1, m1⟩ := K1.out.rl; obtain ⟨k0, f0, l0, m0⟩ := K0.out.rl); unfold Halted)
    go_wp2_with fail
    exact bodyPost_ret (results_cell2 rfl rfl (ldSr _ K1.out)) rfl ⟨by rw [hS2.out, hE2.out]; rfl, HB⟩
end Go.Proofs.YtegaaccioppfjaaGreatDoor
end
section
namespace Go.Proofs.YtegaaccioppfjaaGreatDoor
open BigFrame Go.RowKit Go.Phx Go.Shelf
attribute [local go_sem] Oper.semAt_some

theorem ifc2 {c d : Prop} [Decidable c] [Decidable d] {α : Type} {x y : α} (h : c ↔ d) : (if c then x else y) = if d then x else y := by
 by_cases k : c
 ·rw [if_pos k, if_pos (h.1 k)]
 ·rw [if_neg k, if_neg fun m => k (h.2 m)]
theorem ifn {α β : Type} {a b : α} {X Y : β} [Decidable (a ≠ b)] (h : a = b) : (if a ≠ b then X else Y) = Y := if_neg fun k => k h
set_option maxRecDepth 100000 in
set_option maxHeartbeats 1000000 in
theorem rownNext_calls (u : Up) (h1 : u.seen.b.slot < 18446744073709551616) (h2 : u.slot < 18446744073709551616) (w : World) : Calls Tryz.prog 76 #[upV u] w (Ret w (.bool (ownNextP u))) := by
 have n1 := fun W => rhasNext_calls u W
 have n2 := fun W => rperiod_q u.seen.b.slot h1 W
 have n3 := fun W => rperiod_q u.slot h2 W
 have hE : ownNextP u = (hasNextP u && decide (period u.seen.b.slot = period u.slot)) := rfl
 rw [hE]
 clear hE
 generalize hasNextP u = r1 at *
 generalize period u.seen.b.slot = ps at *
 generalize period u.slot = pu at *
 have e1 : ((ps : Int) == (pu : Int)) = decide (ps = pu) := by rw [Bool.eq_iff_iff]; simp; omega
 generalize decide (ps = pu) = b1 at *
 replace n1 := Lib.hid n1
 replace n2 := Lib.hid n2
 replace n3 := Lib.hid n3
 clear h1 h2
 go_enter Tryz.func76, Tryz.ntmps76
 go_upto_region 1 with fail
 have HB : Below w.heap.size w (w.alloc (.cells (upA u) 33)) := bel
 have K0 := Blk.new0 w 33 (upA u)
 obtain ⟨W, hW⟩ : ∃ W, w.alloc (.cells (upA u) 33) = W := ⟨_, rfl⟩
 rw [hW] at HB K0 ⊢
 clear hW
 have hgl : w.heap.size ≤ w.heap.size := Nat.le_refl _
 obtain ⟨g, hg⟩ : ∃ g, w.heap.size = g := ⟨_, rfl⟩
 rw [hg] at K0 ⊢
 replace hgl : w.heap.size ≤ g := by omega
 replace K0 := Lib.hid K0
 clear hg
 (obtain ⟨k0, f0, l0, m0⟩ := K0.out.rl)
 cases r1 with
 | false =>
  have hwf : ∀ f, Fence.wide.fn f := fun _ => trivial
  refine (wpIn_wide (n := 9)).1 ?_
  refine wpIn_round_held (fun w' => Below W.heap.size W w') (fun j => true) (by kernel_rfl) ?_
  have hS0 : (fun w' => Below W.heap.size W w') W.drew := (Below.refl _ _).drew
  refine S_tk 0 (upV (u)) rfl hS0 (fun w' hw => exec_load rfl (by kernel_rfl) (ldUp (u) (K0.out.below hw))) ?_
  refine S_one 1 (by kernel_rfl) rfl (fun K hK => ?_)
  go_simp
  gi_wp2_with (gi_at_call 85; refine (callsIn_wide.2 (n1.out _)).mono ?_; rintro e Wh1 ⟨rfl, hN⟩)
  have hS1 : (fun w' => Below W.heap.size W w') Wh1 := hS0.trans (hN.mono hS0.size)
  clear hS0
  have hS0 := hS1
  clear hS1
  clear hN
  refine ⟨(fun _ => hS0), ?_⟩
  refine S_tk 2 (.bool false) rfl hS0 (fun w' hw => by go_simp) ?_
  refine S_skip (fun _ => trivial) 3 (by kernel_rfl) rfl (by kernel_rfl) (by kernel_rfl) (by kernel_rfl) (by kernel_rfl) (onlyN_panic _ _) hS0 (by kernel_rfl) ?_
  refine S_skip (fun _ => trivial) 4 (by kernel_rfl) rfl (by kernel_rfl) (by kernel_rfl) (by kernel_rfl) (by kernel_rfl) (onlyN_panic _ _) hS0 (by kernel_rfl) ?_
  refine S_skip (fun _ => trivial) 5 (by kernel_rfl) rfl (by kernel_rfl) (by kernel_rfl) (by kernel_rfl) (by kernel_rfl) (onlyN_panic _ _) hS0 (by kernel_rfl) ?_
  refine S_skip (fun _ => trivial) 6 (by kernel_rfl) rfl (by kernel_rfl) (by kernel_rfl) (by kernel_rfl) (by kernel_rfl) (onlyN_panic _ _) hS0 (by kernel_rfl) ?_
  refine S_skip (fun _ => trivial) 7 (by kernel_rfl) rfl (by kernel_rfl) (by kernel_rfl) (by kernel_rfl) (by kernel_rfl) (onlyN_panic _ _) hS0 (by kernel_rfl) ?_
  refine S_skip (fun _ => trivial) 8 (by kernel_rfl) rfl (by kernel_rfl) (by kernel_rfl) (by kernel_rfl) (by kernel_rfl) (onlyN_panic _ _) hS0 (by kernel_rfl) ?_
  refine S_skip (fun _ => trivial) 9 (by kernel_rfl) rfl (by kernel_rfl) (by kernel_rfl) (by kernel_rfl) (by kernel_rfl) (onlyN_panic _ _) hS0 (by kernel_rfl) ?_
  refine S_skip (fun _ => trivial) 10 (by kernel_rfl) rfl (by kernel_rfl) (by kernel_rfl) (by kernel_rfl) (by kernel_rfl) (onlyN_panic _ _) hS0 (by kernel_rfl) ?_
  refine S_skip (fun _ => trivial) 11 (by kernel_rfl) rfl (by kernel_rfl) (by kernel_rfl) (by kernel_rfl) (by kernel_rfl) (onlyN_panic _ _) hS0 (by kernel_rfl) ?_
  refine S_tk 12 (.bool false) rfl hS0 (fun w' hw => by go_simp) ?_
  refine S_tk 13 (.bool false) rfl hS0 (fun w' hw => by go_simp) ?_
  refine ⟨by kernel_rfl, rfl, ?_⟩
  go_wp2_with fail
  go_ret
  exact ⟨rfl, Below.on hS0 HB⟩
 | true =>
  have hwf : ∀ f, Fence.wide.fn f := fun _ => trivial
  refine (wpIn_wide (n := 9)).1 ?_
  refine wpIn_round_held (fun w' => Below W.heap.size W w') (fun j => true) (by kernel_rfl) ?_
  have hS0 : (fun w' => Below W.heap.size W w') W.drew := (Below.refl _ _).drew
  refine S_tk 0 (upV (u)) rfl hS0 (fun w' hw => exec_load rfl (by kernel_rfl) (ldUp (u) (K0.out.below hw))) ?_
  refine S_one 1 (by kernel_rfl) rfl (fun K hK => ?_)
  go_simp
  gi_wp2_with (gi_at_call 85; refine (callsIn_wide.2 (n1.out _)).mono ?_; rintro e Wh1 ⟨rfl, hN⟩)
  have hS1 : (fun w' => Below W.heap.size W w') Wh1 := hS0.trans (hN.mono hS0.size)
  clear hS0
  have hS0 := hS1
  clear hS1
  clear hN
  refine ⟨(fun _ => hS0), ?_⟩
  refine S_tk 2 (.bool true) rfl hS0 (fun w' hw => by go_simp) ?_
  refine S_tk 3 (.pointer (some ⟨g, 0, none⟩)) rfl hS0 (fun w' hw => by go_simp) ?_
  refine S_tk 4 (.pointer (some ⟨g, 0, none⟩)) rfl hS0 (fun w' hw => by go_simp) ?_
  refine S_tk 5 (.pointer (some ⟨g, 0, none⟩)) rfl hS0 (fun w' hw => by go_simp) ?_
  refine S_tk 6 (.int .u64 (u.seen.b.slot : Int)) rfl hS0 (fun w' hw => exec_load rfl (by kernel_rfl) (run_load_cell (i := 0) (K0.out.below hw) rfl szU64 nrU64)) ?_
  refine S_tk 8 (.pointer (some ⟨g, 24, none⟩)) rfl hS0 (fun w' hw => by go_simp) ?_
  refine S_tk 9 (.int .u64 (u.slot : Int)) rfl hS0 (fun w' hw => exec_load rfl (by kernel_rfl) (run_load_cell (i := 24) (K0.out.below hw) rfl szU64 nrU64)) ?_
  refine S_one 7 (by kernel_rfl) rfl (fun K hK => ?_)
  go_simp
  gi_wp2_with (gi_at_call 66; refine (callsIn_wide.2 (n2.out _)).mono ?_; rintro e Wh2 ⟨rfl, hN⟩; obtain rfl : Wh1 = Wh2 := (by first | exact hN | exact hN.symm))
  refine ⟨(fun _ => hS0), ?_⟩
  refine S_one 10 (by kernel_rfl) rfl (fun K hK => ?_)
  go_simp
  gi_wp2_with (gi_at_call 66; refine (callsIn_wide.2 (n3.out _)).mono ?_; rintro e Wh3 ⟨rfl, hN⟩; obtain rfl : Wh1 = Wh3 := (by first | exact hN | exact hN.symm))
  refine ⟨(fun _ => hS0), ?_⟩
  refine S_tk 11 (.bool b1) rfl hS0 (fun w' hw => by go_simp) ?_
  refine S_tk 12 (.bool b1) rfl hS0 (fun w' hw => by go_simp) ?_
  refine S_tk 13 (.bool b1) rfl hS0 (fun w' hw => by go_simp) ?_
  refine ⟨by kernel_rfl, rfl, ?_⟩
  go_wp2_with fail
  go_ret
  exact ⟨rfl, Below.on hS0 HB⟩
set_option maxRecDepth 100000 in
theorem rownFinal_calls (u : Up) (h1 : u.seen.b.slot < 18446744073709551616) (h2 : u.fin.b.slot < 18446744073709551616) (w : World) : Calls Tryz.prog 78 #[upV u] w (Ret w (.bool (decide (period u.fin.b.slot = period u.seen.b.slot)))) := by
 have n2 := fun W => rperiod_q u.seen.b.slot h1 W
 have n3 := fun W => rperiod_q u.fin.b.slot h2 W
 generalize period u.seen.b.slot = ps at *
 generalize period u.fin.b.slot = pf at *
 have e1 : ((pf : Int) == (ps : Int)) = decide (pf = ps) := by rw [Bool.eq_iff_iff]; simp; omega
 generalize decide (pf = ps) = b1 at *
 replace n2 := Lib.hid n2
 replace n3 := Lib.hid n3
 clear h1 h2
 go_enter Tryz.func78, Tryz.ntmps78
 go_upto_region 1 with fail
 have HB : Below w.heap.size w (w.alloc (.cells (upA u) 33)) := bel
 have K0 := Blk.new0 w 33 (upA u)
 obtain ⟨W, hW⟩ : ∃ W, w.alloc (.cells (upA u) 33) = W := ⟨_, rfl⟩
 rw [hW] at HB K0 ⊢
 clear hW
 have hgl : w.heap.size ≤ w.heap.size := Nat.le_refl _
 obtain ⟨g, hg⟩ : ∃ g, w.heap.size = g := ⟨_, rfl⟩
 rw [hg] at K0 ⊢
 replace hgl : w.heap.size ≤ g := by omega
 replace K0 := Lib.hid K0
 clear hg
 (obtain ⟨k0, f0, l0, m0⟩ := K0.out.rl)
 have hwf : ∀ f, Fence.wide.fn f := fun _ => trivial
 refine (wpIn_wide (n := 9)).1 ?_
 refine wpIn_round_held (fun w' => Below W.heap.size W w') (fun j => true) (by kernel_rfl) ?_
 have hS0 : (fun w' => Below W.heap.size W w') W.drew := (Below.refl _ _).drew
 refine S_tk 0 (.pointer (some ⟨g, 12, none⟩)) rfl hS0 (fun w' hw => by go_simp) ?_
 refine S_tk 1 (.pointer (some ⟨g, 12, none⟩)) rfl hS0 (fun w' hw => by go_simp) ?_
 refine S_tk 2 (.pointer (some ⟨g, 12, none⟩)) rfl hS0 (fun w' hw => by go_simp) ?_
 refine S_tk 3 (.int .u64 (u.fin.b.slot : Int)) rfl hS0 (fun w' hw => exec_load rfl (by kernel_rfl) (run_load_cell (i := 12) (K0.out.below hw) rfl szU64 nrU64)) ?_
 refine S_tk 5 (.pointer (some ⟨g, 0, none⟩)) rfl hS0 (fun w' hw => by go_simp) ?_
 refine S_tk 6 (.pointer (some ⟨g, 0, none⟩)) rfl hS0 (fun w' hw => by go_simp) ?_
 refine S_tk 7 (.pointer (some ⟨g, 0, none⟩)) rfl hS0 (fun w' hw => by go_simp) ?_
 refine S_tk 8 (.int .u64 (u.seen.b.slot : Int)) rfl hS0 (fun w' hw => exec_load rfl (by kernel_rfl) (run_load_cell (i := 0) (K0.out.below hw) rfl szU64 nrU64)) ?_
 refine S_one 4 (by kernel_rfl) rfl (fun K hK => ?_)
 go_simp
 gi_wp2_with (gi_at_call 66; refine (callsIn_wide.2 (n3.out _)).mono ?_; rintro e Wh1 ⟨rfl, hN⟩; obtain rfl : W.drew = Wh1 := (by first | exact hN | exact hN.symm))
 refine ⟨(fun _ => hS0), ?_⟩
 refine S_one 9 (by kernel_rfl) rfl (fun K hK => ?_)
 go_simp
 gi_wp2_with (gi_at_call 66; refine (callsIn_wide.2 (n2.out _)).mono ?_; rintro e Wh2 ⟨rfl, hN⟩; obtain rfl : W.drew = Wh2 := (by first | exact hN | exact hN.symm))
 refine ⟨(fun _ => hS0), ?_⟩
 refine S_tk 10 (.bool b1) rfl hS0 (fun w' hw => by go_simp) ?_
 refine S_tk 11 (.bool b1) rfl hS0 (fun w' hw => by go_simp) ?_
 refine ⟨by kernel_rfl, rfl, ?_⟩
 go_wp2_with fail
 go_ret
 exact ⟨rfl, Below.on hS0 HB⟩
def UuW (w : World) (g : Nat) (a b : Up) (wx : World) : Prop := Blk wx g 33 (upA a) ∧ Blk wx (g + 1) 33 (upA b) ∧ Below w.heap.size w wx
set_option maxRecDepth 100000 in
set_option maxHeartbeats 16000000 in
theorem rbetter_calls (a b : Up) (w : World) (ha : LtIn w a.fin) (hb : LtIn w b.fin) (hab : a.bits < 18446744073709551616) (hbb : b.bits < 18446744073709551616) (h1 : a.seen.b.slot < 18446744073709551616) (h2 : a.slot < 18446744073709551616) (h3 : a.fin.b.slot < 18446744073709551616) (h4 : b.seen.b.slot < 18446744073709551616) (h5 : b.slot < 18446744073709551616) (h6 : b.fin.b.slot < 18446744073709551616) : Calls Tryz.prog 28 #[upV a, upV b] w (Ret w (.bool (rbetterP a b))) := by
 have nta := fun W => rtwo_calls a hab W
 have ntb := fun W => rtwo_calls b hbb W
 have nx := fun W => rsigners_calls a.bits hab W
 have ny := fun W => rsigners_calls b.bits hbb W
 have nna := fun W => rownNext_calls a h1 h2 W
 have nnb := fun W => rownNext_calls b h4 h5 W
 have nfa := fun W (hB : Below w.heap.size w W) => risFinal_calls a W (ha.below hB)
 have nfb := fun W (hB : Below w.heap.size w W) => risFinal_calls b W (hb.below hB)
 have noa := fun W => rownFinal_calls a h1 h3 W
 have nob := fun W => rownFinal_calls b h4 h6 W
 obtain ⟨R, hv⟩ : ∃ R, R = rbetterP a b := ⟨_, rfl⟩
 rw [← hv]
 unfold rbetterP at hv
 generalize twoP a = ta at *
 generalize twoP b = tb at *
 generalize onesP a.bits = x at *
 generalize onesP b.bits = y at *
 generalize ownNextP a = na at *
 generalize ownNextP b = nb at *
 generalize isFinalP a = fa at *
 generalize isFinalP b = fb at *
 generalize decide (period a.fin.b.slot = period a.seen.b.slot) = oa at *
 generalize decide (period b.fin.b.slot = period b.seen.b.slot) = ob at *
 replace hv := Lib.hid hv
 replace nta := Lib.hid nta
 replace ntb := Lib.hid ntb
 replace nx := Lib.hid nx
 replace ny := Lib.hid ny
 replace nna := Lib.hid nna
 replace nnb := Lib.hid nnb
 replace nfa := Lib.hid nfa
 replace nfb := Lib.hid nfb
 replace noa := Lib.hid noa
 replace nob := Lib.hid nob
 clear ha hb hab hbb h1 h2 h3 h4 h5 h6
 go_enter Tryz.func28, Tryz.ntmps28
 go_upto_region 1 with fail
 have HB : Below w.heap.size w ((w.alloc (.cells (upA a) 33)).alloc (.cells (upA b) 33)) := bel
 have K0 := (Blk.new0 w 33 (upA a)).alloc (.cells (upA b) 33)
 have K1 := Blk.new1 w (.cells (upA a) 33) 33 (upA b)
 obtain ⟨W, hW⟩ : ∃ W, ((w.alloc (.cells (upA a) 33)).alloc (.cells (upA b) 33)) = W := ⟨_, rfl⟩
 rw [hW] at HB K0 K1 ⊢
 clear hW
 have hgl : w.heap.size ≤ w.heap.size := Nat.le_refl _
 obtain ⟨g, hg⟩ : ∃ g, w.heap.size = g := ⟨_, rfl⟩
 rw [hg] at K0 K1 ⊢
 replace hgl : w.heap.size ≤ g := by omega
 replace K0 := Lib.hid K0
 replace K1 := Lib.hid K1
 clear hg
 (obtain ⟨k0, f0, l0, m0⟩ := K0.out.rl; obtain ⟨k1, f1, l1, m1⟩ := K1.out.rl)
 go_wp2_with fail
 refine (nx.out _).mono ?_
 rintro e w' ⟨rfl, rfl⟩
 go_wp2_with fail
 refine (ny.out _).mono ?_
 rintro e w' ⟨rfl, rfl⟩
 go_upto_region 3 with fail
 obtain ⟨q3, hq3⟩ : ∃ q, (ta != tb) = q := ⟨_, rfl⟩
 have dq3 : (ta == tb) = !q3 := by rw [← hq3]; cases ta <;> cases tb <;> rfl
 go_cut [17] (fun s17 wx => s17 = .bool q3 ∧ UuW w g a b wx)
 case first =>
  as_aux_lemma =>
   have hwf : ∀ f, Fence.wide.fn f := fun _ => trivial
   refine (wpIn_wide (n := 9)).1 ?_
   refine wpIn_round_held (fun w' => Below W.heap.size W w') (fun j => true) (by kernel_rfl) ?_
   have hS0 : (fun w' => Below W.heap.size W w') W.drew := (Below.refl _ _).drew
   have KA100 := Lib.hid (K0.out.drew)
   have KA101 := Lib.hid (K1.out.drew)
   have HBt := HB.drew
   refine S_tk 0 (upV (a)) rfl hS0 (fun w' hw => exec_load rfl (by kernel_rfl) (ldUp (a) (K0.out.below hw))) ?_
   refine S_tk 2 (upV (b)) rfl hS0 (fun w' hw => exec_load rfl (by kernel_rfl) (ldUp (b) (K1.out.below hw))) ?_
   refine S_one 1 (by kernel_rfl) rfl (fun K hK => ?_)
   go_simp
   gi_wp2_with (gi_at_call 75; refine (callsIn_wide.2 (nta.out _)).mono ?_; rintro e Wh1 ⟨rfl, hN⟩)
   replace KA100 := Lib.hid (KA100.out.below hN)
   replace KA101 := Lib.hid (KA101.out.below hN)
   replace HBt := Below.on hN HBt
   have hS1 : (fun w' => Below W.heap.size W w') Wh1 := hS0.trans (hN.mono hS0.size)
   clear hS0
   have hS0 := hS1
   clear hS1
   clear hN
   refine ⟨(fun _ => hS0), ?_⟩
   refine S_one 3 (by kernel_rfl) rfl (fun K hK => ?_)
   go_simp
   gi_wp2_with (gi_at_call 75; refine (callsIn_wide.2 (ntb.out _)).mono ?_; rintro e Wh2 ⟨rfl, hN⟩)
   replace KA100 := Lib.hid (KA100.out.below hN)
   replace KA101 := Lib.hid (KA101.out.below hN)
   replace HBt := Below.on hN HBt
   have hS1 : (fun w' => Below W.heap.size W w') Wh2 := hS0.trans (hN.mono hS0.size)
   clear hS0
   have hS0 := hS1
   clear hS1
   clear hN
   refine ⟨(fun _ => hS0), ?_⟩
   refine S_tk 4 (.bool q3) rfl hS0 (fun w' hw => by go_simp) ?_
   refine ⟨by kernel_rfl, rfl, ?_⟩
   obtain ⟨WN, hWN⟩ : ∃ WN, Wh2 = WN := ⟨_, rfl⟩
   rw [hWN] at KA100 KA101 HBt ⊢
   clear hWN hwf hS0 HB
   have HB := HBt
   clear HBt
   clear K0 k0 f0 l0 m0
   clear K1 k1 f1 l1 m1
   have K0 := KA100
   clear KA100
   have K1 := KA101
   clear KA101
   (obtain ⟨k0, f0, l0, m0⟩ := K0.out.rl; obtain ⟨k1, f1, l1, m1⟩ := K1.out.rl)
   go_wp2_with fail
   go_meet
   case rel => exact ⟨rfl, K0.out, K1.out, HB⟩
 obtain ⟨rfl, hW⟩ := hcut
 have j0 := Lib.hid hW.1
 have j1 := Lib.hid hW.2.1
 have HBn := hW.2.2
 clear hW k0 f0 l0 m0 k1 f1 l1 m1 K0 K1 HB
 have K0 := j0; have K1 := j1; have HB := HBn
 clear j0 j1 HBn
 (obtain ⟨k0, f0, l0, m0⟩ := K0.out.rl; obtain ⟨k1, f1, l1, m1⟩ := K1.out.rl)
 clear dq3
 by_cases h3 : ta = tb
 rotate_left
 ·as_aux_lemma =>
   obtain rfl : q3 = true := by rw [← hq3]; simpa using h3
   have hR : R = ta := by rw [hv.out, if_pos h3]
   replace hR := Lib.hid hR
   clear hv h3 hq3
   go_wp2_with (first | (with_reducible refine wpList_load_run (o := ⟨_, .load 33 _, _, _, _, none⟩) (ldUp _ K0.out) rfl _ rfl rfl ?_) | (with_reducible refine wpList_load_run_g (o := ⟨_, .load 33 _, _, _, _, some _⟩) (ldUp _ K0.out) (by with_unfolding_all rfl) _ rfl rfl ?_) | (with_reducible refine wpList_load_run (o := ⟨_, .load 33 _, _, _, _, none⟩) (ldUp _ K1.out) rfl _ rfl rfl ?_) | (with_reducible refine wpList_load_run_g (o := ⟨_, .load 33 _, _, _, _, some _⟩) (ldUp _ K1.out) (by with_unfolding_all rfl) _ rfl rfl ?_))
   (refine (nta.out _).mono ?_; rintro e w9 ⟨rfl, hN⟩; have N0 := Lib.hid (K0.out.below hN); have N1 := Lib.hid (K1.out.below hN); have HBn : Below w.heap.size w w9 := Below.on hN HB; clear hN HB K0 k0 f0 l0 m0 K1 k1 f1 l1 m1; have K0 := N0; clear N0; have K1 := N1; clear N1; have HB := HBn; clear HBn; (obtain ⟨k0, f0, l0, m0⟩ := K0.out.rl; obtain ⟨k1, f1, l1, m1⟩ := K1.out.rl))
   go_wp2_with fail
   go_ret
   exact ⟨by rw [hR.out]; rfl, HB⟩
 obtain rfl : q3 = false := by rw [← hq3]; simpa using h3
 have hv2 := hv.out
 rw [ifn h3] at hv2
 replace hv := Lib.hid hv2
 clear hv2 h3 hq3
 go_upto_region 5 with fail
 have e5 : ((x : Int) != (y : Int)) = decide (x ≠ y) := by rw [Bool.eq_iff_iff]; simp; omega
 have e14 : decide ((y : Int) < (x : Int)) = decide (y < x) := decide_eq_decide.2 (by omega)
 replace e14 := Lib.hid e14
 obtain ⟨q5, hq5⟩ : ∃ q, decide (x ≠ y) = q := ⟨_, rfl⟩
 rw [hq5] at e5
 have hv2 : R = if (!ta && q5) = true then decide (y < x) else _ := hv.out.trans (ifc2 (by rw [← hq5]; simp))
 replace hv := Lib.hid hv2
 clear hv2
 go_cut [27] (fun s27 wx => s27 = .bool (!ta && q5) ∧ UuW w g a b wx)
 case first =>
  as_aux_lemma =>
   clear hv hq5
   go_wp2_with (first | (with_reducible refine wpList_load_run (o := ⟨_, .load 33 _, _, _, _, none⟩) (ldUp _ K0.out) rfl _ rfl rfl ?_) | (with_reducible refine wpList_load_run_g (o := ⟨_, .load 33 _, _, _, _, some _⟩) (ldUp _ K0.out) (by with_unfolding_all rfl) _ rfl rfl ?_) | (with_reducible refine wpList_load_run (o := ⟨_, .load 33 _, _, _, _, none⟩) (ldUp _ K1.out) rfl _ rfl rfl ?_) | (with_reducible refine wpList_load_run_g (o := ⟨_, .load 33 _, _, _, _, some _⟩) (ldUp _ K1.out) (by with_unfolding_all rfl) _ rfl rfl ?_))
   (refine (nta.out _).mono ?_; rintro e w5 ⟨rfl, hN⟩; have N0 := Lib.hid (K0.out.below hN); have N1 := Lib.hid (K1.out.below hN); have HBn : Below w.heap.size w w5 := Below.on hN HB; clear hN HB K0 k0 f0 l0 m0 K1 k1 f1 l1 m1; have K0 := N0; clear N0; have K1 := N1; clear N1; have HB := HBn; clear HBn; (obtain ⟨k0, f0, l0, m0⟩ := K0.out.rl; obtain ⟨k1, f1, l1, m1⟩ := K1.out.rl))
   cases ta
   all_goals
    go_wp2_with fail
    go_meet
    case rel => exact ⟨by simp, K0.out, K1.out, HB⟩
 obtain ⟨rfl, hW⟩ := hcut
 have j0 := Lib.hid hW.1
 have j1 := Lib.hid hW.2.1
 have HBn := hW.2.2
 clear hW k0 f0 l0 m0 k1 f1 l1 m1 K0 K1 HB
 have K0 := j0; have K1 := j1; have HB := HBn
 clear j0 j1 HBn
 (obtain ⟨k0, f0, l0, m0⟩ := K0.out.rl; obtain ⟨k1, f1, l1, m1⟩ := K1.out.rl)
 by_cases h5 : (!ta && q5) = true
 ·as_aux_lemma =>
   have hR : R = decide (y < x) := by rw [hv.out, if_pos h5]
   replace hR := Lib.hid hR
   rw [h5]
   clear hv h5 e5 hq5
   go_wp2_with fail
   go_ret
   exact ⟨by rw [hR.out, ← e14.out]; rfl, HB⟩
 have hv2 := hv.out
 rw [if_neg h5] at hv2
 have h6 : (!ta && q5) = false := by simpa using h5
 rw [h6]
 replace hv := Lib.hid hv2
 clear hv2 h5 h6 e5
 go_upto_region 7 with fail
 obtain ⟨q7, hq7⟩ : ∃ q, (na != nb) = q := ⟨_, rfl⟩
 have dq7 : (na == nb) = !q7 := by rw [← hq7]; cases na <;> cases nb <;> rfl
 go_cut [35] (fun s35 wx => s35 = .bool q7 ∧ UuW w g a b wx)
 case first =>
  as_aux_lemma =>
   have hwf : ∀ f, Fence.wide.fn f := fun _ => trivial
   refine (wpIn_wide (n := 9)).1 ?_
   refine wpIn_round_held (fun w' => Below wc.heap.size wc w') (fun j => true) (by kernel_rfl) ?_
   have hS0 : (fun w' => Below wc.heap.size wc w') wc.drew := (Below.refl _ _).drew
   have KA100 := Lib.hid (K0.out.drew)
   have KA101 := Lib.hid (K1.out.drew)
   have HBt := HB.drew
   refine S_tk 0 (upV (a)) rfl hS0 (fun w' hw => exec_load rfl (by kernel_rfl) (ldUp (a) (K0.out.below hw))) ?_
   refine S_tk 2 (upV (b)) rfl hS0 (fun w' hw => exec_load rfl (by kernel_rfl) (ldUp (b) (K1.out.below hw))) ?_
   refine S_one 1 (by kernel_rfl) rfl (fun K hK => ?_)
   go_simp
   gi_wp2_with (gi_at_call 76; refine (callsIn_wide.2 (nna.out _)).mono ?_; rintro e wch1 ⟨rfl, hN⟩)
   replace KA100 := Lib.hid (KA100.out.below hN)
   replace KA101 := Lib.hid (KA101.out.below hN)
   replace HBt := Below.on hN HBt
   have hS1 : (fun w' => Below wc.heap.size wc w') wch1 := hS0.trans (hN.mono hS0.size)
   clear hS0
   have hS0 := hS1
   clear hS1
   clear hN
   refine ⟨(fun _ => hS0), ?_⟩
   refine S_one 3 (by kernel_rfl) rfl (fun K hK => ?_)
   go_simp
   gi_wp2_with (gi_at_call 76; refine (callsIn_wide.2 (nnb.out _)).mono ?_; rintro e wch2 ⟨rfl, hN⟩)
   replace KA100 := Lib.hid (KA100.out.below hN)
   replace KA101 := Lib.hid (KA101.out.below hN)
   replace HBt := Below.on hN HBt
   have hS1 : (fun w' => Below wc.heap.size wc w') wch2 := hS0.trans (hN.mono hS0.size)
   clear hS0
   have hS0 := hS1
   clear hS1
   clear hN
   refine ⟨(fun _ => hS0), ?_⟩
   refine S_tk 4 (.bool q7) rfl hS0 (fun w' hw => by go_simp) ?_
   refine ⟨by kernel_rfl, rfl, ?_⟩
   obtain ⟨WN, hWN⟩ : ∃ WN, wch2 = WN := ⟨_, rfl⟩
   rw [hWN] at KA100 KA101 HBt ⊢
   clear hWN hwf hS0 HB
   have HB := HBt
   clear HBt
   clear K0 k0 f0 l0 m0
   clear K1 k1 f1 l1 m1
   have K0 := KA100
   clear KA100
   have K1 := KA101
   clear KA101
   (obtain ⟨k0, f0, l0, m0⟩ := K0.out.rl; obtain ⟨k1, f1, l1, m1⟩ := K1.out.rl)
   go_wp2_with fail
   go_meet
   case rel => exact ⟨rfl, K0.out, K1.out, HB⟩
 obtain ⟨rfl, hW⟩ := hcut
 have j0 := Lib.hid hW.1
 have j1 := Lib.hid hW.2.1
 have HBn := hW.2.2
 clear hW k0 f0 l0 m0 k1 f1 l1 m1 K0 K1 HB
 have K0 := j0; have K1 := j1; have HB := HBn
 clear j0 j1 HBn
 (obtain ⟨k0, f0, l0, m0⟩ := K0.out.rl; obtain ⟨k1, f1, l1, m1⟩ := K1.out.rl)
 clear dq7
 by_cases h7 : na = nb
 rotate_left
 ·as_aux_lemma =>
   obtain rfl : q7 = true := by rw [← hq7]; simpa using h7
   have hR : R = na := by rw [hv.out, if_pos h7]
   replace hR := Lib.hid hR
   clear hv h7 hq7
   go_wp2_with (first | (with_reducible refine wpList_load_run (o := ⟨_, .load 33 _, _, _, _, none⟩) (ldUp _ K0.out) rfl _ rfl rfl ?_) | (with_reducible refine wpList_load_run_g (o := ⟨_, .load 33 _, _, _, _, some _⟩) (ldUp _ K0.out) (by with_unfolding_all rfl) _ rfl rfl ?_) | (with_reducible refine wpList_load_run (o := ⟨_, .load 33 _, _, _, _, none⟩) (ldUp _ K1.out) rfl _ rfl rfl ?_) | (with_reducible refine wpList_load_run_g (o := ⟨_, .load 33 _, _, _, _, some _⟩) (ldUp _ K1.out) (by with_unfolding_all rfl) _ rfl rfl ?_))
   (refine (nna.out _).mono ?_; rintro e w9 ⟨rfl, hN⟩; have N0 := Lib.hid (K0.out.below hN); have N1 := Lib.hid (K1.out.below hN); have HBn : Below w.heap.size w w9 := Below.on hN HB; clear hN HB K0 k0 f0 l0 m0 K1 k1 f1 l1 m1; have K0 := N0; clear N0; have K1 := N1; clear N1; have HB := HBn; clear HBn; (obtain ⟨k0, f0, l0, m0⟩ := K0.out.rl; obtain ⟨k1, f1, l1, m1⟩ := K1.out.rl))
   go_wp2_with fail
   go_ret
   exact ⟨by rw [hR.out]; rfl, HB⟩
 obtain rfl : q7 = false := by rw [← hq7]; simpa using h7
 have hv2 := hv.out
 rw [ifn h7] at hv2
 replace hv := Lib.hid hv2
 clear hv2 h7 hq7
 go_upto_region 9 with fail
 obtain ⟨q9, hq9⟩ : ∃ q, (fa != fb) = q := ⟨_, rfl⟩
 have dq9 : (fa == fb) = !q9 := by rw [← hq9]; cases fa <;> cases fb <;> rfl
 go_cut [42] (fun s42 wx => s42 = .bool q9 ∧ UuW w g a b wx)
 case first =>
  as_aux_lemma =>
   have hwf : ∀ f, Fence.wide.fn f := fun _ => trivial
   refine (wpIn_wide (n := 9)).1 ?_
   refine wpIn_round_held (fun w' => Below wc.heap.size wc w') (fun j => true) (by kernel_rfl) ?_
   have hS0 : (fun w' => Below wc.heap.size wc w') wc.drew := (Below.refl _ _).drew
   have KA100 := Lib.hid (K0.out.drew)
   have KA101 := Lib.hid (K1.out.drew)
   have HBt := HB.drew
   refine S_tk 0 (upV (a)) rfl hS0 (fun w' hw => exec_load rfl (by kernel_rfl) (ldUp (a) (K0.out.below hw))) ?_
   refine S_tk 2 (upV (b)) rfl hS0 (fun w' hw => exec_load rfl (by kernel_rfl) (ldUp (b) (K1.out.below hw))) ?_
   refine S_one 1 (by kernel_rfl) rfl (fun K hK => ?_)
   go_simp
   gi_wp2_with (gi_at_call 77; refine (callsIn_wide.2 (nfa.out _ (Below.on hS0 HB))).mono ?_; rintro e wch1 ⟨rfl, hN⟩)
   replace KA100 := Lib.hid (KA100.out.below hN)
   replace KA101 := Lib.hid (KA101.out.below hN)
   replace HBt := Below.on hN HBt
   have hS1 : (fun w' => Below wc.heap.size wc w') wch1 := hS0.trans (hN.mono hS0.size)
   clear hS0
   have hS0 := hS1
   clear hS1
   clear hN
   refine ⟨(fun _ => hS0), ?_⟩
   refine S_one 3 (by kernel_rfl) rfl (fun K hK => ?_)
   go_simp
   gi_wp2_with (gi_at_call 77; refine (callsIn_wide.2 (nfb.out _ (Below.on hS0 HB))).mono ?_; rintro e wch2 ⟨rfl, hN⟩)
   replace KA100 := Lib.hid (KA100.out.below hN)
   replace KA101 := Lib.hid (KA101.out.below hN)
   replace HBt := Below.on hN HBt
   have hS1 : (fun w' => Below wc.heap.size wc w') wch2 := hS0.trans (hN.mono hS0.size)
   clear hS0
   have hS0 := hS1
   clear hS1
   clear hN
   refine ⟨(fun _ => hS0), ?_⟩
   refine S_tk 4 (.bool q9) rfl hS0 (fun w' hw => by go_simp) ?_
   refine ⟨by kernel_rfl, rfl, ?_⟩
   obtain ⟨WN, hWN⟩ : ∃ WN, wch2 = WN := ⟨_, rfl⟩
   rw [hWN] at KA100 KA101 HBt ⊢
   clear hWN hwf hS0 HB
   have HB := HBt
   clear HBt
   clear K0 k0 f0 l0 m0
   clear K1 k1 f1 l1 m1
   have K0 := KA100
   clear KA100
   have K1 := KA101
   clear KA101
   (obtain ⟨k0, f0, l0, m0⟩ := K0.out.rl; obtain ⟨k1, f1, l1, m1⟩ := K1.out.rl)
   go_wp2_with fail
   go_meet
   case rel => exact ⟨rfl, K0.out, K1.out, HB⟩
 obtain ⟨rfl, hW⟩ := hcut
 have j0 := Lib.hid hW.1
 have j1 := Lib.hid hW.2.1
 have HBn := hW.2.2
 clear hW k0 f0 l0 m0 k1 f1 l1 m1 K0 K1 HB
 have K0 := j0; have K1 := j1; have HB := HBn
 clear j0 j1 HBn
 (obtain ⟨k0, f0, l0, m0⟩ := K0.out.rl; obtain ⟨k1, f1, l1, m1⟩ := K1.out.rl)
 clear dq9
 by_cases h9 : fa = fb
 rotate_left
 ·as_aux_lemma =>
   obtain rfl : q9 = true := by rw [← hq9]; simpa using h9
   have hR : R = fa := by rw [hv.out, if_pos h9]
   replace hR := Lib.hid hR
   clear hv h9 hq9
   go_wp2_with (first | (with_reducible refine wpList_load_run (o := ⟨_, .load 33 _, _, _, _, none⟩) (ldUp _ K0.out) rfl _ rfl rfl ?_) | (with_reducible refine wpList_load_run_g (o := ⟨_, .load 33 _, _, _, _, some _⟩) (ldUp _ K0.out) (by with_unfolding_all rfl) _ rfl rfl ?_) | (with_reducible refine wpList_load_run (o := ⟨_, .load 33 _, _, _, _, none⟩) (ldUp _ K1.out) rfl _ rfl rfl ?_) | (with_reducible refine wpList_load_run_g (o := ⟨_, .load 33 _, _, _, _, some _⟩) (ldUp _ K1.out) (by with_unfolding_all rfl) _ rfl rfl ?_))
   (refine (nfa.out _ HB).mono ?_; rintro e w9 ⟨rfl, hN⟩; have N0 := Lib.hid (K0.out.below hN); have N1 := Lib.hid (K1.out.below hN); have HBn : Below w.heap.size w w9 := Below.on hN HB; clear hN HB K0 k0 f0 l0 m0 K1 k1 f1 l1 m1; have K0 := N0; clear N0; have K1 := N1; clear N1; have HB := HBn; clear HBn; (obtain ⟨k0, f0, l0, m0⟩ := K0.out.rl; obtain ⟨k1, f1, l1, m1⟩ := K1.out.rl))
   go_wp2_with fail
   go_ret
   exact ⟨by rw [hR.out]; rfl, HB⟩
 obtain rfl : q9 = false := by rw [← hq9]; simpa using h9
 have hv2 := hv.out
 rw [ifn h9] at hv2
 replace hv := Lib.hid hv2
 clear hv2 h9 hq9
 go_upto_region 11 with fail
 obtain ⟨q11, hq11⟩ : ∃ q, (oa != ob) = q := ⟨_, rfl⟩
 have dq11 : (oa == ob) = !q11 := by rw [← hq11]; cases oa <;> cases ob <;> rfl
 go_cut [53] (fun s53 wx => s53 = .bool (fa && q11) ∧ UuW w g a b wx)
 case first =>
  cases fa with
  | false =>
   as_aux_lemma =>
    have hwf : ∀ f, Fence.wide.fn f := fun _ => trivial
    refine (wpIn_wide (n := 9)).1 ?_
    refine wpIn_round_held (fun w' => Below wc.heap.size wc w') (fun j => true) (by kernel_rfl) ?_
    have hS0 : (fun w' => Below wc.heap.size wc w') wc.drew := (Below.refl _ _).drew
    have KA100 := Lib.hid (K0.out.drew)
    have KA101 := Lib.hid (K1.out.drew)
    have HBt := HB.drew
    refine S_tk 0 (upV (a)) rfl hS0 (fun w' hw => exec_load rfl (by kernel_rfl) (ldUp (a) (K0.out.below hw))) ?_
    refine S_one 1 (by kernel_rfl) rfl (fun K hK => ?_)
    go_simp
    gi_wp2_with (gi_at_call 77; refine (callsIn_wide.2 (nfa.out _ (Below.on hS0 HB))).mono ?_; rintro e wch1 ⟨rfl, hN⟩)
    replace KA100 := Lib.hid (KA100.out.below hN)
    replace KA101 := Lib.hid (KA101.out.below hN)
    replace HBt := Below.on hN HBt
    have hS1 : (fun w' => Below wc.heap.size wc w') wch1 := hS0.trans (hN.mono hS0.size)
    clear hS0
    have hS0 := hS1
    clear hS1
    clear hN
    refine ⟨(fun _ => hS0), ?_⟩
    refine S_tk 2 (.bool false) rfl hS0 (fun w' hw => by go_simp) ?_
    refine S_skip (fun _ => trivial) 3 (by kernel_rfl) rfl (by kernel_rfl) (by kernel_rfl) (by kernel_rfl) (by kernel_rfl) (onlyN_panic _ _) hS0 (by kernel_rfl) ?_
    refine S_skip (fun _ => trivial) 4 (by kernel_rfl) rfl (by kernel_rfl) (by kernel_rfl) (by kernel_rfl) (by kernel_rfl) (onlyN_panic _ _) hS0 (by kernel_rfl) ?_
    refine S_skip (fun _ => trivial) 5 (by kernel_rfl) rfl (by kernel_rfl) (by kernel_rfl) (by kernel_rfl) (by kernel_rfl) (onlyN_panic _ _) hS0 (by kernel_rfl) ?_
    refine S_skip (fun _ => trivial) 6 (by kernel_rfl) rfl (by kernel_rfl) (by kernel_rfl) (by kernel_rfl) (by kernel_rfl) (onlyN_panic _ _) hS0 (by kernel_rfl) ?_
    refine S_skip (fun _ => trivial) 7 (by kernel_rfl) rfl (by kernel_rfl) (by kernel_rfl) (by kernel_rfl) (by kernel_rfl) (onlyN_panic _ _) hS0 (by kernel_rfl) ?_
    refine S_tk 8 (.bool false) rfl hS0 (fun w' hw => by go_simp) ?_
    refine ⟨by kernel_rfl, rfl, ?_⟩
    obtain ⟨WN, hWN⟩ : ∃ WN, wch1 = WN := ⟨_, rfl⟩
    rw [hWN] at KA100 KA101 HBt ⊢
    clear hWN hwf hS0 HB
    have HB := HBt
    clear HBt
    clear K0 k0 f0 l0 m0
    clear K1 k1 f1 l1 m1
    have K0 := KA100
    clear KA100
    have K1 := KA101
    clear KA101
    (obtain ⟨k0, f0, l0, m0⟩ := K0.out.rl; obtain ⟨k1, f1, l1, m1⟩ := K1.out.rl)
    go_wp2_with fail
    go_meet
    case rel => exact ⟨rfl, K0.out, K1.out, HB⟩
  | true =>
   as_aux_lemma =>
    have hwf : ∀ f, Fence.wide.fn f := fun _ => trivial
    refine (wpIn_wide (n := 9)).1 ?_
    refine wpIn_round_held (fun w' => Below wc.heap.size wc w') (fun j => true) (by kernel_rfl) ?_
    have hS0 : (fun w' => Below wc.heap.size wc w') wc.drew := (Below.refl _ _).drew
    have KA100 := Lib.hid (K0.out.drew)
    have KA101 := Lib.hid (K1.out.drew)
    have HBt := HB.drew
    refine S_tk 0 (upV (a)) rfl hS0 (fun w' hw => exec_load rfl (by kernel_rfl) (ldUp (a) (K0.out.below hw))) ?_
    refine S_one 1 (by kernel_rfl) rfl (fun K hK => ?_)
    go_simp
    gi_wp2_with (gi_at_call 77; refine (callsIn_wide.2 (nfa.out _ (Below.on hS0 HB))).mono ?_; rintro e wch1 ⟨rfl, hN⟩)
    replace KA100 := Lib.hid (KA100.out.below hN)
    replace KA101 := Lib.hid (KA101.out.below hN)
    replace HBt := Below.on hN HBt
    have hS1 : (fun w' => Below wc.heap.size wc w') wch1 := hS0.trans (hN.mono hS0.size)
    clear hS0
    have hS0 := hS1
    clear hS1
    clear hN
    refine ⟨(fun _ => hS0), ?_⟩
    refine S_tk 2 (.bool true) rfl hS0 (fun w' hw => by go_simp) ?_
    refine S_tk 3 (upV (a)) rfl hS0 (fun w' hw => exec_load rfl (by kernel_rfl) (ldUp (a) (K0.out.below hw))) ?_
    refine S_tk 5 (upV (b)) rfl hS0 (fun w' hw => exec_load rfl (by kernel_rfl) (ldUp (b) (K1.out.below hw))) ?_
    refine S_one 4 (by kernel_rfl) rfl (fun K hK => ?_)
    go_simp
    gi_wp2_with (gi_at_call 78; refine (callsIn_wide.2 (noa.out _)).mono ?_; rintro e wch2 ⟨rfl, hN⟩)
    replace KA100 := Lib.hid (KA100.out.below hN)
    replace KA101 := Lib.hid (KA101.out.below hN)
    replace HBt := Below.on hN HBt
    have hS1 : (fun w' => Below wc.heap.size wc w') wch2 := hS0.trans (hN.mono hS0.size)
    clear hS0
    have hS0 := hS1
    clear hS1
    clear hN
    refine ⟨(fun _ => hS0), ?_⟩
    refine S_one 6 (by kernel_rfl) rfl (fun K hK => ?_)
    go_simp
    gi_wp2_with (gi_at_call 78; refine (callsIn_wide.2 (nob.out _)).mono ?_; rintro e wch3 ⟨rfl, hN⟩)
    replace KA100 := Lib.hid (KA100.out.below hN)
    replace KA101 := Lib.hid (KA101.out.below hN)
    replace HBt := Below.on hN HBt
    have hS1 : (fun w' => Below wc.heap.size wc w') wch3 := hS0.trans (hN.mono hS0.size)
    clear hS0
    have hS0 := hS1
    clear hS1
    clear hN
    refine ⟨(fun _ => hS0), ?_⟩
    refine S_tk 7 (.bool q11) rfl hS0 (fun w' hw => by go_simp) ?_
    refine S_tk 8 (.bool q11) rfl hS0 (fun w' hw => by go_simp) ?_
    refine ⟨by kernel_rfl, rfl, ?_⟩
    obtain ⟨WN, hWN⟩ : ∃ WN, wch3 = WN := ⟨_, rfl⟩
    rw [hWN] at KA100 KA101 HBt ⊢
    clear hWN hwf hS0 HB
    have HB := HBt
    clear HBt
    clear K0 k0 f0 l0 m0
    clear K1 k1 f1 l1 m1
    have K0 := KA100
    clear KA100
    have K1 := KA101
    clear KA101
    (obtain ⟨k0, f0, l0, m0⟩ := K0.out.rl; obtain ⟨k1, f1, l1, m1⟩ := K1.out.rl)
    go_wp2_with fail
    go_meet
    case rel => exact ⟨rfl, K0.out, K1.out, HB⟩
 obtain ⟨rfl, hW⟩ := hcut
 have j0 := Lib.hid hW.1
 have j1 := Lib.hid hW.2.1
 have HBn := hW.2.2
 clear hW k0 f0 l0 m0 k1 f1 l1 m1 K0 K1 HB
 have K0 := j0; have K1 := j1; have HB := HBn
 clear j0 j1 HBn
 (obtain ⟨k0, f0, l0, m0⟩ := K0.out.rl; obtain ⟨k1, f1, l1, m1⟩ := K1.out.rl)
 clear dq11
 by_cases h11 : fa = true ∧ oa ≠ ob
 ·as_aux_lemma =>
   have hR : R = oa := by rw [hv.out, if_pos h11]
   obtain ⟨rfl, h12⟩ := h11
   obtain rfl : q11 = true := by rw [← hq11]; simpa using h12
   replace hR := Lib.hid hR
   clear hv h12 hq11
   go_wp2_with (first | (with_reducible refine wpList_load_run (o := ⟨_, .load 33 _, _, _, _, none⟩) (ldUp _ K0.out) rfl _ rfl rfl ?_) | (with_reducible refine wpList_load_run_g (o := ⟨_, .load 33 _, _, _, _, some _⟩) (ldUp _ K0.out) (by with_unfolding_all rfl) _ rfl rfl ?_) | (with_reducible refine wpList_load_run (o := ⟨_, .load 33 _, _, _, _, none⟩) (ldUp _ K1.out) rfl _ rfl rfl ?_) | (with_reducible refine wpList_load_run_g (o := ⟨_, .load 33 _, _, _, _, some _⟩) (ldUp _ K1.out) (by with_unfolding_all rfl) _ rfl rfl ?_))
   (refine (noa.out _).mono ?_; rintro e w9 ⟨rfl, hN⟩; have N0 := Lib.hid (K0.out.below hN); have N1 := Lib.hid (K1.out.below hN); have HBn : Below w.heap.size w w9 := Below.on hN HB; clear hN HB K0 k0 f0 l0 m0 K1 k1 f1 l1 m1; have K0 := N0; clear N0; have K1 := N1; clear N1; have HB := HBn; clear HBn; (obtain ⟨k0, f0, l0, m0⟩ := K0.out.rl; obtain ⟨k1, f1, l1, m1⟩ := K1.out.rl))
   go_wp2_with fail
   go_ret
   exact ⟨by rw [hR.out]; rfl, HB⟩
 have e12 : (fa && q11) = false := by rw [← hq11]; cases fa <;> simp_all
 have hv2 := hv.out
 rw [if_neg h11] at hv2
 rw [e12]
 replace hv := Lib.hid hv2
 clear hv2 h11 e12 hq11
 go_upto_region 13 with fail
 by_cases h13 : x = y
 ·as_aux_lemma =>
   have e13 : ((x : Int) != (y : Int)) = false := by simp; omega
   have hv2 := hv.out
   rw [ifn h13] at hv2
   replace hv := Lib.hid hv2
   clear hv2 h13 hq5
   have e17 : ((a.seen.b.slot : Int) != (b.seen.b.slot : Int)) = decide (a.seen.b.slot ≠ b.seen.b.slot) := by rw [Bool.eq_iff_iff]; simp; omega
   by_cases h17 : a.seen.b.slot = b.seen.b.slot
   ·have e18 : ((a.seen.b.slot : Int) != (b.seen.b.slot : Int)) = false := by rw [e17]; simpa using h17
    have e19 : decide ((a.slot : Int) < (b.slot : Int)) = decide (a.slot < b.slot) := decide_eq_decide.2 (by omega)
    have hR : R = decide (a.slot < b.slot) := by rw [hv.out]; simp [h17]
    replace hR := Lib.hid hR
    replace e19 := Lib.hid e19
    clear e17 h17 hv
    go_wp2_with fail
    go_ret
    exact ⟨by rw [hR.out, ← e19.out]; rfl, HB⟩
   ·have e18 : ((a.seen.b.slot : Int) != (b.seen.b.slot : Int)) = true := by rw [e17]; simpa using h17
    have e19 : decide ((a.seen.b.slot : Int) < (b.seen.b.slot : Int)) = decide (a.seen.b.slot < b.seen.b.slot) := decide_eq_decide.2 (by omega)
    have hR : R = decide (a.seen.b.slot < b.seen.b.slot) := by rw [hv.out, if_pos h17]
    replace hR := Lib.hid hR
    replace e19 := Lib.hid e19
    clear e17 h17 hv
    go_wp2_with fail
    go_ret
    exact ⟨by rw [hR.out, ← e19.out]; rfl, HB⟩
 ·as_aux_lemma =>
   have e13 : ((x : Int) != (y : Int)) = true := by simp; omega
   have hR : R = decide (y < x) := by rw [hv.out, if_pos h13]
   replace hR := Lib.hid hR
   clear hv h13 hq5
   go_wp2_with fail
   go_ret
   exact ⟨by rw [hR.out, ← e14.out]; rfl, HB⟩
end Go.Proofs.YtegaaccioppfjaaGreatDoor
end
section
namespace Go.Proofs.YtegaaccioppfjaaGreatDoor
open BigFrame Go.RowKit Go.Phx Go.Shelf
attribute [local go_sem] Oper.semAt_some

end Go.Proofs.YtegaaccioppfjaaGreatDoor
end
section
namespace Go.Proofs.YtegaaccioppfjaaGreatDoor
open BigFrame Go.RowKit Go.Phx Go.Shelf
attribute [local go_sem] Oper.semAt_some

end Go.Proofs.YtegaaccioppfjaaGreatDoor
end
section
namespace Go.Proofs.YtegaaccioppfjaaGreatDoor
open BigFrame Go.RowKit Go.Phx Go.Shelf
attribute [local go_sem] Oper.semAt_some

end Go.Proofs.YtegaaccioppfjaaGreatDoor
end
