/- What the later texts stand on (Lgt9): plain laws and walks, each by its own conditions. -/
import Derived.Test.YtegaaccioppfjaaGreatDoorFr21
import Derived.Test.YtegaaccioppfjaaGreatDoorFr18
import Derived.Laws.Tables
set_option linter.unusedSimpArgs false
set_option linter.unusedVariables false
section
namespace Go.Proofs.YtegaaccioppfjaaGreatDoor
open BigFrame Go.RowKit Go.Phx Go.Shelf
attribute [local go_sem] Oper.semAt_some

def beginS (root : Bytes) (b : Bt) : Sr := if beginE root b = 0 then beginP b else Sr.zero
theorem cmRoot_len (c : Cm) : (cmRoot c).length ≤ 1048576 := by
 unfold cmRoot
 split
 ·rw [sha_len]; decide
 ·simp
theorem build_begin (l1 l2 : Lt) (c : Cm) (w : World) : (Instr.build 35 #[(0, ltV l1), (1, ltV l2), (2, cmV c)]).run Tryz.prog w = .ok (srV { Sr.zero with fin := l1, new := l2, now := c }) w :=
 run_build w _ _ (srA { Sr.zero with fin := l1, new := l2, now := c }) (by kernel_rfl)
/-- a struct built, by its run -/
theorem wpList_build_run {P : Program} {ops : Array Oper} {rest : List Oper} {o : Oper} {a : Act} {w : World} {Q : Exit → Act → World → Prop} {t : TypeId} {parts : Array (Nat × Value)} {v : Value} (hr : (Instr.build t parts).run P w = .ok v w) (hgd : o.guard = none) (ps : Array (Nat × Operand)) (ho : o.op = .build t ps) (hx : (ps.map fun (q : Nat × Operand) => (q.1, a.eval q.2)) = parts) (h : wpList P ops Q rest (a.put o.dst v) w) : wpList P ops Q (o :: rest) a w := by
 refine wpList_plain hgd fun K hK => ?_
 unfold Oper.wp execOp
 subst hx
 simp only [ho, Sem.run_bind, hr, Result.andThen_ok, Sem.run_pure]
 exact hK _ _ h
set_option maxRecDepth 100000 in
set_option maxHeartbeats 4000000 in
theorem begin_calls (root : Bytes) (b : Bt) (w : World) (hk : HasK w) (hb : BtIn w b) : Calls Tryz.prog 25 #[.string (bs root), btV b] w (Ret w (.tuple #[srV (beginS root b), .int .i64 (beginE root b)])) := by
 have n1 := fun W (hB : Below w.heap.size w W) => croot_calls b.now W (hk.on hB) (hb.2.1.below hB)
 have n2 := fun W (hB : Below w.heap.size w W) => hroot_calls b.lt.b W (hk.on hB) (hb.1.1.below hB)
 have n3 := fun W (hB : Below w.heap.size w W) => lholds_calls b.lt W (hk.on hB) (hb.1.below hB)
 have n4 := fun W (hB : Below w.heap.size w W) => under_calls (cmRoot b.now) b.br 4 b.lt.b.state W (hk.on hB) (cmRoot_len b.now) hb.1.1.2.2.2.1 (by decide) (hb.2.2.below hB)
 have hE : beginE root b = if cmOk b.now && holdsP b.lt then if hdRoot b.lt.b = root then if underP (cmRoot b.now) b.br.l 4 b.lt.b.state then 0 else 145 else 140 else 130 := rfl
 have hS : beginS root b = if beginE root b = 0 then beginP b else Sr.zero := rfl
 unfold cmE at n1
 unfold rwV at n4
 generalize beginE root b = E at *
 generalize beginS root b = S at *
 generalize cmRoot b.now = cr at *
 generalize cmOk b.now = r1 at *
 generalize hdRoot b.lt.b = hr at *
 generalize hdE b.lt.b = he at *
 generalize holdsP b.lt = r3 at *
 generalize underP cr b.br.l 4 b.lt.b.state = r4 at *
 replace hE := Lib.hid hE
 replace hS := Lib.hid hS
 replace n2 := Lib.hid n2
 replace n3 := Lib.hid n3
 replace n4 := Lib.hid n4
 clear hb hk
 have K0 := (Blk.new0 w 45 (btA b)).alloc (.cells (srA Sr.zero) 35)
 have K1 := Blk.new1 w (.cells (btA b) 45) 35 (srA Sr.zero)
 have HB : Below w.heap.size w ((w.alloc (.cells (btA b) 45)).alloc (.cells (srA Sr.zero) 35)) := bel
 cases r1 with
 | false =>
  rw [if_neg (by simp)] at n1
  replace n1 := Lib.hid n1
  have hE2 : E = 130 := by rw [hE.out]; rfl
  have hS2 : S = Sr.zero := by rw [hS.out, hE2]; rfl
  replace hE2 := Lib.hid hE2
  replace hS2 := Lib.hid hS2
  go_enter Tryz.func25, Tryz.ntmps25
  go_upto_region 1 with fail
  obtain ⟨W, hW⟩ : ∃ W, ((w.alloc (.cells (btA b) 45)).alloc (.cells (srA Sr.zero) 35)) = W := ⟨_, rfl⟩
  rw [hW] at K0 K1 HB ⊢
  clear hW
  have hgl : w.heap.size ≤ w.heap.size := Nat.le_refl _
  obtain ⟨g, hg⟩ : ∃ g, w.heap.size = g := ⟨_, rfl⟩
  rw [hg] at K0 K1 ⊢
  replace hgl : w.heap.size ≤ g := by omega
  clear hg
  replace K0 := Lib.hid K0
  replace K1 := Lib.hid K1
  (obtain ⟨k0, f0, l0, m0⟩ := K0.out.rl; obtain ⟨k1, f1, l1, m1⟩ := K1.out.rl)
  go_wp2_with fail
  (refine (n1.out _ HB).mono ?_; rintro e w1 ⟨rfl, hN⟩; have N0 := Lib.hid (K0.out.below hN); have N1 := Lib.hid (K1.out.below hN); have HBn : Below w.heap.size w w1 := Below.on hN HB; clear hN HB K0 k0 f0 l0 m0 K1 k1 f1 l1 m1; have K0 := N0; clear N0; have K1 := N1; clear N1; have HB := HBn; clear HBn; (obtain ⟨k0, f0, l0, m0⟩ := K0.out.rl; obtain ⟨k1, f1, l1, m1⟩ := K1.out.rl))
  go_wp2_with fail
  (refine (n2.out _ HB).mono ?_; rintro e w2 ⟨rfl, hN⟩; have N0 := Lib.hid (K0.out.below hN); have N1 := Lib.hid (K1.out.below hN); have HBn : Below w.heap.size w w2 := Below.on hN HB; clear hN HB K0 k0 f0 l0 m0 K1 k1 f1 l1 m1; have K0 := N0; clear N0; have K1 := N1; clear N1; have HB := HBn; clear HBn; (obtain ⟨k0, f0, l0, m0⟩ := K0.out.rl; obtain ⟨k1, f1, l1, m1⟩ := K1.out.rl))
  (go_wp2_with (first | (with_reducible refine wpList_store_halt (o := ⟨_, .store 35 _ _, _, _, _, none⟩) (stSr _ K1.out (Sr.zero)) rfl _ _ rfl rfl rfl ?_)); generalize hWN : setRow _ _ _ _ = WN; have N1 := Lib.hid (show Blk WN _ _ _ by rw [← hWN]; exact Blk.row K1.out.lt); have N0 := Lib.hid (show Blk WN _ _ _ by rw [← hWN]; exact Blk.rowOver (by omega) K0.out); have HBn : Below w.heap.size w WN := (by rw [← hWN]; exact Below.row HB (by omega) HB.size); clear hWN HB K1 k1 f1 l1 m1 K0 k0 f0 l0 m0; have K1 := N1; clear N1; have K0 := N0; clear N0; have HB := HBn; clear HBn; (obtain ⟨k1, f1, l1, m1⟩ := K1.out.rl; obtain ⟨k0, f0, l0, m0⟩ := K0.out.rl); unfold Halted)
  go_wp2_with fail
  exact bodyPost_ret (results_cell2 rfl rfl (ldSr _ K1.out)) rfl ⟨by rw [hS2.out, hE2.out]; rfl, HB⟩
 | true =>
  rw [if_pos rfl] at n1
  replace n1 := Lib.hid n1
  go_enter Tryz.func25, Tryz.ntmps25
  go_upto_region 1 with fail
  obtain ⟨W, hW⟩ : ∃ W, ((w.alloc (.cells (btA b) 45)).alloc (.cells (srA Sr.zero) 35)) = W := ⟨_, rfl⟩
  rw [hW] at K0 K1 HB ⊢
  clear hW
  have hgl : w.heap.size ≤ w.heap.size := Nat.le_refl _
  obtain ⟨g, hg⟩ : ∃ g, w.heap.size = g := ⟨_, rfl⟩
  rw [hg] at K0 K1 ⊢
  replace hgl : w.heap.size ≤ g := by omega
  clear hg
  replace K0 := Lib.hid K0
  replace K1 := Lib.hid K1
  (obtain ⟨k0, f0, l0, m0⟩ := K0.out.rl; obtain ⟨k1, f1, l1, m1⟩ := K1.out.rl)
  go_wp2_with fail
  (refine (n1.out _ HB).mono ?_; rintro e w1 ⟨rfl, hN⟩; have N0 := Lib.hid (K0.out.below hN); have N1 := Lib.hid (K1.out.below hN); have HBn : Below w.heap.size w w1 := Below.on hN HB; clear hN HB K0 k0 f0 l0 m0 K1 k1 f1 l1 m1; have K0 := N0; clear N0; have K1 := N1; clear N1; have HB := HBn; clear HBn; (obtain ⟨k0, f0, l0, m0⟩ := K0.out.rl; obtain ⟨k1, f1, l1, m1⟩ := K1.out.rl))
  go_wp2_with fail
  (refine (n2.out _ HB).mono ?_; rintro e w2 ⟨rfl, hN⟩; have N0 := Lib.hid (K0.out.below hN); have N1 := Lib.hid (K1.out.below hN); have HBn : Below w.heap.size w w2 := Below.on hN HB; clear hN HB K0 k0 f0 l0 m0 K1 k1 f1 l1 m1; have K0 := N0; clear N0; have K1 := N1; clear N1; have HB := HBn; clear HBn; (obtain ⟨k0, f0, l0, m0⟩ := K0.out.rl; obtain ⟨k1, f1, l1, m1⟩ := K1.out.rl))
  go_wp2_with fail
  (refine (n3.out _ HB).mono ?_; rintro e w3 ⟨rfl, hN⟩; have N0 := Lib.hid (K0.out.below hN); have N1 := Lib.hid (K1.out.below hN); have HBn : Below w.heap.size w w3 := Below.on hN HB; clear hN HB K0 k0 f0 l0 m0 K1 k1 f1 l1 m1; have K0 := N0; clear N0; have K1 := N1; clear N1; have HB := HBn; clear HBn; (obtain ⟨k0, f0, l0, m0⟩ := K0.out.rl; obtain ⟨k1, f1, l1, m1⟩ := K1.out.rl))
  cases r3 with
  | false =>
   have hE2 : E = 130 := by rw [hE.out]; rfl
   have hS2 : S = Sr.zero := by rw [hS.out, hE2]; rfl
   replace hE2 := Lib.hid hE2
   replace hS2 := Lib.hid hS2
   (go_wp2_with (first | (with_reducible refine wpList_store_halt (o := ⟨_, .store 35 _ _, _, _, _, none⟩) (stSr _ K1.out (Sr.zero)) rfl _ _ rfl rfl rfl ?_)); generalize hWN : setRow _ _ _ _ = WN; have N1 := Lib.hid (show Blk WN _ _ _ by rw [← hWN]; exact Blk.row K1.out.lt); have N0 := Lib.hid (show Blk WN _ _ _ by rw [← hWN]; exact Blk.rowOver (by omega) K0.out); have HBn : Below w.heap.size w WN := (by rw [← hWN]; exact Below.row HB (by omega) HB.size); clear hWN HB K1 k1 f1 l1 m1 K0 k0 f0 l0 m0; have K1 := N1; clear N1; have K0 := N0; clear N0; have HB := HBn; clear HBn; (obtain ⟨k1, f1, l1, m1⟩ := K1.out.rl; obtain ⟨k0, f0, l0, m0⟩ := K0.out.rl); unfold Halted)
   go_wp2_with fail
   exact bodyPost_ret (results_cell2 rfl rfl (ldSr _ K1.out)) rfl ⟨by rw [hS2.out, hE2.out]; rfl, HB⟩
  | true =>
   by_cases hrr : hr = root
   ·subst hrr
    go_wp2_with fail
    (refine (n4.out _ HB).mono ?_; rintro e w4 ⟨rfl, hN⟩; have N0 := Lib.hid (K0.out.below hN); have N1 := Lib.hid (K1.out.below hN); have HBn : Below w.heap.size w w4 := Below.on hN HB; clear hN HB K0 k0 f0 l0 m0 K1 k1 f1 l1 m1; have K0 := N0; clear N0; have K1 := N1; clear N1; have HB := HBn; clear HBn; (obtain ⟨k0, f0, l0, m0⟩ := K0.out.rl; obtain ⟨k1, f1, l1, m1⟩ := K1.out.rl))
    cases r4 with
    | false =>
     have hE2 : E = 145 := by rw [hE.out]; simp
     have hS2 : S = Sr.zero := by rw [hS.out, hE2]; rfl
     replace hE2 := Lib.hid hE2
     replace hS2 := Lib.hid hS2
     (go_wp2_with (first | (with_reducible refine wpList_store_halt (o := ⟨_, .store 35 _ _, _, _, _, none⟩) (stSr _ K1.out (Sr.zero)) rfl _ _ rfl rfl rfl ?_)); generalize hWN : setRow _ _ _ _ = WN; have N1 := Lib.hid (show Blk WN _ _ _ by rw [← hWN]; exact Blk.row K1.out.lt); have N0 := Lib.hid (show Blk WN _ _ _ by rw [← hWN]; exact Blk.rowOver (by omega) K0.out); have HBn : Below w.heap.size w WN := (by rw [← hWN]; exact Below.row HB (by omega) HB.size); clear hWN HB K1 k1 f1 l1 m1 K0 k0 f0 l0 m0; have K1 := N1; clear N1; have K0 := N0; clear N0; have HB := HBn; clear HBn; (obtain ⟨k1, f1, l1, m1⟩ := K1.out.rl; obtain ⟨k0, f0, l0, m0⟩ := K0.out.rl); unfold Halted)
     go_wp2_with fail
     exact bodyPost_ret (results_cell2 rfl rfl (ldSr _ K1.out)) rfl ⟨by rw [hS2.out, hE2.out]; rfl, HB⟩
    | true =>
     have hE2 : E = 0 := by rw [hE.out]; simp
     have hS2 : S = beginP b := by rw [hS.out, hE2]; rfl
     replace hE2 := Lib.hid hE2
     replace hS2 := Lib.hid hS2
     go_upto_region 9 with fail
     go_wp2_with (first | (with_reducible refine wpList_build_run (o := ⟨_, .build 35 _, _, _, _, none⟩) (build_begin b.lt b.lt b.now _) rfl _ rfl (by with_unfolding_all rfl) ?_) | (with_reducible refine wpList_store_halt (o := ⟨_, .store 35 _ _, _, _, _, none⟩) (stSr _ K1.out { Sr.zero with fin := b.lt, new := b.lt, now := b.now }) rfl _ _ rfl rfl rfl ?_))
     generalize hWN : setRow _ _ _ _ = WN
     have N1 := Lib.hid (show Blk WN (g + 1) 35 (srA { Sr.zero with fin := b.lt, new := b.lt, now := b.now }) by rw [← hWN]; exact Blk.row K1.out.lt)
     have HBn : Below w.heap.size w WN := by rw [← hWN]; exact Below.row HB (by omega) HB.size
     clear hWN
     unfold Halted
     go_wp2_with fail
     exact bodyPost_ret (results_cell2 rfl rfl (ldSr _ N1.out)) rfl ⟨by rw [hS2.out, hE2.out]; rfl, HBn⟩
   ·have e5 : (hr == root) = false := by simpa using hrr
    have e6 : (hr != root) = true := by simpa using hrr
    have hE2 : E = 140 := by rw [hE.out]; simp [hrr]
    have hS2 : S = Sr.zero := by rw [hS.out, hE2]; rfl
    replace hE2 := Lib.hid hE2
    replace hS2 := Lib.hid hS2
    clear hrr
    (go_wp2_with (first | (with_reducible refine wpList_store_halt (o := ⟨_, .store 35 _ _, _, _, _, none⟩) (stSr _ K1.out (Sr.zero)) rfl _ _ rfl rfl rfl ?_)); generalize hWN : setRow _ _ _ _ = WN; have N1 := Lib.hid (show Blk WN _ _ _ by rw [← hWN]; exact Blk.row K1.out.lt); have N0 := Lib.hid (show Blk WN _ _ _ by rw [← hWN]; exact Blk.rowOver (by omega) K0.out); have HBn : Below w.heap.size w WN := (by rw [← hWN]; exact Below.row HB (by omega) HB.size); clear hWN HB K1 k1 f1 l1 m1 K0 k0 f0 l0 m0; have K1 := N1; clear N1; have K0 := N0; clear N0; have HB := HBn; clear HBn; (obtain ⟨k1, f1, l1, m1⟩ := K1.out.rl; obtain ⟨k0, f0, l0, m0⟩ := K0.out.rl); unfold Halted)
    go_wp2_with fail
    exact bodyPost_ret (results_cell2 rfl rfl (ldSr _ K1.out)) rfl ⟨by rw [hS2.out, hE2.out]; rfl, HB⟩
end Go.Proofs.YtegaaccioppfjaaGreatDoor
end
