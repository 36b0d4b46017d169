/- What the later texts stand on (Lgt4, Lgt3, Lgt5, Lgt6): plain laws and walks, each by its own conditions. -/
import Derived.Test.YtegaaccioppfjaaGreatDoorFr18
import Derived.Test.YtegaaccioppfjaaGreatDoorFr11
import Derived.Test.YtegaaccioppfjaaGreatDoorFr10
import Derived.Test.YtegaaccioppfjaaGreatDoorFr16
import Derived.Test.YtegaaccioppfjaaGreatDoorFr17
import Derived.Deep.CutBlock
import Derived.Deep.DeepCutAuto
set_option linter.unusedSimpArgs false
set_option linter.unusedVariables false
section
namespace Go.Proofs.YtegaaccioppfjaaGreatDoor
open BigFrame Go.RowKit Go.Phx Go.Shelf
attribute [local go_sem] Oper.semAt_some

set_option maxRecDepth 100000 in
theorem under_calls (root : Bytes) (br : Rw) (leaf : Nat) (state : Bytes) (w : World) (hk : HasK w) (hr : root.length ≤ 1048576) (hs : state.length ≤ 1048576) (hl : leaf < 18446744073709551616) (hb : RwIn w br) :
  Calls Tryz.prog 69 #[.string (bs root), rwV br, .int .u64 leaf, .string (bs state)] w (Ret w (.bool (underP root br.l leaf state))) := by
 have n1 := check_calls root br.addr br.cap br.l leaf state (by omega) (by omega) (by have := hb.2.2.1; omega) hl (fun y hy => by have := hb.2.2.2 y hy; omega) w hk hb.1
 unfold underP
 unfold rwV
 generalize decide (CheckP root br.l leaf state) = r at *
 by_cases he : br.l.length = 3
 ·have e1 : ((br.l.length : Int) == 3) = true := by rw [he]; rfl
  rw [decide_eq_true he]
  replace n1 := Lib.hid n1
  clear he hb hk
  go_enter Tryz.func69, Tryz.ntmps69
  go_wp2_with fail
  refine n1.out.mono ?_
  rintro e w1 ⟨rfl, h1⟩
  go_wp2_with fail
  go_ret
  exact ⟨rfl, h1⟩
 ·have e1 : ((br.l.length : Int) == 3) = false := by simp; omega
  rw [decide_eq_false he]
  replace n1 := Lib.hid n1
  clear he hb hk
  go_enter Tryz.func69, Tryz.ntmps69
  go_wp2_with fail
  go_ret
  exact ⟨rfl, Below.refl _ _⟩
end Go.Proofs.YtegaaccioppfjaaGreatDoor
end
section
namespace Go.Proofs.YtegaaccioppfjaaGreatDoor
open BigFrame Go.RowKit Go.Phx Go.Shelf
attribute [local go_sem] Oper.semAt_some

theorem period_q (n : Nat) (hn : n < 18446744073709551616) (w : World) : Calls Tryz.prog 82 #[.int .u64 n] w (fun e w' => e = .returned (.int .u64 (period n : Nat)) ∧ w = w') :=
 (period_calls n hn w).mono fun e w' h => ⟨h.1, h.2.symm⟩
/-- the three variables of take, somewhere on its way -/
def TkW (w : World) (g : Nat) (s : Sr) (u : Up) (wx : World) : Prop := Blk wx g 35 (srA s) ∧ Blk wx (g + 1) 33 (upA u) ∧ Blk wx (g + 1 + 1) 35 (srA Sr.zero) ∧ Below w.heap.size w wx
theorem TkW.mk {w wx : World} {g : Nat} {s s' : Sr} {u : Up} (e : s' = s) (h0 : Blk wx g 35 (srA s')) (h1 : Blk wx (g + 1) 33 (upA u)) (h2 : Blk wx (g + 1 + 1) 35 (srA Sr.zero)) (hB : Below w.heap.size w wx) : TkW w g s u wx := by
 subst e
 exact ⟨h0, h1, h2, hB⟩
set_option maxRecDepth 100000 in
set_option maxHeartbeats 4000000 in
theorem lgtake_calls (s : Sr) (u : Up) (h1 : s.fin.b.slot < 18446744073709551616) (h2 : u.fin.b.slot < 18446744073709551616) (w : World) : Calls Tryz.prog 67 #[srV s, upV u] w (Ret w (srV (clearP (takeP s u)))) := by
 have ht1 : ∀ r b : Bool, knownP s.next = r → decide (period s.fin.b.slot = period u.fin.b.slot) = b → r = false → takeP1 s u = if b then { s with next := u.next } else s := fun r b e1 e2 e3 => by
  unfold takeP1
  rw [e1, e3, ← e2]
  simp
 have ht2 : ∀ r b : Bool, knownP s.next = r → decide (period s.fin.b.slot + 1 = period u.fin.b.slot) = b → r = true → takeP1 s u = if b then { s with now := s.next, next := u.next, last := s.this, this := 0 } else s := fun r b e1 e2 e3 => by
  unfold takeP1
  rw [e1, e3, ← e2]
  simp
 have hpl : period s.fin.b.slot < 18446744073709551615 := by unfold period; omega
 have hfin := take1_fin s u
 have hnew := take1_new s u
 obtain ⟨t, ht⟩ : ∃ t, takeP1 s u = t := ⟨_, rfl⟩
 have hfinal : takeP s u = takeP2 t u := by unfold takeP; rw [ht]
 rw [ht] at ht1 ht2 hfin hnew
 replace hfinal := Lib.hid hfinal
 replace ht := Lib.hid ht
 replace hfin := Lib.hid hfin
 replace hnew := Lib.hid hnew
 go_enter Tryz.func67, Tryz.ntmps67
 go_wp2_with fail
 have HB : Below w.heap.size w (((w.alloc (.cells (srA s) 35)).alloc (.cells (upA u) 33)).alloc (.cells (srA Sr.zero) 35)) := bel
 have K0 := ((Blk.new0 w 35 (srA s)).alloc (.cells (upA u) 33)).alloc (.cells (srA Sr.zero) 35)
 have K1 := (Blk.new1 w (.cells (srA s) 35) 33 (upA u)).alloc (.cells (srA Sr.zero) 35)
 have K2 := Blk.new2 w (.cells (srA s) 35) (.cells (upA u) 33) 35 (srA Sr.zero)
 obtain ⟨W, hW⟩ : ∃ W, (((w.alloc (.cells (srA s) 35)).alloc (.cells (upA u) 33)).alloc (.cells (srA Sr.zero) 35)) = W := ⟨_, rfl⟩
 rw [hW] at HB K0 K1 K2 ⊢
 clear hW
 have hgl : w.heap.size ≤ w.heap.size := Nat.le_refl _
 obtain ⟨g, hg⟩ : ∃ g, w.heap.size = g := ⟨_, rfl⟩
 rw [hg] at K0 K1 K2 ⊢
 replace hgl : w.heap.size ≤ g := by omega
 replace K0 := Lib.hid K0
 replace K1 := Lib.hid K1
 replace K2 := Lib.hid K2
 clear hg
 have n1 := fun W => period_q s.fin.b.slot h1 W
 have n2 := fun W => period_q u.fin.b.slot h2 W
 (obtain ⟨k0, f0, l0, m0⟩ := K0.out.rl; obtain ⟨k1, f1, l1, m1⟩ := K1.out.rl; obtain ⟨k2, f2, l2, m2⟩ := K2.out.rl)
 generalize period s.fin.b.slot = p1 at *
 generalize period u.fin.b.slot = p2 at *
 replace n1 := Lib.hid n1
 replace n2 := Lib.hid n2
 replace ht1 := Lib.hid ht1
 replace ht2 := Lib.hid ht2
 go_quiet ((first | (go_at_call 82; exact qs (n1.out _)) | (go_at_call 82; exact qs (n2.out _))))
 generalize hWN : W.drewN nq = W1
 have N0 := Lib.hid (show Blk W1 g _ _ by rw [← hWN]; exact K0.out.drewN _)
 have N1 := Lib.hid (show Blk W1 (g + 1) _ _ by rw [← hWN]; exact K1.out.drewN _)
 have N2 := Lib.hid (show Blk W1 (g + 1 + 1) _ _ by rw [← hWN]; exact K2.out.drewN _)
 have HBn : Below w.heap.size w W1 := by rw [← hWN]; exact bel
 clear hWN k0 f0 l0 m0 k1 f1 l1 m1 k2 f2 l2 m2 K0 K1 K2 HB n1 n2
 have K0 := N0; have K1 := N1; have K2 := N2; have HB := HBn
 clear N0 N1 N2 HBn
 (obtain ⟨k0, f0, l0, m0⟩ := K0.out.rl; obtain ⟨k1, f1, l1, m1⟩ := K1.out.rl; obtain ⟨k2, f2, l2, m2⟩ := K2.out.rl)
 have n3 := fun W => known_calls s.next W
 obtain ⟨r, hr⟩ : ∃ r, knownP s.next = r := ⟨_, rfl⟩
 have ht3 := Lib.hid (ht1.out r _ hr rfl)
 have ht4 := Lib.hid (ht2.out r _ hr rfl)
 rw [hr] at n3
 clear ht1 ht2 hr
 replace n3 := Lib.hid n3
 have hu := h2
 clear h1 h2
 go_upto_block 0 with fail
 go_cut [] (fun wx => TkW w g t u wx)
 case first =>
  go_wp2_with fail
  (refine (n3.out _).mono ?_; rintro e w2 ⟨rfl, hN⟩; have N0 := Lib.hid (K0.out.below hN); have N1 := Lib.hid (K1.out.below hN); have N2 := Lib.hid (K2.out.below hN); have HBn : Below w.heap.size w w2 := Below.on hN HB; clear hN HB K0 k0 f0 l0 m0 K1 k1 f1 l1 m1 K2 k2 f2 l2 m2; have K0 := N0; clear N0; have K1 := N1; clear N1; have K2 := N2; clear N2; have HB := HBn; clear HBn; (obtain ⟨k0, f0, l0, m0⟩ := K0.out.rl; obtain ⟨k1, f1, l1, m1⟩ := K1.out.rl; obtain ⟨k2, f2, l2, m2⟩ := K2.out.rl))
  cases r with
  | false =>
   have ht5 := ht3.out rfl
   clear ht3 ht4
   by_cases he : p1 = p2
   ·subst he
    rw [decide_eq_true rfl, if_pos rfl] at ht5
    replace ht5 := Lib.hid ht5
    (go_wp2_with (first | (with_reducible refine wpList_store_halt (o := ⟨_, .store 31 _ _, _, _, _, none⟩) (stSr_next _ K0.out (u.next)) rfl _ _ rfl rfl rfl ?_)); generalize hWN : setRow _ _ _ _ = WN; have N0 := Lib.hid (show Blk WN _ _ _ by rw [← hWN]; exact Blk.row K0.out.lt); have N1 := Lib.hid (show Blk WN _ _ _ by rw [← hWN]; exact Blk.rowOver (by omega) K1.out); have N2 := Lib.hid (show Blk WN _ _ _ by rw [← hWN]; exact Blk.rowOver (by omega) K2.out); have HBn : Below w.heap.size w WN := (by rw [← hWN]; exact Below.row HB (by omega) HB.size); clear hWN HB K0 k0 f0 l0 m0 K1 k1 f1 l1 m1 K2 k2 f2 l2 m2; have K0 := N0; clear N0; have K1 := N1; clear N1; have K2 := N2; clear N2; have HB := HBn; clear HBn; (obtain ⟨k0, f0, l0, m0⟩ := K0.out.rl; obtain ⟨k1, f1, l1, m1⟩ := K1.out.rl; obtain ⟨k2, f2, l2, m2⟩ := K2.out.rl); unfold Halted)
    go_wp2_with fail
    go_meet
    case rel => exact TkW.mk ht5.out.symm K0.out K1.out K2.out HB
   ·rw [decide_eq_false he, if_neg (by simp)] at ht5
    replace ht5 := Lib.hid ht5
    have he2 : ((p1 : Int) == (p2 : Int)) = false := by simp; omega
    clear he
    go_wp2_with fail
    (refine (n3.out _).mono ?_; rintro e w3 ⟨rfl, hN⟩; have N0 := Lib.hid (K0.out.below hN); have N1 := Lib.hid (K1.out.below hN); have N2 := Lib.hid (K2.out.below hN); have HBn : Below w.heap.size w w3 := Below.on hN HB; clear hN HB K0 k0 f0 l0 m0 K1 k1 f1 l1 m1 K2 k2 f2 l2 m2; have K0 := N0; clear N0; have K1 := N1; clear N1; have K2 := N2; clear N2; have HB := HBn; clear HBn; (obtain ⟨k0, f0, l0, m0⟩ := K0.out.rl; obtain ⟨k1, f1, l1, m1⟩ := K1.out.rl; obtain ⟨k2, f2, l2, m2⟩ := K2.out.rl))
    go_wp2_with fail
    go_meet
    case rel => exact TkW.mk ht5.out.symm K0.out K1.out K2.out HB
  | true =>
   have ht5 := ht4.out rfl
   clear ht3 ht4
   go_wp2_with fail
   (refine (n3.out _).mono ?_; rintro e w3 ⟨rfl, hN⟩; have N0 := Lib.hid (K0.out.below hN); have N1 := Lib.hid (K1.out.below hN); have N2 := Lib.hid (K2.out.below hN); have HBn : Below w.heap.size w w3 := Below.on hN HB; clear hN HB K0 k0 f0 l0 m0 K1 k1 f1 l1 m1 K2 k2 f2 l2 m2; have K0 := N0; clear N0; have K1 := N1; clear N1; have K2 := N2; clear N2; have HB := HBn; clear HBn; (obtain ⟨k0, f0, l0, m0⟩ := K0.out.rl; obtain ⟨k1, f1, l1, m1⟩ := K1.out.rl; obtain ⟨k2, f2, l2, m2⟩ := K2.out.rl))
   by_cases he : p1 + 1 = p2
   ·subst he
    rw [decide_eq_true rfl, if_pos rfl] at ht5
    replace ht5 := Lib.hid ht5
    go_wp2_with fail
    have hwf : ∀ f, Fence.wide.fn f := fun _ => trivial
    refine (wpIn_wide (n := 9)).1 ?_
    refine wpIn_round_held (fun w' => Blk w' (g + 1) 33 (upA u) ∧ w'.rangeAt g 20 (cmC s.next)) (fun j => !decide (j ∈ [7])) (by kernel_rfl) ?_
    have hS0 : (fun w' => Blk w' (g + 1) 33 (upA u) ∧ w'.rangeAt g 20 (cmC s.next)) w3.drew := ⟨K1.out.drew, Blk.part (K0.out.drew) (pre := ltC s.fin ++ ltC s.new ++ cmC s.now) (mid := cmC s.next) (post := upC s.best ++ [.bool s.has] ++ [.int .i64 s.last] ++ [.int .i64 s.this] ++ [.bool s.forced]) (by kernel_rfl) (by kernel_rfl)⟩
    refine S_tk 0 (.pointer (some ⟨g, 20, none⟩)) rfl hS0 (fun w' hw => by go_simp) ?_
    refine S_tk 1 (cmV s.next) rfl hS0 (fun w' hw => by exact exec_load rfl (by kernel_rfl) (run_loadAt_mid _ g 20 _ _ _ hw.2 Tryz.underlying31 rfl sizeCm)) ?_
    refine S_tk 2 (.pointer (some ⟨(g + 1), 9, none⟩)) rfl hS0 (fun w' hw => by go_simp) ?_
    refine S_tk 3 (cmV u.next) rfl hS0 (fun w' hw => by exact exec_load rfl (by kernel_rfl) (ldUp_next u hw.1)) ?_
    refine S_tk 4 (.pointer (some ⟨g, 18, none⟩)) rfl hS0 (fun w' hw => by go_simp) ?_
    have hS1 : (fun w' => Blk w' (g + 1) 33 (upA u) ∧ w'.rangeAt g 20 (cmC s.next)) (setRow w3.drew g 35 (srA { s with now := s.next })) := ⟨Blk.rowOver (by omega) K1.out.drew, Blk.part (Blk.row (w := w3.drew) K0.out.lt) (pre := ltC s.fin ++ ltC s.new ++ cmC s.next) (mid := cmC s.next) (post := upC s.best ++ [.bool s.has] ++ [.int .i64 s.last] ++ [.int .i64 s.this] ++ [.bool s.forced]) (by kernel_rfl) (by kernel_rfl)⟩
    clear hS0
    have hS0 := hS1
    clear hS1
    refine S_store 5 (fun _ => trivial) (by kernel_rfl) (by kernel_rfl) rfl (by kernel_rfl) (setRow w3.drew g 35 (srA { s with now := s.next })) (exec_store _ _ rfl (by kernel_rfl) (by kernel_rfl) (stSr_now s K0.out.drew s.next)) (fun _ => hS0) ?_
    refine S_tk 6 (.pointer (some ⟨g, 20, none⟩)) rfl hS0 (fun w' hw => by go_simp) ?_
    refine S_store 7 (fun _ => trivial) (by kernel_rfl) (by kernel_rfl) rfl (by kernel_rfl) (setRow (setRow w3.drew g 35 (srA { s with now := s.next })) g 35 (srA { s with now := s.next, next := u.next })) (exec_store _ _ rfl (by kernel_rfl) (by kernel_rfl) (stSr_next { s with now := s.next } (Blk.row (w := w3.drew) K0.out.lt) u.next)) (fun h => absurd h (by decide)) ?_
    refine ⟨by kernel_rfl, rfl, ?_⟩
    generalize hWN : setRow (setRow w3.drew _ _ _) _ _ _ = WN
    have N0 := Lib.hid (show Blk WN g 35 (srA { s with now := s.next, next := u.next }) by rw [← hWN]; exact Blk.row (by rw [size_row]; exact l0))
    have N1 := Lib.hid (show Blk WN (g + 1) _ _ by rw [← hWN]; exact Blk.rowOver (by omega) (Blk.rowOver (by omega) K1.out.drew))
    have N2 := Lib.hid (show Blk WN (g + 1 + 1) _ _ by rw [← hWN]; exact Blk.rowOver (by omega) (Blk.rowOver (by omega) K2.out.drew))
    have HBn : Below w.heap.size w WN := by rw [← hWN]; exact Below.row (Below.row HB.drew hgl HB.size) hgl (by rw [size_row]; exact HB.size)
    clear hS0 hWN hwf k0 f0 l0 m0 k1 f1 l1 m1 k2 f2 l2 m2 K0 K1 K2 HB
    have K0 := N0; have K1 := N1; have K2 := N2; have HB := HBn
    clear N0 N1 N2 HBn
    (obtain ⟨k0, f0, l0, m0⟩ := K0.out.rl; obtain ⟨k1, f1, l1, m1⟩ := K1.out.rl; obtain ⟨k2, f2, l2, m2⟩ := K2.out.rl)
    (go_wp2_with (first | (with_reducible refine wpList_store_halt (o := ⟨_, .store 3 _ _, _, _, _, none⟩) (stcSr_last _ K0.out (s.this)) rfl _ _ rfl rfl rfl ?_)); generalize hWN : setRow _ _ _ _ = WN; have N0 := Lib.hid (show Blk WN _ _ _ by rw [← hWN]; exact Blk.row K0.out.lt); have N1 := Lib.hid (show Blk WN _ _ _ by rw [← hWN]; exact Blk.rowOver (by omega) K1.out); have N2 := Lib.hid (show Blk WN _ _ _ by rw [← hWN]; exact Blk.rowOver (by omega) K2.out); have HBn : Below w.heap.size w WN := (by rw [← hWN]; exact Below.row HB (by omega) HB.size); clear hWN HB K0 k0 f0 l0 m0 K1 k1 f1 l1 m1 K2 k2 f2 l2 m2; have K0 := N0; clear N0; have K1 := N1; clear N1; have K2 := N2; clear N2; have HB := HBn; clear HBn; (obtain ⟨k0, f0, l0, m0⟩ := K0.out.rl; obtain ⟨k1, f1, l1, m1⟩ := K1.out.rl; obtain ⟨k2, f2, l2, m2⟩ := K2.out.rl); unfold Halted)
    (go_wp2_with (first | (with_reducible refine wpList_store_halt (o := ⟨_, .store 3 _ _, _, _, _, none⟩) (stcSr_this _ K0.out (0)) rfl _ _ rfl rfl rfl ?_)); generalize hWN : setRow _ _ _ _ = WN; have N0 := Lib.hid (show Blk WN _ _ _ by rw [← hWN]; exact Blk.row K0.out.lt); have N1 := Lib.hid (show Blk WN _ _ _ by rw [← hWN]; exact Blk.rowOver (by omega) K1.out); have N2 := Lib.hid (show Blk WN _ _ _ by rw [← hWN]; exact Blk.rowOver (by omega) K2.out); have HBn : Below w.heap.size w WN := (by rw [← hWN]; exact Below.row HB (by omega) HB.size); clear hWN HB K0 k0 f0 l0 m0 K1 k1 f1 l1 m1 K2 k2 f2 l2 m2; have K0 := N0; clear N0; have K1 := N1; clear N1; have K2 := N2; clear N2; have HB := HBn; clear HBn; (obtain ⟨k0, f0, l0, m0⟩ := K0.out.rl; obtain ⟨k1, f1, l1, m1⟩ := K1.out.rl; obtain ⟨k2, f2, l2, m2⟩ := K2.out.rl); unfold Halted)
    go_wp2_with fail
    go_meet
    case rel => exact TkW.mk ht5.out.symm K0.out K1.out K2.out HB
   ·rw [decide_eq_false he, if_neg (by simp)] at ht5
    replace ht5 := Lib.hid ht5
    have he2 : ((p1 : Int) + 1 == (p2 : Int)) = false := by simp; omega
    clear he
    go_wp2_with fail
    go_meet
    case rel => exact TkW.mk ht5.out.symm K0.out K1.out K2.out HB
 case rest =>
  obtain ⟨j0, j1, j2, HBn⟩ := hcut
  replace j0 := Lib.hid j0
  replace j1 := Lib.hid j1
  replace j2 := Lib.hid j2
  clear k0 f0 l0 m0 k1 f1 l1 m1 k2 f2 l2 m2 K0 K1 K2 HB n3 ht3 ht4
  have K0 := j0; have K1 := j1; have K2 := j2; have HB := HBn
  clear j0 j1 j2 HBn
  (obtain ⟨k0, f0, l0, m0⟩ := K0.out.rl; obtain ⟨k1, f1, l1, m1⟩ := K1.out.rl; obtain ⟨k2, f2, l2, m2⟩ := K2.out.rl)
  by_cases hf : t.fin.b.slot < u.fin.b.slot
  ·have hf2 : (t.fin.b.slot : Int) < (u.fin.b.slot : Int) := by omega
   by_cases hn : t.new.b.slot < u.fin.b.slot
   ·have e2 := Lib.hid (show takeP2 t u = { t with fin := u.fin, new := u.fin } by unfold takeP2; rw [if_pos hf, if_pos hn])
    have hn2 : (t.new.b.slot : Int) < (u.fin.b.slot : Int) := by omega
    clear hf hn
    (go_wp2_with (first | (with_reducible refine wpList_store_halt (o := ⟨_, .store 29 _ _, _, _, _, none⟩) (stSr_fin _ K0.out (u.fin)) rfl _ _ rfl rfl rfl ?_)); generalize hWN : setRow _ _ _ _ = WN; have N0 := Lib.hid (show Blk WN _ _ _ by rw [← hWN]; exact Blk.row K0.out.lt); have N1 := Lib.hid (show Blk WN _ _ _ by rw [← hWN]; exact Blk.rowOver (by omega) K1.out); have N2 := Lib.hid (show Blk WN _ _ _ by rw [← hWN]; exact Blk.rowOver (by omega) K2.out); have HBn : Below w.heap.size w WN := (by rw [← hWN]; exact Below.row HB (by omega) HB.size); clear hWN HB K0 k0 f0 l0 m0 K1 k1 f1 l1 m1 K2 k2 f2 l2 m2; have K0 := N0; clear N0; have K1 := N1; clear N1; have K2 := N2; clear N2; have HB := HBn; clear HBn; (obtain ⟨k0, f0, l0, m0⟩ := K0.out.rl; obtain ⟨k1, f1, l1, m1⟩ := K1.out.rl; obtain ⟨k2, f2, l2, m2⟩ := K2.out.rl); unfold Halted)
    (go_wp2_with (first | (with_reducible refine wpList_store_halt (o := ⟨_, .store 29 _ _, _, _, _, none⟩) (stSr_new _ K0.out (u.fin)) rfl _ _ rfl rfl rfl ?_)); generalize hWN : setRow _ _ _ _ = WN; have N0 := Lib.hid (show Blk WN _ _ _ by rw [← hWN]; exact Blk.row K0.out.lt); have N1 := Lib.hid (show Blk WN _ _ _ by rw [← hWN]; exact Blk.rowOver (by omega) K1.out); have N2 := Lib.hid (show Blk WN _ _ _ by rw [← hWN]; exact Blk.rowOver (by omega) K2.out); have HBn : Below w.heap.size w WN := (by rw [← hWN]; exact Below.row HB (by omega) HB.size); clear hWN HB K0 k0 f0 l0 m0 K1 k1 f1 l1 m1 K2 k2 f2 l2 m2; have K0 := N0; clear N0; have K1 := N1; clear N1; have K2 := N2; clear N2; have HB := HBn; clear HBn; (obtain ⟨k0, f0, l0, m0⟩ := K0.out.rl; obtain ⟨k1, f1, l1, m1⟩ := K1.out.rl; obtain ⟨k2, f2, l2, m2⟩ := K2.out.rl); unfold Halted)
    (go_wp2_with (first | (with_reducible refine wpList_store_halt (o := ⟨_, .store 33 _ _, _, _, _, none⟩) (stSr_best _ K0.out (Up.zero)) rfl _ _ rfl rfl rfl ?_)); generalize hWN : setRow _ _ _ _ = WN; have N0 := Lib.hid (show Blk WN _ _ _ by rw [← hWN]; exact Blk.row K0.out.lt); have N1 := Lib.hid (show Blk WN _ _ _ by rw [← hWN]; exact Blk.rowOver (by omega) K1.out); have N2 := Lib.hid (show Blk WN _ _ _ by rw [← hWN]; exact Blk.rowOver (by omega) K2.out); have HBn : Below w.heap.size w WN := (by rw [← hWN]; exact Below.row HB (by omega) HB.size); clear hWN HB K0 k0 f0 l0 m0 K1 k1 f1 l1 m1 K2 k2 f2 l2 m2; have K0 := N0; clear N0; have K1 := N1; clear N1; have K2 := N2; clear N2; have HB := HBn; clear HBn; (obtain ⟨k0, f0, l0, m0⟩ := K0.out.rl; obtain ⟨k1, f1, l1, m1⟩ := K1.out.rl; obtain ⟨k2, f2, l2, m2⟩ := K2.out.rl); unfold Halted)
    (go_wp2_with (first | (with_reducible refine wpList_store_halt (o := ⟨_, .store 4 _ _, _, _, _, none⟩) (stcSr_has _ K0.out (false)) rfl _ _ rfl rfl rfl ?_)); generalize hWN : setRow _ _ _ _ = WN; have N0 := Lib.hid (show Blk WN _ _ _ by rw [← hWN]; exact Blk.row K0.out.lt); have N1 := Lib.hid (show Blk WN _ _ _ by rw [← hWN]; exact Blk.rowOver (by omega) K1.out); have N2 := Lib.hid (show Blk WN _ _ _ by rw [← hWN]; exact Blk.rowOver (by omega) K2.out); have HBn : Below w.heap.size w WN := (by rw [← hWN]; exact Below.row HB (by omega) HB.size); clear hWN HB K0 k0 f0 l0 m0 K1 k1 f1 l1 m1 K2 k2 f2 l2 m2; have K0 := N0; clear N0; have K1 := N1; clear N1; have K2 := N2; clear N2; have HB := HBn; clear HBn; (obtain ⟨k0, f0, l0, m0⟩ := K0.out.rl; obtain ⟨k1, f1, l1, m1⟩ := K1.out.rl; obtain ⟨k2, f2, l2, m2⟩ := K2.out.rl); unfold Halted)
    (go_wp2_with (first | (with_reducible refine wpList_load_run (o := ⟨_, .load 35 _, _, _, _, none⟩) (ldSr _ K0.out) rfl _ rfl rfl ?_) | (with_reducible refine wpList_load_run_g (o := ⟨_, .load 35 _, _, _, _, some _⟩) (ldSr _ K0.out) (by with_unfolding_all rfl) _ rfl rfl ?_) | (with_reducible refine wpList_store_halt (o := ⟨_, .store 35 _ _, _, _, _, none⟩) (stSr _ K2.out (clearP { t with fin := u.fin, new := u.fin })) rfl _ _ rfl rfl rfl ?_)); generalize hWN : setRow _ _ _ _ = WN; have N2 := Lib.hid (show Blk WN _ _ _ by rw [← hWN]; exact Blk.row K2.out.lt); have N0 := Lib.hid (show Blk WN _ _ _ by rw [← hWN]; exact Blk.rowOver (by omega) K0.out); have N1 := Lib.hid (show Blk WN _ _ _ by rw [← hWN]; exact Blk.rowOver (by omega) K1.out); have HBn : Below w.heap.size w WN := (by rw [← hWN]; exact Below.row HB (by omega) HB.size); clear hWN HB K2 k2 f2 l2 m2 K0 k0 f0 l0 m0 K1 k1 f1 l1 m1; have K2 := N2; clear N2; have K0 := N0; clear N0; have K1 := N1; clear N1; have HB := HBn; clear HBn; (obtain ⟨k2, f2, l2, m2⟩ := K2.out.rl; obtain ⟨k0, f0, l0, m0⟩ := K0.out.rl; obtain ⟨k1, f1, l1, m1⟩ := K1.out.rl); unfold Halted)
    go_wp2_with fail
    exact bodyPost_ret (results_cell rfl rfl (ldSr _ K2.out)) rfl ⟨by rw [hfinal.out, e2.out], HB⟩
   ·have e2 := Lib.hid (show takeP2 t u = { t with fin := u.fin } by unfold takeP2; rw [if_pos hf, if_neg hn])
    have hn2 : ¬ (t.new.b.slot : Int) < (u.fin.b.slot : Int) := by omega
    clear hf hn
    (go_wp2_with (first | (with_reducible refine wpList_store_halt (o := ⟨_, .store 29 _ _, _, _, _, none⟩) (stSr_fin _ K0.out (u.fin)) rfl _ _ rfl rfl rfl ?_)); generalize hWN : setRow _ _ _ _ = WN; have N0 := Lib.hid (show Blk WN _ _ _ by rw [← hWN]; exact Blk.row K0.out.lt); have N1 := Lib.hid (show Blk WN _ _ _ by rw [← hWN]; exact Blk.rowOver (by omega) K1.out); have N2 := Lib.hid (show Blk WN _ _ _ by rw [← hWN]; exact Blk.rowOver (by omega) K2.out); have HBn : Below w.heap.size w WN := (by rw [← hWN]; exact Below.row HB (by omega) HB.size); clear hWN HB K0 k0 f0 l0 m0 K1 k1 f1 l1 m1 K2 k2 f2 l2 m2; have K0 := N0; clear N0; have K1 := N1; clear N1; have K2 := N2; clear N2; have HB := HBn; clear HBn; (obtain ⟨k0, f0, l0, m0⟩ := K0.out.rl; obtain ⟨k1, f1, l1, m1⟩ := K1.out.rl; obtain ⟨k2, f2, l2, m2⟩ := K2.out.rl); unfold Halted)
    (go_wp2_with (first | (with_reducible refine wpList_store_halt (o := ⟨_, .store 33 _ _, _, _, _, none⟩) (stSr_best _ K0.out (Up.zero)) rfl _ _ rfl rfl rfl ?_)); generalize hWN : setRow _ _ _ _ = WN; have N0 := Lib.hid (show Blk WN _ _ _ by rw [← hWN]; exact Blk.row K0.out.lt); have N1 := Lib.hid (show Blk WN _ _ _ by rw [← hWN]; exact Blk.rowOver (by omega) K1.out); have N2 := Lib.hid (show Blk WN _ _ _ by rw [← hWN]; exact Blk.rowOver (by omega) K2.out); have HBn : Below w.heap.size w WN := (by rw [← hWN]; exact Below.row HB (by omega) HB.size); clear hWN HB K0 k0 f0 l0 m0 K1 k1 f1 l1 m1 K2 k2 f2 l2 m2; have K0 := N0; clear N0; have K1 := N1; clear N1; have K2 := N2; clear N2; have HB := HBn; clear HBn; (obtain ⟨k0, f0, l0, m0⟩ := K0.out.rl; obtain ⟨k1, f1, l1, m1⟩ := K1.out.rl; obtain ⟨k2, f2, l2, m2⟩ := K2.out.rl); unfold Halted)
    (go_wp2_with (first | (with_reducible refine wpList_store_halt (o := ⟨_, .store 4 _ _, _, _, _, none⟩) (stcSr_has _ K0.out (false)) rfl _ _ rfl rfl rfl ?_)); generalize hWN : setRow _ _ _ _ = WN; have N0 := Lib.hid (show Blk WN _ _ _ by rw [← hWN]; exact Blk.row K0.out.lt); have N1 := Lib.hid (show Blk WN _ _ _ by rw [← hWN]; exact Blk.rowOver (by omega) K1.out); have N2 := Lib.hid (show Blk WN _ _ _ by rw [← hWN]; exact Blk.rowOver (by omega) K2.out); have HBn : Below w.heap.size w WN := (by rw [← hWN]; exact Below.row HB (by omega) HB.size); clear hWN HB K0 k0 f0 l0 m0 K1 k1 f1 l1 m1 K2 k2 f2 l2 m2; have K0 := N0; clear N0; have K1 := N1; clear N1; have K2 := N2; clear N2; have HB := HBn; clear HBn; (obtain ⟨k0, f0, l0, m0⟩ := K0.out.rl; obtain ⟨k1, f1, l1, m1⟩ := K1.out.rl; obtain ⟨k2, f2, l2, m2⟩ := K2.out.rl); unfold Halted)
    (go_wp2_with (first | (with_reducible refine wpList_load_run (o := ⟨_, .load 35 _, _, _, _, none⟩) (ldSr _ K0.out) rfl _ rfl rfl ?_) | (with_reducible refine wpList_load_run_g (o := ⟨_, .load 35 _, _, _, _, some _⟩) (ldSr _ K0.out) (by with_unfolding_all rfl) _ rfl rfl ?_) | (with_reducible refine wpList_store_halt (o := ⟨_, .store 35 _ _, _, _, _, none⟩) (stSr _ K2.out (clearP { t with fin := u.fin })) rfl _ _ rfl rfl rfl ?_)); generalize hWN : setRow _ _ _ _ = WN; have N2 := Lib.hid (show Blk WN _ _ _ by rw [← hWN]; exact Blk.row K2.out.lt); have N0 := Lib.hid (show Blk WN _ _ _ by rw [← hWN]; exact Blk.rowOver (by omega) K0.out); have N1 := Lib.hid (show Blk WN _ _ _ by rw [← hWN]; exact Blk.rowOver (by omega) K1.out); have HBn : Below w.heap.size w WN := (by rw [← hWN]; exact Below.row HB (by omega) HB.size); clear hWN HB K2 k2 f2 l2 m2 K0 k0 f0 l0 m0 K1 k1 f1 l1 m1; have K2 := N2; clear N2; have K0 := N0; clear N0; have K1 := N1; clear N1; have HB := HBn; clear HBn; (obtain ⟨k2, f2, l2, m2⟩ := K2.out.rl; obtain ⟨k0, f0, l0, m0⟩ := K0.out.rl; obtain ⟨k1, f1, l1, m1⟩ := K1.out.rl); unfold Halted)
    go_wp2_with fail
    exact bodyPost_ret (results_cell rfl rfl (ldSr _ K2.out)) rfl ⟨by rw [hfinal.out, e2.out], HB⟩
  ·have hf2 : ¬ (t.fin.b.slot : Int) < (u.fin.b.slot : Int) := by omega
   have e2 := Lib.hid (show takeP2 t u = t by unfold takeP2; rw [if_neg hf])
   clear hf
   (go_wp2_with (first | (with_reducible refine wpList_store_halt (o := ⟨_, .store 33 _ _, _, _, _, none⟩) (stSr_best _ K0.out (Up.zero)) rfl _ _ rfl rfl rfl ?_)); generalize hWN : setRow _ _ _ _ = WN; have N0 := Lib.hid (show Blk WN _ _ _ by rw [← hWN]; exact Blk.row K0.out.lt); have N1 := Lib.hid (show Blk WN _ _ _ by rw [← hWN]; exact Blk.rowOver (by omega) K1.out); have N2 := Lib.hid (show Blk WN _ _ _ by rw [← hWN]; exact Blk.rowOver (by omega) K2.out); have HBn : Below w.heap.size w WN := (by rw [← hWN]; exact Below.row HB (by omega) HB.size); clear hWN HB K0 k0 f0 l0 m0 K1 k1 f1 l1 m1 K2 k2 f2 l2 m2; have K0 := N0; clear N0; have K1 := N1; clear N1; have K2 := N2; clear N2; have HB := HBn; clear HBn; (obtain ⟨k0, f0, l0, m0⟩ := K0.out.rl; obtain ⟨k1, f1, l1, m1⟩ := K1.out.rl; obtain ⟨k2, f2, l2, m2⟩ := K2.out.rl); unfold Halted)
   (go_wp2_with (first | (with_reducible refine wpList_store_halt (o := ⟨_, .store 4 _ _, _, _, _, none⟩) (stcSr_has _ K0.out (false)) rfl _ _ rfl rfl rfl ?_)); generalize hWN : setRow _ _ _ _ = WN; have N0 := Lib.hid (show Blk WN _ _ _ by rw [← hWN]; exact Blk.row K0.out.lt); have N1 := Lib.hid (show Blk WN _ _ _ by rw [← hWN]; exact Blk.rowOver (by omega) K1.out); have N2 := Lib.hid (show Blk WN _ _ _ by rw [← hWN]; exact Blk.rowOver (by omega) K2.out); have HBn : Below w.heap.size w WN := (by rw [← hWN]; exact Below.row HB (by omega) HB.size); clear hWN HB K0 k0 f0 l0 m0 K1 k1 f1 l1 m1 K2 k2 f2 l2 m2; have K0 := N0; clear N0; have K1 := N1; clear N1; have K2 := N2; clear N2; have HB := HBn; clear HBn; (obtain ⟨k0, f0, l0, m0⟩ := K0.out.rl; obtain ⟨k1, f1, l1, m1⟩ := K1.out.rl; obtain ⟨k2, f2, l2, m2⟩ := K2.out.rl); unfold Halted)
   (go_wp2_with (first | (with_reducible refine wpList_load_run (o := ⟨_, .load 35 _, _, _, _, none⟩) (ldSr _ K0.out) rfl _ rfl rfl ?_) | (with_reducible refine wpList_load_run_g (o := ⟨_, .load 35 _, _, _, _, some _⟩) (ldSr _ K0.out) (by with_unfolding_all rfl) _ rfl rfl ?_) | (with_reducible refine wpList_store_halt (o := ⟨_, .store 35 _ _, _, _, _, none⟩) (stSr _ K2.out (clearP t)) rfl _ _ rfl rfl rfl ?_)); generalize hWN : setRow _ _ _ _ = WN; have N2 := Lib.hid (show Blk WN _ _ _ by rw [← hWN]; exact Blk.row K2.out.lt); have N0 := Lib.hid (show Blk WN _ _ _ by rw [← hWN]; exact Blk.rowOver (by omega) K0.out); have N1 := Lib.hid (show Blk WN _ _ _ by rw [← hWN]; exact Blk.rowOver (by omega) K1.out); have HBn : Below w.heap.size w WN := (by rw [← hWN]; exact Below.row HB (by omega) HB.size); clear hWN HB K2 k2 f2 l2 m2 K0 k0 f0 l0 m0 K1 k1 f1 l1 m1; have K2 := N2; clear N2; have K0 := N0; clear N0; have K1 := N1; clear N1; have HB := HBn; clear HBn; (obtain ⟨k2, f2, l2, m2⟩ := K2.out.rl; obtain ⟨k0, f0, l0, m0⟩ := K0.out.rl; obtain ⟨k1, f1, l1, m1⟩ := K1.out.rl); unfold Halted)
   go_wp2_with fail
   exact bodyPost_ret (results_cell rfl rfl (ldSr _ K2.out)) rfl ⟨by rw [hfinal.out, e2.out], HB⟩
end Go.Proofs.YtegaaccioppfjaaGreatDoor
end
section
namespace Go.Proofs.YtegaaccioppfjaaGreatDoor
open BigFrame Go.RowKit Go.Phx Go.Shelf
attribute [local go_sem] Oper.semAt_some

end Go.Proofs.YtegaaccioppfjaaGreatDoor
end
section
namespace Go.Proofs.YtegaaccioppfjaaGreatDoor
open BigFrame Go.RowKit Go.Phx Go.Shelf
attribute [local go_sem] Oper.semAt_some

set_option maxRecDepth 100000 in
theorem check_few (s : Sr) (u : Up) (now : Nat) (h0 : onesP u.bits = 0) (w : World) : Calls Tryz.prog 20 #[srV s, upV u, .int .u64 now] w (Ret w (.int .i64 141)) := by
 have n1 := fun W => signers_calls u W
 rw [h0] at n1
 replace n1 : ∀ W, Calls Tryz.prog 56 #[upV u] W (Ret W (.int .i64 0)) := n1
 replace n1 := Lib.hid n1
 clear h0
 go_enter Tryz.func20, Tryz.ntmps20
 go_upto_region 1 with fail
 have HB : Below w.heap.size w ((w.alloc (.cells (srA s) 35)).alloc (.cells (upA u) 33)) := bel
 have K0 := (Blk.new0 w 35 (srA s)).alloc (.cells (upA u) 33)
 have K1 := Blk.new1 w (.cells (srA s) 35) 33 (upA u)
 obtain ⟨W, hW⟩ : ∃ W, ((w.alloc (.cells (srA s) 35)).alloc (.cells (upA u) 33)) = W := ⟨_, rfl⟩
 rw [hW] at HB K0 K1 ⊢
 clear hW
 have hgl : w.heap.size ≤ w.heap.size := Nat.le_refl _
 obtain ⟨g, hg⟩ : ∃ g, w.heap.size = g := ⟨_, rfl⟩
 rw [hg] at K0 K1 ⊢
 replace hgl : w.heap.size ≤ g := by omega
 replace K0 := Lib.hid K0
 replace K1 := Lib.hid K1
 clear hg
 (obtain ⟨k0, f0, l0, m0⟩ := K0.out.rl; obtain ⟨k1, f1, l1, m1⟩ := K1.out.rl)
 go_wp2_with (first | (with_reducible refine wpList_load_run (o := ⟨_, .load 33 _, _, _, _, none⟩) (ldUp _ K1.out) rfl _ rfl rfl ?_) | (with_reducible refine wpList_load_run_g (o := ⟨_, .load 33 _, _, _, _, some _⟩) (ldUp _ K1.out) (by with_unfolding_all rfl) _ rfl rfl ?_))
 (refine (n1.out _).mono ?_; rintro e w1 ⟨rfl, hN⟩; have N0 := Lib.hid (K0.out.below hN); have N1 := Lib.hid (K1.out.below hN); have HBn : Below w.heap.size w w1 := Below.on hN HB; clear hN HB K0 k0 f0 l0 m0 K1 k1 f1 l1 m1; have K0 := N0; clear N0; have K1 := N1; clear N1; have HB := HBn; clear HBn; (obtain ⟨k0, f0, l0, m0⟩ := K0.out.rl; obtain ⟨k1, f1, l1, m1⟩ := K1.out.rl))
 go_wp2_with fail
 go_ret
 exact ⟨rfl, HB⟩
set_option maxRecDepth 100000 in
theorem check_head (s : Sr) (u : Up) (now : Nat) (h0 : onesP u.bits ≠ 0) (hh : holdsP u.seen = false) (w : World) (hk : HasK w) (hu : LtIn w u.seen) : Calls Tryz.prog 20 #[srV s, upV u, .int .u64 now] w (Ret w (.int .i64 130)) := by
 have n1 := fun W => signers_calls u W
 have n2 := fun W (hB : Below w.heap.size w W) => lholds_calls u.seen W (hk.on hB) (hu.below hB)
 rw [hh] at n2
 have e1 : (((onesP u.bits : Nat) : Int) == 0) = false := by simp; exact h0
 generalize onesP u.bits = k at *
 replace n1 := Lib.hid n1
 replace n2 := Lib.hid n2
 clear h0 hh hu hk
 go_enter Tryz.func20, Tryz.ntmps20
 go_upto_region 1 with fail
 have HB : Below w.heap.size w ((w.alloc (.cells (srA s) 35)).alloc (.cells (upA u) 33)) := bel
 have K0 := (Blk.new0 w 35 (srA s)).alloc (.cells (upA u) 33)
 have K1 := Blk.new1 w (.cells (srA s) 35) 33 (upA u)
 obtain ⟨W, hW⟩ : ∃ W, ((w.alloc (.cells (srA s) 35)).alloc (.cells (upA u) 33)) = W := ⟨_, rfl⟩
 rw [hW] at HB K0 K1 ⊢
 clear hW
 have hgl : w.heap.size ≤ w.heap.size := Nat.le_refl _
 obtain ⟨g, hg⟩ : ∃ g, w.heap.size = g := ⟨_, rfl⟩
 rw [hg] at K0 K1 ⊢
 replace hgl : w.heap.size ≤ g := by omega
 replace K0 := Lib.hid K0
 replace K1 := Lib.hid K1
 clear hg
 (obtain ⟨k0, f0, l0, m0⟩ := K0.out.rl; obtain ⟨k1, f1, l1, m1⟩ := K1.out.rl)
 go_wp2_with (first | (with_reducible refine wpList_load_run (o := ⟨_, .load 33 _, _, _, _, none⟩) (ldUp _ K1.out) rfl _ rfl rfl ?_) | (with_reducible refine wpList_load_run_g (o := ⟨_, .load 33 _, _, _, _, some _⟩) (ldUp _ K1.out) (by with_unfolding_all rfl) _ rfl rfl ?_))
 (refine (n1.out _).mono ?_; rintro e w1 ⟨rfl, hN⟩; have N0 := Lib.hid (K0.out.below hN); have N1 := Lib.hid (K1.out.below hN); have HBn : Below w.heap.size w w1 := Below.on hN HB; clear hN HB K0 k0 f0 l0 m0 K1 k1 f1 l1 m1; have K0 := N0; clear N0; have K1 := N1; clear N1; have HB := HBn; clear HBn; (obtain ⟨k0, f0, l0, m0⟩ := K0.out.rl; obtain ⟨k1, f1, l1, m1⟩ := K1.out.rl))
 go_wp2_with fail
 (refine (n2.out _ HB).mono ?_; rintro e w2 ⟨rfl, hN⟩; have N0 := Lib.hid (K0.out.below hN); have N1 := Lib.hid (K1.out.below hN); have HBn : Below w.heap.size w w2 := Below.on hN HB; clear hN HB K0 k0 f0 l0 m0 K1 k1 f1 l1 m1; have K0 := N0; clear N0; have K1 := N1; clear N1; have HB := HBn; clear HBn; (obtain ⟨k0, f0, l0, m0⟩ := K0.out.rl; obtain ⟨k1, f1, l1, m1⟩ := K1.out.rl))
 go_wp2_with fail
 go_ret
 exact ⟨rfl, HB⟩
set_option maxRecDepth 100000 in
set_option maxHeartbeats 1000000 in
theorem force_no (s : Sr) (now : Nat) (h : noForce s now = true) (hs : s.fin.b.slot < 18446744073709551616) (hn : now < 18446744073709551616) (w : World) : Calls Tryz.prog 22 #[srV s, .int .u64 now] w (Ret w (.tuple #[srV s, .int .i64 148])) := by
 unfold noForce at h
 cases hh : s.has with
 | false =>
  clear h
  go_enter Tryz.func22, Tryz.ntmps22
  go_upto_region 1 with fail
  have HB : Below w.heap.size w ((w.alloc (.cells (srA s) 35)).alloc (.cells (srA Sr.zero) 35)) := bel
  have K0 := (Blk.new0 w 35 (srA s)).alloc (.cells (srA Sr.zero) 35)
  have K1 := Blk.new1 w (.cells (srA s) 35) 35 (srA Sr.zero)
  obtain ⟨W, hW⟩ : ∃ W, ((w.alloc (.cells (srA s) 35)).alloc (.cells (srA Sr.zero) 35)) = W := ⟨_, rfl⟩
  rw [hW] at HB K0 K1 ⊢
  clear hW
  have hgl : w.heap.size ≤ w.heap.size := Nat.le_refl _
  obtain ⟨g, hg⟩ : ∃ g, w.heap.size = g := ⟨_, rfl⟩
  rw [hg] at K0 K1 ⊢
  replace hgl : w.heap.size ≤ g := by omega
  replace K0 := Lib.hid K0
  replace K1 := Lib.hid K1
  clear hg
  (obtain ⟨k0, f0, l0, m0⟩ := K0.out.rl; obtain ⟨k1, f1, l1, m1⟩ := K1.out.rl)
  go_upto_region 3 with fail
  (go_wp2_with (first | (with_reducible refine wpList_load_run (o := ⟨_, .load 35 _, _, _, _, none⟩) (ldSr _ K0.out) rfl _ rfl rfl ?_) | (with_reducible refine wpList_load_run_g (o := ⟨_, .load 35 _, _, _, _, some _⟩) (ldSr _ K0.out) (by with_unfolding_all rfl) _ rfl rfl ?_) | (with_reducible refine wpList_store_halt (o := ⟨_, .store 35 _ _, _, _, _, none⟩) (stSr _ K1.out (s)) rfl _ _ rfl rfl rfl ?_)); generalize hWN : setRow _ _ _ _ = WN; have N1 := Lib.hid (show Blk WN _ _ _ by rw [← hWN]; exact Blk.row K1.out.lt); have N0 := Lib.hid (show Blk WN _ _ _ by rw [← hWN]; exact Blk.rowOver (by omega) K0.out); have HBn : Below w.heap.size w WN := (by rw [← hWN]; exact Below.row HB (by omega) HB.size); clear hWN HB K1 k1 f1 l1 m1 K0 k0 f0 l0 m0; have K1 := N1; clear N1; have K0 := N0; clear N0; have HB := HBn; clear HBn; (obtain ⟨k1, f1, l1, m1⟩ := K1.out.rl; obtain ⟨k0, f0, l0, m0⟩ := K0.out.rl); unfold Halted)
  go_wp2_with fail
  exact bodyPost_ret (results_cell2 rfl rfl (ldSr _ K1.out)) rfl ⟨rfl, HB⟩
 | true =>
  rw [hh] at h
  replace h : now < s.fin.b.slot + 65 := by simpa using h
  by_cases h1 : now < s.fin.b.slot
  ·have h1i : (now : Int) < (s.fin.b.slot : Int) := by omega
   clear h h1
   go_enter Tryz.func22, Tryz.ntmps22
   go_upto_region 1 with fail
   have HB : Below w.heap.size w ((w.alloc (.cells (srA s) 35)).alloc (.cells (srA Sr.zero) 35)) := bel
   have K0 := (Blk.new0 w 35 (srA s)).alloc (.cells (srA Sr.zero) 35)
   have K1 := Blk.new1 w (.cells (srA s) 35) 35 (srA Sr.zero)
   obtain ⟨W, hW⟩ : ∃ W, ((w.alloc (.cells (srA s) 35)).alloc (.cells (srA Sr.zero) 35)) = W := ⟨_, rfl⟩
   rw [hW] at HB K0 K1 ⊢
   clear hW
   have hgl : w.heap.size ≤ w.heap.size := Nat.le_refl _
   obtain ⟨g, hg⟩ : ∃ g, w.heap.size = g := ⟨_, rfl⟩
   rw [hg] at K0 K1 ⊢
   replace hgl : w.heap.size ≤ g := by omega
   replace K0 := Lib.hid K0
   replace K1 := Lib.hid K1
   clear hg
   (obtain ⟨k0, f0, l0, m0⟩ := K0.out.rl; obtain ⟨k1, f1, l1, m1⟩ := K1.out.rl)
   go_upto_region 3 with fail
   (go_wp2_with (first | (with_reducible refine wpList_load_run (o := ⟨_, .load 35 _, _, _, _, none⟩) (ldSr _ K0.out) rfl _ rfl rfl ?_) | (with_reducible refine wpList_load_run_g (o := ⟨_, .load 35 _, _, _, _, some _⟩) (ldSr _ K0.out) (by with_unfolding_all rfl) _ rfl rfl ?_) | (with_reducible refine wpList_store_halt (o := ⟨_, .store 35 _ _, _, _, _, none⟩) (stSr _ K1.out (s)) rfl _ _ rfl rfl rfl ?_)); generalize hWN : setRow _ _ _ _ = WN; have N1 := Lib.hid (show Blk WN _ _ _ by rw [← hWN]; exact Blk.row K1.out.lt); have N0 := Lib.hid (show Blk WN _ _ _ by rw [← hWN]; exact Blk.rowOver (by omega) K0.out); have HBn : Below w.heap.size w WN := (by rw [← hWN]; exact Below.row HB (by omega) HB.size); clear hWN HB K1 k1 f1 l1 m1 K0 k0 f0 l0 m0; have K1 := N1; clear N1; have K0 := N0; clear N0; have HB := HBn; clear HBn; (obtain ⟨k1, f1, l1, m1⟩ := K1.out.rl; obtain ⟨k0, f0, l0, m0⟩ := K0.out.rl); unfold Halted)
   go_wp2_with fail
   exact bodyPost_ret (results_cell2 rfl rfl (ldSr _ K1.out)) rfl ⟨rfl, HB⟩
  ·have h1i : ¬ (now : Int) < (s.fin.b.slot : Int) := by omega
   have h2 : IntKind.u64.wrap ((now : Int) - (s.fin.b.slot : Int)) = ((now - s.fin.b.slot : Nat) : Int) := by
    rw [show ((now : Int) - (s.fin.b.slot : Int)) = ((now - s.fin.b.slot : Nat) : Int) by omega]
    exact IntWalk.u64_in _ (by omega)
   have h3 : ((now - s.fin.b.slot : Nat) : Int) ≤ 64 := by omega
   clear h h1
   go_enter Tryz.func22, Tryz.ntmps22
   go_upto_region 1 with fail
   have HB : Below w.heap.size w ((w.alloc (.cells (srA s) 35)).alloc (.cells (srA Sr.zero) 35)) := bel
   have K0 := (Blk.new0 w 35 (srA s)).alloc (.cells (srA Sr.zero) 35)
   have K1 := Blk.new1 w (.cells (srA s) 35) 35 (srA Sr.zero)
   obtain ⟨W, hW⟩ : ∃ W, ((w.alloc (.cells (srA s) 35)).alloc (.cells (srA Sr.zero) 35)) = W := ⟨_, rfl⟩
   rw [hW] at HB K0 K1 ⊢
   clear hW
   have hgl : w.heap.size ≤ w.heap.size := Nat.le_refl _
   obtain ⟨g, hg⟩ : ∃ g, w.heap.size = g := ⟨_, rfl⟩
   rw [hg] at K0 K1 ⊢
   replace hgl : w.heap.size ≤ g := by omega
   replace K0 := Lib.hid K0
   replace K1 := Lib.hid K1
   clear hg
   (obtain ⟨k0, f0, l0, m0⟩ := K0.out.rl; obtain ⟨k1, f1, l1, m1⟩ := K1.out.rl)
   go_upto_region 3 with fail
   (go_wp2_with (first | (with_reducible refine wpList_load_run (o := ⟨_, .load 35 _, _, _, _, none⟩) (ldSr _ K0.out) rfl _ rfl rfl ?_) | (with_reducible refine wpList_load_run_g (o := ⟨_, .load 35 _, _, _, _, some _⟩) (ldSr _ K0.out) (by with_unfolding_all rfl) _ rfl rfl ?_) | (with_reducible refine wpList_store_halt (o := ⟨_, .store 35 _ _, _, _, _, none⟩) (stSr _ K1.out (s)) rfl _ _ rfl rfl rfl ?_)); generalize hWN : setRow _ _ _ _ = WN; have N1 := Lib.hid (show Blk WN _ _ _ by rw [← hWN]; exact Blk.row K1.out.lt); have N0 := Lib.hid (show Blk WN _ _ _ by rw [← hWN]; exact Blk.rowOver (by omega) K0.out); have HBn : Below w.heap.size w WN := (by rw [← hWN]; exact Below.row HB (by omega) HB.size); clear hWN HB K1 k1 f1 l1 m1 K0 k0 f0 l0 m0; have K1 := N1; clear N1; have K0 := N0; clear N0; have HB := HBn; clear HBn; (obtain ⟨k1, f1, l1, m1⟩ := K1.out.rl; obtain ⟨k0, f0, l0, m0⟩ := K0.out.rl); unfold Halted)
   go_wp2_with fail
   exact bodyPost_ret (results_cell2 rfl rfl (ldSr _ K1.out)) rfl ⟨rfl, HB⟩
set_option maxRecDepth 100000 in
set_option maxHeartbeats 1000000 in
theorem force_yes (s : Sr) (now : Nat) (h : noForce s now = false) (hs : s.fin.b.slot < 18446744073709551616) (hs2 : s.best.seen.b.slot < 18446744073709551616) (hs3 : s.best.fin.b.slot < 18446744073709551616) (hn : now < 18446744073709551616) (w : World) : Calls Tryz.prog 22 #[srV s, .int .u64 now] w (Ret w (.tuple #[srV (forceP s), .int .i64 0])) := by
 unfold noForce at h
 rw [Bool.or_eq_false_iff] at h
 have hh : s.has = true := by have := h.1; simpa using this
 have h0 : s.fin.b.slot + 65 ≤ now := by have := h.2; simpa using this
 have h1i : ¬ (now : Int) < (s.fin.b.slot : Int) := by omega
 have h2 : IntKind.u64.wrap ((now : Int) - (s.fin.b.slot : Int)) = ((now - s.fin.b.slot : Nat) : Int) := by
  rw [show ((now : Int) - (s.fin.b.slot : Int)) = ((now - s.fin.b.slot : Nat) : Int) by omega]
  exact IntWalk.u64_in _ (by omega)
 have h3 : ¬ ((now - s.fin.b.slot : Nat) : Int) ≤ 64 := by omega
 have hfu : (forcedU s).fin.b.slot < 18446744073709551616 := by unfold forcedU; split <;> assumption
 have nt := fun W => lgtake_calls s (forcedU s) hs hfu W
 obtain ⟨t, ht⟩ : ∃ t, clearP (takeP s (forcedU s)) = t := ⟨_, rfl⟩
 rw [ht] at nt
 have hp : forceP s = { t with forced := true } := by unfold forceP; rw [ht]
 replace ht := Lib.hid hp
 replace nt := Lib.hid nt
 clear hp h h0 hfu hs2
 go_enter Tryz.func22, Tryz.ntmps22
 go_upto_region 1 with fail
 have HB : Below w.heap.size w ((w.alloc (.cells (srA s) 35)).alloc (.cells (srA Sr.zero) 35)) := bel
 have K0 := (Blk.new0 w 35 (srA s)).alloc (.cells (srA Sr.zero) 35)
 have K1 := Blk.new1 w (.cells (srA s) 35) 35 (srA Sr.zero)
 obtain ⟨W, hW⟩ : ∃ W, ((w.alloc (.cells (srA s) 35)).alloc (.cells (srA Sr.zero) 35)) = W := ⟨_, rfl⟩
 rw [hW] at HB K0 K1 ⊢
 clear hW
 have hgl : w.heap.size ≤ w.heap.size := Nat.le_refl _
 obtain ⟨g, hg⟩ : ∃ g, w.heap.size = g := ⟨_, rfl⟩
 rw [hg] at K0 K1 ⊢
 replace hgl : w.heap.size ≤ g := by omega
 replace K0 := Lib.hid K0
 replace K1 := Lib.hid K1
 clear hg
 (obtain ⟨k0, f0, l0, m0⟩ := K0.out.rl; obtain ⟨k1, f1, l1, m1⟩ := K1.out.rl)
 go_upto_region 4 with fail
 go_wp2_with (first | (with_reducible refine wpList_load_run (o := ⟨_, .load 33 _, _, _, _, none⟩) (ldSr_best _ K0.out) rfl _ rfl rfl ?_) | (with_reducible refine wpList_store_halt (o := ⟨_, .store 33 _ _, _, _, _, none⟩) (stUp Up.zero (Blk.new0 W 33 (upA Up.zero)) s.best) rfl _ _ rfl rfl rfl ?_))
 generalize hWN : setRow _ _ _ _ = WN
 have N0 := Lib.hid (show Blk WN g 35 (srA s) by rw [← hWN]; exact Blk.rowOver (by omega) (K0.out.alloc _))
 have N1 := Lib.hid (show Blk WN (g + 1) 35 (srA Sr.zero) by rw [← hWN]; exact Blk.rowOver (by omega) (K1.out.alloc _))
 have N2 := Lib.hid (show Blk WN W.heap.size 33 (upA s.best) by rw [← hWN]; exact Blk.row (by simp))
 have HBn : Below w.heap.size w WN := by rw [← hWN]; exact Below.row (HB.alloc HB.size _) HB.size (by have := HB.size; simp; omega)
 obtain ⟨g2, hg2⟩ : ∃ g2, W.heap.size = g2 := ⟨_, rfl⟩
 have hgg : g + 1 < g2 := by rw [← hg2]; exact l1
 have hgl2 : w.heap.size ≤ g2 := by rw [← hg2]; exact HB.size
 rw [hg2] at N2 ⊢
 clear hWN hg2 k0 f0 l0 m0 k1 f1 l1 m1 K0 K1 HB
 have K0 := N0; have K1 := N1; have K2 := N2; have HB := HBn
 clear N0 N1 N2 HBn
 (obtain ⟨k0, f0, l0, m0⟩ := K0.out.rl; obtain ⟨k1, f1, l1, m1⟩ := K1.out.rl; obtain ⟨k2, f2, l2, m2⟩ := K2.out.rl)
 unfold Halted
 by_cases hle : s.best.fin.b.slot ≤ s.fin.b.slot
 ·have hlei : (s.best.fin.b.slot : Int) ≤ (s.fin.b.slot : Int) := by omega
  have hfe : forcedU s = { s.best with fin := s.best.seen } := by unfold forcedU; rw [if_pos hle]
  rw [hfe] at nt
  clear hfe hle
  (go_wp2_with (first | (with_reducible refine wpList_store_halt (o := ⟨_, .store 29 _ _, _, _, _, none⟩) (stUp_fin _ K2.out (s.best.seen)) rfl _ _ rfl rfl rfl ?_)); generalize hWN : setRow _ _ _ _ = WN; have N2 := Lib.hid (show Blk WN _ _ _ by rw [← hWN]; exact Blk.row K2.out.lt); have N0 := Lib.hid (show Blk WN _ _ _ by rw [← hWN]; exact Blk.rowOver (by omega) K0.out); have N1 := Lib.hid (show Blk WN _ _ _ by rw [← hWN]; exact Blk.rowOver (by omega) K1.out); have HBn : Below w.heap.size w WN := (by rw [← hWN]; exact Below.row HB (by omega) HB.size); clear hWN HB K2 k2 f2 l2 m2 K0 k0 f0 l0 m0 K1 k1 f1 l1 m1; have K2 := N2; clear N2; have K0 := N0; clear N0; have K1 := N1; clear N1; have HB := HBn; clear HBn; (obtain ⟨k2, f2, l2, m2⟩ := K2.out.rl; obtain ⟨k0, f0, l0, m0⟩ := K0.out.rl; obtain ⟨k1, f1, l1, m1⟩ := K1.out.rl); unfold Halted)
  go_wp2_with (first | (with_reducible refine wpList_load_run (o := ⟨_, .load 35 _, _, _, _, none⟩) (ldSr _ K0.out) rfl _ rfl rfl ?_) | (with_reducible refine wpList_load_run (o := ⟨_, .load 33 _, _, _, _, none⟩) (ldUp _ K2.out) rfl _ rfl rfl ?_))
  (refine (nt.out _).mono ?_; rintro e w2 ⟨rfl, hN⟩; have N0 := Lib.hid (K0.out.below hN); have N1 := Lib.hid (K1.out.below hN); have N2 := Lib.hid (K2.out.below hN); have HBn : Below w.heap.size w w2 := Below.on hN HB; clear hN HB K0 k0 f0 l0 m0 K1 k1 f1 l1 m1 K2 k2 f2 l2 m2; have K0 := N0; clear N0; have K1 := N1; clear N1; have K2 := N2; clear N2; have HB := HBn; clear HBn; (obtain ⟨k0, f0, l0, m0⟩ := K0.out.rl; obtain ⟨k1, f1, l1, m1⟩ := K1.out.rl; obtain ⟨k2, f2, l2, m2⟩ := K2.out.rl))
  (go_wp2_with (first | (with_reducible refine wpList_store_halt (o := ⟨_, .store 35 _ _, _, _, _, none⟩) (stSr _ K0.out (t)) rfl _ _ rfl rfl rfl ?_)); generalize hWN : setRow _ _ _ _ = WN; have N0 := Lib.hid (show Blk WN _ _ _ by rw [← hWN]; exact Blk.row K0.out.lt); have N1 := Lib.hid (show Blk WN _ _ _ by rw [← hWN]; exact Blk.rowOver (by omega) K1.out); have N2 := Lib.hid (show Blk WN _ _ _ by rw [← hWN]; exact Blk.rowOver (by omega) K2.out); have HBn : Below w.heap.size w WN := (by rw [← hWN]; exact Below.row HB (by omega) HB.size); clear hWN HB K0 k0 f0 l0 m0 K1 k1 f1 l1 m1 K2 k2 f2 l2 m2; have K0 := N0; clear N0; have K1 := N1; clear N1; have K2 := N2; clear N2; have HB := HBn; clear HBn; (obtain ⟨k0, f0, l0, m0⟩ := K0.out.rl; obtain ⟨k1, f1, l1, m1⟩ := K1.out.rl; obtain ⟨k2, f2, l2, m2⟩ := K2.out.rl); unfold Halted)
  (go_wp2_with (first | (with_reducible refine wpList_store_halt (o := ⟨_, .store 4 _ _, _, _, _, none⟩) (stcSr_forced _ K0.out (true)) rfl _ _ rfl rfl rfl ?_)); generalize hWN : setRow _ _ _ _ = WN; have N0 := Lib.hid (show Blk WN _ _ _ by rw [← hWN]; exact Blk.row K0.out.lt); have N1 := Lib.hid (show Blk WN _ _ _ by rw [← hWN]; exact Blk.rowOver (by omega) K1.out); have N2 := Lib.hid (show Blk WN _ _ _ by rw [← hWN]; exact Blk.rowOver (by omega) K2.out); have HBn : Below w.heap.size w WN := (by rw [← hWN]; exact Below.row HB (by omega) HB.size); clear hWN HB K0 k0 f0 l0 m0 K1 k1 f1 l1 m1 K2 k2 f2 l2 m2; have K0 := N0; clear N0; have K1 := N1; clear N1; have K2 := N2; clear N2; have HB := HBn; clear HBn; (obtain ⟨k0, f0, l0, m0⟩ := K0.out.rl; obtain ⟨k1, f1, l1, m1⟩ := K1.out.rl; obtain ⟨k2, f2, l2, m2⟩ := K2.out.rl); unfold Halted)
  (go_wp2_with (first | (with_reducible refine wpList_load_run (o := ⟨_, .load 35 _, _, _, _, none⟩) (ldSr _ K0.out) rfl _ rfl rfl ?_) | (with_reducible refine wpList_load_run_g (o := ⟨_, .load 35 _, _, _, _, some _⟩) (ldSr _ K0.out) (by with_unfolding_all rfl) _ rfl rfl ?_) | (with_reducible refine wpList_store_halt (o := ⟨_, .store 35 _ _, _, _, _, none⟩) (stSr _ K1.out ({ t with forced := true })) rfl _ _ rfl rfl rfl ?_)); generalize hWN : setRow _ _ _ _ = WN; have N1 := Lib.hid (show Blk WN _ _ _ by rw [← hWN]; exact Blk.row K1.out.lt); have N0 := Lib.hid (show Blk WN _ _ _ by rw [← hWN]; exact Blk.rowOver (by omega) K0.out); have N2 := Lib.hid (show Blk WN _ _ _ by rw [← hWN]; exact Blk.rowOver (by omega) K2.out); have HBn : Below w.heap.size w WN := (by rw [← hWN]; exact Below.row HB (by omega) HB.size); clear hWN HB K1 k1 f1 l1 m1 K0 k0 f0 l0 m0 K2 k2 f2 l2 m2; have K1 := N1; clear N1; have K0 := N0; clear N0; have K2 := N2; clear N2; have HB := HBn; clear HBn; (obtain ⟨k1, f1, l1, m1⟩ := K1.out.rl; obtain ⟨k0, f0, l0, m0⟩ := K0.out.rl; obtain ⟨k2, f2, l2, m2⟩ := K2.out.rl); unfold Halted)
  go_wp2_with fail
  exact bodyPost_ret (results_cell2 rfl rfl (ldSr _ K1.out)) rfl ⟨by rw [ht.out]; rfl, HB⟩
 ·have hlei : ¬ (s.best.fin.b.slot : Int) ≤ (s.fin.b.slot : Int) := by omega
  have hfe : forcedU s = s.best := by unfold forcedU; rw [if_neg hle]
  rw [hfe] at nt
  clear hfe hle
  go_wp2_with (first | (with_reducible refine wpList_load_run (o := ⟨_, .load 35 _, _, _, _, none⟩) (ldSr _ K0.out) rfl _ rfl rfl ?_) | (with_reducible refine wpList_load_run (o := ⟨_, .load 33 _, _, _, _, none⟩) (ldUp _ K2.out) rfl _ rfl rfl ?_))
  (refine (nt.out _).mono ?_; rintro e w2 ⟨rfl, hN⟩; have N0 := Lib.hid (K0.out.below hN); have N1 := Lib.hid (K1.out.below hN); have N2 := Lib.hid (K2.out.below hN); have HBn : Below w.heap.size w w2 := Below.on hN HB; clear hN HB K0 k0 f0 l0 m0 K1 k1 f1 l1 m1 K2 k2 f2 l2 m2; have K0 := N0; clear N0; have K1 := N1; clear N1; have K2 := N2; clear N2; have HB := HBn; clear HBn; (obtain ⟨k0, f0, l0, m0⟩ := K0.out.rl; obtain ⟨k1, f1, l1, m1⟩ := K1.out.rl; obtain ⟨k2, f2, l2, m2⟩ := K2.out.rl))
  (go_wp2_with (first | (with_reducible refine wpList_store_halt (o := ⟨_, .store 35 _ _, _, _, _, none⟩) (stSr _ K0.out (t)) rfl _ _ rfl rfl rfl ?_)); generalize hWN : setRow _ _ _ _ = WN; have N0 := Lib.hid (show Blk WN _ _ _ by rw [← hWN]; exact Blk.row K0.out.lt); have N1 := Lib.hid (show Blk WN _ _ _ by rw [← hWN]; exact Blk.rowOver (by omega) K1.out); have N2 := Lib.hid (show Blk WN _ _ _ by rw [← hWN]; exact Blk.rowOver (by omega) K2.out); have HBn : Below w.heap.size w WN := (by rw [← hWN]; exact Below.row HB (by omega) HB.size); clear hWN HB K0 k0 f0 l0 m0 K1 k1 f1 l1 m1 K2 k2 f2 l2 m2; have K0 := N0; clear N0; have K1 := N1; clear N1; have K2 := N2; clear N2; have HB := HBn; clear HBn; (obtain ⟨k0, f0, l0, m0⟩ := K0.out.rl; obtain ⟨k1, f1, l1, m1⟩ := K1.out.rl; obtain ⟨k2, f2, l2, m2⟩ := K2.out.rl); unfold Halted)
  (go_wp2_with (first | (with_reducible refine wpList_store_halt (o := ⟨_, .store 4 _ _, _, _, _, none⟩) (stcSr_forced _ K0.out (true)) rfl _ _ rfl rfl rfl ?_)); generalize hWN : setRow _ _ _ _ = WN; have N0 := Lib.hid (show Blk WN _ _ _ by rw [← hWN]; exact Blk.row K0.out.lt); have N1 := Lib.hid (show Blk WN _ _ _ by rw [← hWN]; exact Blk.rowOver (by omega) K1.out); have N2 := Lib.hid (show Blk WN _ _ _ by rw [← hWN]; exact Blk.rowOver (by omega) K2.out); have HBn : Below w.heap.size w WN := (by rw [← hWN]; exact Below.row HB (by omega) HB.size); clear hWN HB K0 k0 f0 l0 m0 K1 k1 f1 l1 m1 K2 k2 f2 l2 m2; have K0 := N0; clear N0; have K1 := N1; clear N1; have K2 := N2; clear N2; have HB := HBn; clear HBn; (obtain ⟨k0, f0, l0, m0⟩ := K0.out.rl; obtain ⟨k1, f1, l1, m1⟩ := K1.out.rl; obtain ⟨k2, f2, l2, m2⟩ := K2.out.rl); unfold Halted)
  (go_wp2_with (first | (with_reducible refine wpList_load_run (o := ⟨_, .load 35 _, _, _, _, none⟩) (ldSr _ K0.out) rfl _ rfl rfl ?_) | (with_reducible refine wpList_load_run_g (o := ⟨_, .load 35 _, _, _, _, some _⟩) (ldSr _ K0.out) (by with_unfolding_all rfl) _ rfl rfl ?_) | (with_reducible refine wpList_store_halt (o := ⟨_, .store 35 _ _, _, _, _, none⟩) (stSr _ K1.out ({ t with forced := true })) rfl _ _ rfl rfl rfl ?_)); generalize hWN : setRow _ _ _ _ = WN; have N1 := Lib.hid (show Blk WN _ _ _ by rw [← hWN]; exact Blk.row K1.out.lt); have N0 := Lib.hid (show Blk WN _ _ _ by rw [← hWN]; exact Blk.rowOver (by omega) K0.out); have N2 := Lib.hid (show Blk WN _ _ _ by rw [← hWN]; exact Blk.rowOver (by omega) K2.out); have HBn : Below w.heap.size w WN := (by rw [← hWN]; exact Below.row HB (by omega) HB.size); clear hWN HB K1 k1 f1 l1 m1 K0 k0 f0 l0 m0 K2 k2 f2 l2 m2; have K1 := N1; clear N1; have K0 := N0; clear N0; have K2 := N2; clear N2; have HB := HBn; clear HBn; (obtain ⟨k1, f1, l1, m1⟩ := K1.out.rl; obtain ⟨k0, f0, l0, m0⟩ := K0.out.rl; obtain ⟨k2, f2, l2, m2⟩ := K2.out.rl); unfold Halted)
  go_wp2_with fail
  exact bodyPost_ret (results_cell2 rfl rfl (ldSr _ K1.out)) rfl ⟨by rw [ht.out]; rfl, HB⟩
theorem zero_head : holdsP Lt.zero = false := by
 have : hdOk Hd.zero = false := by decide +kernel
 unfold holdsP
 rw [show Lt.zero.b = Hd.zero from rfl, this]
 rfl
theorem zero_few : onesP Up.zero.bits = 0 := by decide +kernel
set_option maxRecDepth 100000 in
set_option maxHeartbeats 1000000 in
theorem shown14_calls (w : World) (hk : HasK w) : Calls Tryz.prog 19 #[] w (Ret w (.bool true)) := by
 have n1 := fun W => check_few Sr.zero Up.zero 0 zero_few W
 have n2 := fun W => force_no Sr.zero 1000 rfl (by decide) (by decide) W
 have n3 : ∀ W, Below w.heap.size w W → Calls Tryz.prog 20 #[srV Sr.zero, upV { Up.zero with bits := 1 }, .int .u64 0] W (Ret W (.int .i64 130)) := fun W hB => check_head Sr.zero { Up.zero with bits := 1 } 0 (by decide +kernel) zero_head W (hk.on hB) (LtIn.zero W)
 replace n1 := Lib.hid n1
 replace n2 := Lib.hid n2
 replace n3 := Lib.hid n3
 clear hk
 go_enter Tryz.func19, Tryz.ntmps19
 go_wp2_with fail
 refine (n1.out _).mono ?_
 rintro e w1 ⟨rfl, h1⟩
 go_wp2_with fail
 refine (n2.out _).mono ?_
 rintro e w2 ⟨rfl, h2⟩
 have HB := Below.on h2 h1
 clear h1 h2
 go_wp2_with (with_reducible refine wpList_store_halt (o := ⟨_, .store 35 _ _, _, _, _, none⟩) (stSr Sr.zero (Blk.new0 w2 35 (srA Sr.zero)) Sr.zero) rfl _ _ rfl rfl rfl ?_)
 generalize hWN : setRow _ _ _ _ = WN
 have HBn : Below w.heap.size w WN := by rw [← hWN]; exact Below.row (HB.alloc HB.size _) HB.size (by have := HB.size; simp; omega)
 clear hWN
 unfold Halted
 go_wp2_with fail
 refine (n3.out _ HBn).mono ?_
 rintro e w3 ⟨rfl, h3⟩
 go_wp2_with fail
 go_ret
 exact ⟨rfl, Below.on h3 HBn⟩
end Go.Proofs.YtegaaccioppfjaaGreatDoor
end
