/- Plain laws and walks, each by its own conditions. -/
import Derived.Test.YtegaaccioppfjaaGreatDoorFt23
set_option linter.unusedSimpArgs false
set_option linter.unusedVariables false
set_option maxRecDepth 100000
set_option maxHeartbeats 16000000
section
namespace Go.Proofs.YtegaaccioppfjaaGreatDoor
open BigFrame Go.RowKit Go.Phx Go.Shelf
attribute [local go_sem] Oper.semAt_some

def firstB : List Int → Bool
 | [] => false
 | n :: r => if n = 0 then firstB r else decide (0 < n)
def cmpL (x y : Mk) (a b : Up) : List Int := [cmpP x.many y.many, cmpP x.few y.few, cmpP x.next y.next, cmpP x.final y.final, cmpP x.own y.own, cmpP x.all y.all, cmpP b.seen.b.slot a.seen.b.slot, cmpP b.slot a.slot]
theorem cmp_neg (a b : Int) : cmpP b a = cmpP (-a) (-b) := by unfold cmpP; (repeat' split) <;> omega
theorem first_cmp (x y : Int) (r s : List Int) (c : List Int) (h : firstB c = lexP r s) : firstB (cmpP x y :: c) = lexP (x :: r) (y :: s) := by
 unfold firstB lexP cmpP
 by_cases h1 : x < y
 ·rw [if_pos h1, if_neg (by omega), if_neg (by omega)]
  exact decide_eq_decide.2 (by omega)
 ·rw [if_neg h1]
  by_cases h2 : y < x
  ·rw [if_pos h2, if_neg (by omega), if_neg (by omega)]
   exact decide_eq_decide.2 (by omega)
  ·rw [if_neg h2, if_pos rfl, if_pos (by omega)]
   exact h
theorem better_first (a b : Up) : firstB (cmpL (marksM a) (marksM b) a b) = betterP a b := by
 unfold cmpL betterP marksP
 rw [cmp_neg a.seen.b.slot b.seen.b.slot, cmp_neg a.slot b.slot]
 exact first_cmp _ _ _ _ _ (first_cmp _ _ _ _ _ (first_cmp _ _ _ _ _ (first_cmp _ _ _ _ _ (first_cmp _ _ _ _ _ (first_cmp _ _ _ _ _ (first_cmp _ _ _ _ _ (first_cmp _ _ _ _ _ rfl)))))))
theorem first_at (c : List Int) : ∀ (k : Nat), k < c.length → (∀ j, j < k → c.getD j 0 = 0) → c.getD k 0 ≠ 0 → firstB c = decide (0 < c.getD k 0) := by
 induction c with
 | nil => intro k hk; cases hk
 | cons n r ih =>
  intro k hk h0 hn
  unfold firstB
  cases k with
  | zero => rw [if_neg (show n ≠ 0 from hn)]; rfl
  | succ k =>
   have := h0 0 (by omega)
   rw [if_pos (show n = 0 from this)]
   exact ih k (by simpa using hk) (fun j hj => h0 (j + 1) (by omega)) hn
theorem first_none (c : List Int) (h0 : ∀ j, j < c.length → c.getD j 0 = 0) : firstB c = false := by
 induction c with
 | nil => rfl
 | cons n r ih =>
  unfold firstB
  rw [if_pos (show n = 0 from h0 0 (by simp))]
  exact ih fun j hj => h0 (j + 1) (by simp; omega)
def ZeroTo (c : List Int) (k : Nat) : Prop := ∀ j, j < k → c.getD j 0 = 0
def BtW (w : World) (g b1 b2 : Nat) (a b : Up) (wx : World) : Prop := Blk wx g 33 (upA a) ∧ Blk wx (g + 1) 33 (upA b) ∧ Blk wx b1 87 (mkA (marksM a)) ∧ Blk wx b2 87 (mkA (marksM b)) ∧ Below w.heap.size w wx
theorem better_calls (a b : Up) (h1 : a.seen.b.slot < 18446744073709551616) (h2 : a.slot < 18446744073709551616) (h3 : a.fin.b.slot < 18446744073709551616) (h4 : b.seen.b.slot < 18446744073709551616) (h5 : b.slot < 18446744073709551616) (h6 : b.fin.b.slot < 18446744073709551616) (w : World) : Calls Tryz.prog 27 #[upV a, upV b] w (Ret w (.bool (betterP a b))) := by
 have n1 := fun W => marked_calls a h1 h2 h3 W
 have n2 := fun W => marked_calls b h4 h5 h6 W
 have hv := better_first a b
 generalize betterP a b = r at *
 replace hv := Lib.hid hv
 replace n1 := Lib.hid n1
 replace n2 := Lib.hid n2
 clear h1 h2 h3 h4 h5 h6
 go_enter Tryz.func27, Tryz.ntmps27
 go_wp2_with fail
 refine wp_scope_straight ?_
 go_upto_region 1 with fail
 have HB : Below w.heap.size w ((w.alloc (.cells (upA a) 33)).alloc (.cells (upA b) 33)) := bel
 have K0 := (Blk.new0 w 33 (upA a)).alloc (.cells (upA b) 33)
 have K1 := Blk.new1 w (.cells (upA a) 33) 33 (upA b)
 obtain ⟨W, hW⟩ : ∃ W, ((w.alloc (.cells (upA a) 33)).alloc (.cells (upA b) 33)) = W := ⟨_, rfl⟩
 rw [hW] at HB K0 K1 ⊢
 clear hW
 have hgl : w.heap.size ≤ w.heap.size := Nat.le_refl _
 obtain ⟨g, hg⟩ : ∃ g, w.heap.size = g := ⟨_, rfl⟩
 rw [hg] at K0 K1 ⊢
 replace hgl : w.heap.size ≤ g := by omega
 replace K0 := Lib.hid K0
 replace K1 := Lib.hid K1
 clear hg
 (obtain ⟨k0, f0, l0, m0⟩ := rl_ K0; obtain ⟨k1, f1, l1, m1⟩ := rl_ K1)
 go_cut [5, 6] (fun s5 s6 wx => ∃ b1 b2, s5 = .pointer (some ⟨b1, 0, none⟩) ∧ s6 = .pointer (some ⟨b2, 0, none⟩) ∧ BtW w g b1 b2 a b wx)
 case first =>
  have hwf : ∀ f, Fence.wide.fn f := fun _ => trivial
  refine (wpIn_wide (n := 9)).1 ?_
  refine wpIn_round_held (fun w' => Below W.heap.size W w') (fun j => true) (by kernel_rfl) ?_
  have hS0 : (fun w' => Below W.heap.size W w') W.drew := (Below.refl _ _).drew
  refine S_tk 0 (upV (a)) rfl hS0 (fun w' hw => exec_load rfl (by kernel_rfl) (ldUp (a) (K0.out.below hw))) ?_
  refine S_tk 2 (upV (b)) rfl hS0 (fun w' hw => exec_load rfl (by kernel_rfl) (ldUp (b) (K1.out.below hw))) ?_
  refine S_list [1, 4, 5] (by kernel_rfl) (by decide) ⟨?_, ?_, ?_, trivial⟩
  ·show wpOpIn _ _ _ _ _ 1 _ _ _
   refine op_call (nd := fun j => true) (S := fun w' => Below W.heap.size W w') (i := 1) rfl (fun K hK => ?_)
   go_simp
   gi_wp2_with (gi_at_call 72; refine (callsIn_wide.2 (n1.out _)).mono ?_; rintro e Wh1 ⟨rfl, hN⟩)
   replace hS0 := hS0.trans (hN.mono hS0.size)
   clear hN
   refine ⟨(fun _ => hS0), ?_⟩
   refine S_list [3, 4, 5] (by kernel_rfl) (by decide) ⟨?_, ?_, ?_, trivial⟩
   ·show wpOpIn _ _ _ _ _ 3 _ _ _
    refine op_call (nd := fun j => true) (S := fun w' => Below W.heap.size W w') (i := 3) rfl (fun K hK => ?_)
    go_simp
    gi_wp2_with (gi_at_call 72; refine (callsIn_wide.2 (n2.out _)).mono ?_; rintro e Wh2 ⟨rfl, hN⟩)
    replace hS0 := hS0.trans (hN.mono hS0.size)
    clear hN
    refine ⟨(fun _ => hS0), ?_⟩
    refine S_list [4, 5] (by kernel_rfl) (by decide) ⟨?_, ?_, trivial⟩
    ·show wpOpIn _ _ _ _ _ 4 _ _ _
     obtain ⟨x5n3, hbx⟩ : ∃ x, Wh2.heap.size = x := ⟨_, rfl⟩
     have hbx2 := hbx
     (try simp [go_sem] at hbx2)
     have hb5 : W.heap.size ≤ x5n3 := by rw [← hbx]; exact hS0.size
     have KA5 := Blk.new0 Wh2 87 (mkA Mk.zero)
     rw [hbx] at KA5
     replace KA5 := Lib.hid KA5
     replace hS0 : Below _ _ (Wh2.alloc (.cells (mkA Mk.zero) 87)) := hS0.alloc hS0.size _
     refine op_go (nd := fun j => true) (S := fun w' => Below W.heap.size W w') (i := 4) (fun _ => trivial) (by kernel_rfl) rfl (by kernel_rfl) (.pointer (some ⟨x5n3, 0, none⟩)) (Wh2.alloc (.cells (mkA Mk.zero) 87)) (by first | (go_simp; done) | (go_simp; rfl) | (go_simp; exact ⟨hbx2, rfl⟩)) (fun _ => hS0) ?_
     clear hbx hbx2
     obtain ⟨x6n4, hbx⟩ : ∃ x, (Wh2.alloc (.cells (mkA Mk.zero) 87)).heap.size = x := ⟨_, rfl⟩
     have hbx2 := hbx
     (try simp [go_sem] at hbx2)
     have hA5_6 : x5n3 < x6n4 := by rw [← hbx]; exact KA5.out.lt
     have hb6 : W.heap.size ≤ x6n4 := by rw [← hbx]; exact hS0.size
     replace KA5 := Lib.hid (KA5.out.alloc (.cells (mkA Mk.zero) 87))
     have KA6 := Blk.new0 (Wh2.alloc (.cells (mkA Mk.zero) 87)) 87 (mkA Mk.zero)
     rw [hbx] at KA6
     replace KA6 := Lib.hid KA6
     replace hS0 : Below _ _ ((Wh2.alloc (.cells (mkA Mk.zero) 87)).alloc (.cells (mkA Mk.zero) 87)) := hS0.alloc hS0.size _
     refine S_go 5 (fun _ => trivial) (by kernel_rfl) (by kernel_rfl) rfl (by kernel_rfl) (.pointer (some ⟨x6n4, 0, none⟩)) ((Wh2.alloc (.cells (mkA Mk.zero) 87)).alloc (.cells (mkA Mk.zero) 87)) (by first | (go_simp; done) | (go_simp; rfl) | (go_simp; exact ⟨hbx2, rfl⟩)) (fun _ => hS0) ?_
     clear hbx hbx2
     have hS1 : (fun w' => Below W.heap.size W w') (setRow ((Wh2.alloc (.cells (mkA Mk.zero) 87)).alloc (.cells (mkA Mk.zero) 87)) (x5n3) 87 (mkA (marksM a))) := Below.row hS0 hb5 hS0.size
     refine S_store 6 (fun _ => trivial) (by kernel_rfl) (by kernel_rfl) rfl (by kernel_rfl) (setRow ((Wh2.alloc (.cells (mkA Mk.zero) 87)).alloc (.cells (mkA Mk.zero) 87)) (x5n3) 87 (mkA (marksM a))) (exec_store _ _ rfl (by kernel_rfl) (by kernel_rfl) (stMk KA5.out rfl (marksM a))) (fun _ => hS1) ?_
     clear hS0
     have hS0 := hS1
     clear hS1
     replace KA6 := Lib.hid (Blk.rowOver (g' := x5n3) (t' := 87) (cs' := mkA (marksM a)) (by first | assumption | exact Nat.ne_of_lt (by assumption) | exact Nat.ne_of_gt (by assumption) | omega) KA6.out)
     replace KA5 := Lib.hid (Blk.row (t := 87) (cs := mkA (marksM a)) KA5.out.lt)
     have hS1 : (fun w' => Below W.heap.size W w') (setRow (setRow ((Wh2.alloc (.cells (mkA Mk.zero) 87)).alloc (.cells (mkA Mk.zero) 87)) (x5n3) 87 (mkA (marksM a))) (x6n4) 87 (mkA (marksM b))) := Below.row hS0 hb6 hS0.size
     refine S_store 7 (fun _ => trivial) (by kernel_rfl) (by kernel_rfl) rfl (by kernel_rfl) (setRow (setRow ((Wh2.alloc (.cells (mkA Mk.zero) 87)).alloc (.cells (mkA Mk.zero) 87)) (x5n3) 87 (mkA (marksM a))) (x6n4) 87 (mkA (marksM b))) (exec_store _ _ rfl (by kernel_rfl) (by kernel_rfl) (stMk KA6.out rfl (marksM b))) (fun _ => hS1) ?_
     clear hS0
     have hS0 := hS1
     clear hS1
     replace KA5 := Lib.hid (Blk.rowOver (g' := x6n4) (t' := 87) (cs' := mkA (marksM b)) (by first | assumption | exact Nat.ne_of_lt (by assumption) | exact Nat.ne_of_gt (by assumption) | omega) KA5.out)
     replace KA6 := Lib.hid (Blk.row (t := 87) (cs := mkA (marksM b)) KA6.out.lt)
     refine ⟨by kernel_rfl, rfl, ?_⟩
     (try simp only [World.size_alloc] at hS0 KA5 KA6)
     go_wp2_with fail
     go_meet
     case rel =>
      refine ⟨_, _, rfl, rfl, ?_⟩
      (try simp only [World.size_alloc])
      exact ⟨K0.out.below hS0, K1.out.below hS0, KA5.out, KA6.out, Below.on hS0 HB⟩
    ·show wpOpIn _ _ _ _ _ 5 _ _ _
     obtain ⟨x6n5, hbx⟩ : ∃ x, Wh2.heap.size = x := ⟨_, rfl⟩
     have hbx2 := hbx
     (try simp [go_sem] at hbx2)
     have hb6 : W.heap.size ≤ x6n5 := by rw [← hbx]; exact hS0.size
     have KA6 := Blk.new0 Wh2 87 (mkA Mk.zero)
     rw [hbx] at KA6
     replace KA6 := Lib.hid KA6
     replace hS0 : Below _ _ (Wh2.alloc (.cells (mkA Mk.zero) 87)) := hS0.alloc hS0.size _
     refine op_go (nd := fun j => true) (S := fun w' => Below W.heap.size W w') (i := 5) (fun _ => trivial) (by kernel_rfl) rfl (by kernel_rfl) (.pointer (some ⟨x6n5, 0, none⟩)) (Wh2.alloc (.cells (mkA Mk.zero) 87)) (by first | (go_simp; done) | (go_simp; rfl) | (go_simp; exact ⟨hbx2, rfl⟩)) (fun _ => hS0) ?_
     clear hbx hbx2
     obtain ⟨x5n6, hbx⟩ : ∃ x, (Wh2.alloc (.cells (mkA Mk.zero) 87)).heap.size = x := ⟨_, rfl⟩
     have hbx2 := hbx
     (try simp [go_sem] at hbx2)
     have hA6_5 : x6n5 < x5n6 := by rw [← hbx]; exact KA6.out.lt
     have hb5 : W.heap.size ≤ x5n6 := by rw [← hbx]; exact hS0.size
     replace KA6 := Lib.hid (KA6.out.alloc (.cells (mkA Mk.zero) 87))
     have KA5 := Blk.new0 (Wh2.alloc (.cells (mkA Mk.zero) 87)) 87 (mkA Mk.zero)
     rw [hbx] at KA5
     replace KA5 := Lib.hid KA5
     replace hS0 : Below _ _ ((Wh2.alloc (.cells (mkA Mk.zero) 87)).alloc (.cells (mkA Mk.zero) 87)) := hS0.alloc hS0.size _
     refine S_go 4 (fun _ => trivial) (by kernel_rfl) (by kernel_rfl) rfl (by kernel_rfl) (.pointer (some ⟨x5n6, 0, none⟩)) ((Wh2.alloc (.cells (mkA Mk.zero) 87)).alloc (.cells (mkA Mk.zero) 87)) (by first | (go_simp; done) | (go_simp; rfl) | (go_simp; exact ⟨hbx2, rfl⟩)) (fun _ => hS0) ?_
     clear hbx hbx2
     have hS1 : (fun w' => Below W.heap.size W w') (setRow ((Wh2.alloc (.cells (mkA Mk.zero) 87)).alloc (.cells (mkA Mk.zero) 87)) (x5n6) 87 (mkA (marksM a))) := Below.row hS0 hb5 hS0.size
     refine S_store 6 (fun _ => trivial) (by kernel_rfl) (by kernel_rfl) rfl (by kernel_rfl) (setRow ((Wh2.alloc (.cells (mkA Mk.zero) 87)).alloc (.cells (mkA Mk.zero) 87)) (x5n6) 87 (mkA (marksM a))) (exec_store _ _ rfl (by kernel_rfl) (by kernel_rfl) (stMk KA5.out rfl (marksM a))) (fun _ => hS1) ?_
     clear hS0
     have hS0 := hS1
     clear hS1
     replace KA6 := Lib.hid (Blk.rowOver (g' := x5n6) (t' := 87) (cs' := mkA (marksM a)) (by first | assumption | exact Nat.ne_of_lt (by assumption) | exact Nat.ne_of_gt (by assumption) | omega) KA6.out)
     replace KA5 := Lib.hid (Blk.row (t := 87) (cs := mkA (marksM a)) KA5.out.lt)
     have hS1 : (fun w' => Below W.heap.size W w') (setRow (setRow ((Wh2.alloc (.cells (mkA Mk.zero) 87)).alloc (.cells (mkA Mk.zero) 87)) (x5n6) 87 (mkA (marksM a))) (x6n5) 87 (mkA (marksM b))) := Below.row hS0 hb6 hS0.size
     refine S_store 7 (fun _ => trivial) (by kernel_rfl) (by kernel_rfl) rfl (by kernel_rfl) (setRow (setRow ((Wh2.alloc (.cells (mkA Mk.zero) 87)).alloc (.cells (mkA Mk.zero) 87)) (x5n6) 87 (mkA (marksM a))) (x6n5) 87 (mkA (marksM b))) (exec_store _ _ rfl (by kernel_rfl) (by kernel_rfl) (stMk KA6.out rfl (marksM b))) (fun _ => hS1) ?_
     clear hS0
     have hS0 := hS1
     clear hS1
     replace KA5 := Lib.hid (Blk.rowOver (g' := x6n5) (t' := 87) (cs' := mkA (marksM b)) (by first | assumption | exact Nat.ne_of_lt (by assumption) | exact Nat.ne_of_gt (by assumption) | omega) KA5.out)
     replace KA6 := Lib.hid (Blk.row (t := 87) (cs := mkA (marksM b)) KA6.out.lt)
     refine ⟨by kernel_rfl, rfl, ?_⟩
     (try simp only [World.size_alloc] at hS0 KA5 KA6)
     go_wp2_with fail
     go_meet
     case rel =>
      refine ⟨_, _, rfl, rfl, ?_⟩
      (try simp only [World.size_alloc])
      exact ⟨K0.out.below hS0, K1.out.below hS0, KA5.out, KA6.out, Below.on hS0 HB⟩
   ·show wpOpIn _ _ _ _ _ 4 _ _ _
    obtain ⟨x5n7, hbx⟩ : ∃ x, Wh1.heap.size = x := ⟨_, rfl⟩
    have hbx2 := hbx
    (try simp [go_sem] at hbx2)
    have hb5 : W.heap.size ≤ x5n7 := by rw [← hbx]; exact hS0.size
    have KA5 := Blk.new0 Wh1 87 (mkA Mk.zero)
    rw [hbx] at KA5
    replace KA5 := Lib.hid KA5
    replace hS0 : Below _ _ (Wh1.alloc (.cells (mkA Mk.zero) 87)) := hS0.alloc hS0.size _
    refine op_go (nd := fun j => true) (S := fun w' => Below W.heap.size W w') (i := 4) (fun _ => trivial) (by kernel_rfl) rfl (by kernel_rfl) (.pointer (some ⟨x5n7, 0, none⟩)) (Wh1.alloc (.cells (mkA Mk.zero) 87)) (by first | (go_simp; done) | (go_simp; rfl) | (go_simp; exact ⟨hbx2, rfl⟩)) (fun _ => hS0) ?_
    clear hbx hbx2
    refine S_list [3, 5] (by kernel_rfl) (by decide) ⟨?_, ?_, trivial⟩
    ·show wpOpIn _ _ _ _ _ 3 _ _ _
     refine op_call (nd := fun j => true) (S := fun w' => Below W.heap.size W w') (i := 3) rfl (fun K hK => ?_)
     go_simp
     gi_wp2_with (gi_at_call 72; refine (callsIn_wide.2 (n2.out _)).mono ?_; rintro e Wh8 ⟨rfl, hN⟩)
     replace KA5 := hn_ KA5 hN
     replace hS0 := hS0.trans (hN.mono hS0.size)
     clear hN
     refine ⟨(fun _ => hS0), ?_⟩
     obtain ⟨x6n9, hbx⟩ : ∃ x, Wh8.heap.size = x := ⟨_, rfl⟩
     have hbx2 := hbx
     (try simp [go_sem] at hbx2)
     have hA5_6 : x5n7 < x6n9 := by rw [← hbx]; exact KA5.out.lt
     have hb6 : W.heap.size ≤ x6n9 := by rw [← hbx]; exact hS0.size
     replace KA5 := Lib.hid (KA5.out.alloc (.cells (mkA Mk.zero) 87))
     have KA6 := Blk.new0 Wh8 87 (mkA Mk.zero)
     rw [hbx] at KA6
     replace KA6 := Lib.hid KA6
     replace hS0 : Below _ _ (Wh8.alloc (.cells (mkA Mk.zero) 87)) := hS0.alloc hS0.size _
     refine S_go 5 (fun _ => trivial) (by kernel_rfl) (by kernel_rfl) rfl (by kernel_rfl) (.pointer (some ⟨x6n9, 0, none⟩)) (Wh8.alloc (.cells (mkA Mk.zero) 87)) (by first | (go_simp; done) | (go_simp; rfl) | (go_simp; exact ⟨hbx2, rfl⟩)) (fun _ => hS0) ?_
     clear hbx hbx2
     have hS1 : (fun w' => Below W.heap.size W w') (setRow (Wh8.alloc (.cells (mkA Mk.zero) 87)) (x5n7) 87 (mkA (marksM a))) := Below.row hS0 hb5 hS0.size
     refine S_store 6 (fun _ => trivial) (by kernel_rfl) (by kernel_rfl) rfl (by kernel_rfl) (setRow (Wh8.alloc (.cells (mkA Mk.zero) 87)) (x5n7) 87 (mkA (marksM a))) (exec_store _ _ rfl (by kernel_rfl) (by kernel_rfl) (stMk KA5.out rfl (marksM a))) (fun _ => hS1) ?_
     clear hS0
     have hS0 := hS1
     clear hS1
     replace KA6 := Lib.hid (Blk.rowOver (g' := x5n7) (t' := 87) (cs' := mkA (marksM a)) (by first | assumption | exact Nat.ne_of_lt (by assumption) | exact Nat.ne_of_gt (by assumption) | omega) KA6.out)
     replace KA5 := Lib.hid (Blk.row (t := 87) (cs := mkA (marksM a)) KA5.out.lt)
     have hS1 : (fun w' => Below W.heap.size W w') (setRow (setRow (Wh8.alloc (.cells (mkA Mk.zero) 87)) (x5n7) 87 (mkA (marksM a))) (x6n9) 87 (mkA (marksM b))) := Below.row hS0 hb6 hS0.size
     refine S_store 7 (fun _ => trivial) (by kernel_rfl) (by kernel_rfl) rfl (by kernel_rfl) (setRow (setRow (Wh8.alloc (.cells (mkA Mk.zero) 87)) (x5n7) 87 (mkA (marksM a))) (x6n9) 87 (mkA (marksM b))) (exec_store _ _ rfl (by kernel_rfl) (by kernel_rfl) (stMk KA6.out rfl (marksM b))) (fun _ => hS1) ?_
     clear hS0
     have hS0 := hS1
     clear hS1
     replace KA5 := Lib.hid (Blk.rowOver (g' := x6n9) (t' := 87) (cs' := mkA (marksM b)) (by first | assumption | exact Nat.ne_of_lt (by assumption) | exact Nat.ne_of_gt (by assumption) | omega) KA5.out)
     replace KA6 := Lib.hid (Blk.row (t := 87) (cs := mkA (marksM b)) KA6.out.lt)
     refine ⟨by kernel_rfl, rfl, ?_⟩
     (try simp only [World.size_alloc] at hS0 KA5 KA6)
     go_wp2_with fail
     go_meet
     case rel =>
      refine ⟨_, _, rfl, rfl, ?_⟩
      (try simp only [World.size_alloc])
      exact ⟨K0.out.below hS0, K1.out.below hS0, KA5.out, KA6.out, Below.on hS0 HB⟩
    ·show wpOpIn _ _ _ _ _ 5 _ _ _
     obtain ⟨x6n10, hbx⟩ : ∃ x, (Wh1.alloc (.cells (mkA Mk.zero) 87)).heap.size = x := ⟨_, rfl⟩
     have hbx2 := hbx
     (try simp [go_sem] at hbx2)
     have hA5_6 : x5n7 < x6n10 := by rw [← hbx]; exact KA5.out.lt
     have hb6 : W.heap.size ≤ x6n10 := by rw [← hbx]; exact hS0.size
     replace KA5 := Lib.hid (KA5.out.alloc (.cells (mkA Mk.zero) 87))
     have KA6 := Blk.new0 (Wh1.alloc (.cells (mkA Mk.zero) 87)) 87 (mkA Mk.zero)
     rw [hbx] at KA6
     replace KA6 := Lib.hid KA6
     replace hS0 : Below _ _ ((Wh1.alloc (.cells (mkA Mk.zero) 87)).alloc (.cells (mkA Mk.zero) 87)) := hS0.alloc hS0.size _
     refine op_go (nd := fun j => true) (S := fun w' => Below W.heap.size W w') (i := 5) (fun _ => trivial) (by kernel_rfl) rfl (by kernel_rfl) (.pointer (some ⟨x6n10, 0, none⟩)) ((Wh1.alloc (.cells (mkA Mk.zero) 87)).alloc (.cells (mkA Mk.zero) 87)) (by first | (go_simp; done) | (go_simp; rfl) | (go_simp; exact ⟨hbx2, rfl⟩)) (fun _ => hS0) ?_
     clear hbx hbx2
     refine S_one 3 (by kernel_rfl) rfl (fun K hK => ?_)
     go_simp
     gi_wp2_with (gi_at_call 72; refine (callsIn_wide.2 (n2.out _)).mono ?_; rintro e Wh11 ⟨rfl, hN⟩)
     replace KA5 := hn_ KA5 hN
     replace KA6 := hn_ KA6 hN
     replace hS0 := hS0.trans (hN.mono hS0.size)
     clear hN
     refine ⟨(fun _ => hS0), ?_⟩
     have hS1 : (fun w' => Below W.heap.size W w') (setRow Wh11 (x5n7) 87 (mkA (marksM a))) := Below.row hS0 hb5 hS0.size
     refine S_store 6 (fun _ => trivial) (by kernel_rfl) (by kernel_rfl) rfl (by kernel_rfl) (setRow Wh11 (x5n7) 87 (mkA (marksM a))) (exec_store _ _ rfl (by kernel_rfl) (by kernel_rfl) (stMk KA5.out rfl (marksM a))) (fun _ => hS1) ?_
     clear hS0
     have hS0 := hS1
     clear hS1
     replace KA6 := Lib.hid (Blk.rowOver (g' := x5n7) (t' := 87) (cs' := mkA (marksM a)) (by first | assumption | exact Nat.ne_of_lt (by assumption) | exact Nat.ne_of_gt (by assumption) | omega) KA6.out)
     replace KA5 := Lib.hid (Blk.row (t := 87) (cs := mkA (marksM a)) KA5.out.lt)
     have hS1 : (fun w' => Below W.heap.size W w') (setRow (setRow Wh11 (x5n7) 87 (mkA (marksM a))) (x6n10) 87 (mkA (marksM b))) := Below.row hS0 hb6 hS0.size
     refine S_store 7 (fun _ => trivial) (by kernel_rfl) (by kernel_rfl) rfl (by kernel_rfl) (setRow (setRow Wh11 (x5n7) 87 (mkA (marksM a))) (x6n10) 87 (mkA (marksM b))) (exec_store _ _ rfl (by kernel_rfl) (by kernel_rfl) (stMk KA6.out rfl (marksM b))) (fun _ => hS1) ?_
     clear hS0
     have hS0 := hS1
     clear hS1
     replace KA5 := Lib.hid (Blk.rowOver (g' := x6n10) (t' := 87) (cs' := mkA (marksM b)) (by first | assumption | exact Nat.ne_of_lt (by assumption) | exact Nat.ne_of_gt (by assumption) | omega) KA5.out)
     replace KA6 := Lib.hid (Blk.row (t := 87) (cs := mkA (marksM b)) KA6.out.lt)
     refine ⟨by kernel_rfl, rfl, ?_⟩
     (try simp only [World.size_alloc] at hS0 KA5 KA6)
     go_wp2_with fail
     go_meet
     case rel =>
      refine ⟨_, _, rfl, rfl, ?_⟩
      (try simp only [World.size_alloc])
      exact ⟨K0.out.below hS0, K1.out.below hS0, KA5.out, KA6.out, Below.on hS0 HB⟩
   ·show wpOpIn _ _ _ _ _ 5 _ _ _
    obtain ⟨x6n12, hbx⟩ : ∃ x, Wh1.heap.size = x := ⟨_, rfl⟩
    have hbx2 := hbx
    (try simp [go_sem] at hbx2)
    have hb6 : W.heap.size ≤ x6n12 := by rw [← hbx]; exact hS0.size
    have KA6 := Blk.new0 Wh1 87 (mkA Mk.zero)
    rw [hbx] at KA6
    replace KA6 := Lib.hid KA6
    replace hS0 : Below _ _ (Wh1.alloc (.cells (mkA Mk.zero) 87)) := hS0.alloc hS0.size _
    refine op_go (nd := fun j => true) (S := fun w' => Below W.heap.size W w') (i := 5) (fun _ => trivial) (by kernel_rfl) rfl (by kernel_rfl) (.pointer (some ⟨x6n12, 0, none⟩)) (Wh1.alloc (.cells (mkA Mk.zero) 87)) (by first | (go_simp; done) | (go_simp; rfl) | (go_simp; exact ⟨hbx2, rfl⟩)) (fun _ => hS0) ?_
    clear hbx hbx2
    refine S_list [3, 4] (by kernel_rfl) (by decide) ⟨?_, ?_, trivial⟩
    ·show wpOpIn _ _ _ _ _ 3 _ _ _
     refine op_call (nd := fun j => true) (S := fun w' => Below W.heap.size W w') (i := 3) rfl (fun K hK => ?_)
     go_simp
     gi_wp2_with (gi_at_call 72; refine (callsIn_wide.2 (n2.out _)).mono ?_; rintro e Wh13 ⟨rfl, hN⟩)
     replace KA6 := hn_ KA6 hN
     replace hS0 := hS0.trans (hN.mono hS0.size)
     clear hN
     refine ⟨(fun _ => hS0), ?_⟩
     obtain ⟨x5n14, hbx⟩ : ∃ x, Wh13.heap.size = x := ⟨_, rfl⟩
     have hbx2 := hbx
     (try simp [go_sem] at hbx2)
     have hA6_5 : x6n12 < x5n14 := by rw [← hbx]; exact KA6.out.lt
     have hb5 : W.heap.size ≤ x5n14 := by rw [← hbx]; exact hS0.size
     replace KA6 := Lib.hid (KA6.out.alloc (.cells (mkA Mk.zero) 87))
     have KA5 := Blk.new0 Wh13 87 (mkA Mk.zero)
     rw [hbx] at KA5
     replace KA5 := Lib.hid KA5
     replace hS0 : Below _ _ (Wh13.alloc (.cells (mkA Mk.zero) 87)) := hS0.alloc hS0.size _
     refine S_go 4 (fun _ => trivial) (by kernel_rfl) (by kernel_rfl) rfl (by kernel_rfl) (.pointer (some ⟨x5n14, 0, none⟩)) (Wh13.alloc (.cells (mkA Mk.zero) 87)) (by first | (go_simp; done) | (go_simp; rfl) | (go_simp; exact ⟨hbx2, rfl⟩)) (fun _ => hS0) ?_
     clear hbx hbx2
     have hS1 : (fun w' => Below W.heap.size W w') (setRow (Wh13.alloc (.cells (mkA Mk.zero) 87)) (x5n14) 87 (mkA (marksM a))) := Below.row hS0 hb5 hS0.size
     refine S_store 6 (fun _ => trivial) (by kernel_rfl) (by kernel_rfl) rfl (by kernel_rfl) (setRow (Wh13.alloc (.cells (mkA Mk.zero) 87)) (x5n14) 87 (mkA (marksM a))) (exec_store _ _ rfl (by kernel_rfl) (by kernel_rfl) (stMk KA5.out rfl (marksM a))) (fun _ => hS1) ?_
     clear hS0
     have hS0 := hS1
     clear hS1
     replace KA6 := Lib.hid (Blk.rowOver (g' := x5n14) (t' := 87) (cs' := mkA (marksM a)) (by first | assumption | exact Nat.ne_of_lt (by assumption) | exact Nat.ne_of_gt (by assumption) | omega) KA6.out)
     replace KA5 := Lib.hid (Blk.row (t := 87) (cs := mkA (marksM a)) KA5.out.lt)
     have hS1 : (fun w' => Below W.heap.size W w') (setRow (setRow (Wh13.alloc (.cells (mkA Mk.zero) 87)) (x5n14) 87 (mkA (marksM a))) (x6n12) 87 (mkA (marksM b))) := Below.row hS0 hb6 hS0.size
     refine S_store 7 (fun _ => trivial) (by kernel_rfl) (by kernel_rfl) rfl (by kernel_rfl) (setRow (setRow (Wh13.alloc (.cells (mkA Mk.zero) 87)) (x5n14) 87 (mkA (marksM a))) (x6n12) 87 (mkA (marksM b))) (exec_store _ _ rfl (by kernel_rfl) (by kernel_rfl) (stMk KA6.out rfl (marksM b))) (fun _ => hS1) ?_
     clear hS0
     have hS0 := hS1
     clear hS1
     replace KA5 := Lib.hid (Blk.rowOver (g' := x6n12) (t' := 87) (cs' := mkA (marksM b)) (by first | assumption | exact Nat.ne_of_lt (by assumption) | exact Nat.ne_of_gt (by assumption) | omega) KA5.out)
     replace KA6 := Lib.hid (Blk.row (t := 87) (cs := mkA (marksM b)) KA6.out.lt)
     refine ⟨by kernel_rfl, rfl, ?_⟩
     (try simp only [World.size_alloc] at hS0 KA5 KA6)
     go_wp2_with fail
     go_meet
     case rel =>
      refine ⟨_, _, rfl, rfl, ?_⟩
      (try simp only [World.size_alloc])
      exact ⟨K0.out.below hS0, K1.out.below hS0, KA5.out, KA6.out, Below.on hS0 HB⟩
    ·show wpOpIn _ _ _ _ _ 4 _ _ _
     obtain ⟨x5n15, hbx⟩ : ∃ x, (Wh1.alloc (.cells (mkA Mk.zero) 87)).heap.size = x := ⟨_, rfl⟩
     have hbx2 := hbx
     (try simp [go_sem] at hbx2)
     have hA6_5 : x6n12 < x5n15 := by rw [← hbx]; exact KA6.out.lt
     have hb5 : W.heap.size ≤ x5n15 := by rw [← hbx]; exact hS0.size
     replace KA6 := Lib.hid (KA6.out.alloc (.cells (mkA Mk.zero) 87))
     have KA5 := Blk.new0 (Wh1.alloc (.cells (mkA Mk.zero) 87)) 87 (mkA Mk.zero)
     rw [hbx] at KA5
     replace KA5 := Lib.hid KA5
     replace hS0 : Below _ _ ((Wh1.alloc (.cells (mkA Mk.zero) 87)).alloc (.cells (mkA Mk.zero) 87)) := hS0.alloc hS0.size _
     refine op_go (nd := fun j => true) (S := fun w' => Below W.heap.size W w') (i := 4) (fun _ => trivial) (by kernel_rfl) rfl (by kernel_rfl) (.pointer (some ⟨x5n15, 0, none⟩)) ((Wh1.alloc (.cells (mkA Mk.zero) 87)).alloc (.cells (mkA Mk.zero) 87)) (by first | (go_simp; done) | (go_simp; rfl) | (go_simp; exact ⟨hbx2, rfl⟩)) (fun _ => hS0) ?_
     clear hbx hbx2
     refine S_one 3 (by kernel_rfl) rfl (fun K hK => ?_)
     go_simp
     gi_wp2_with (gi_at_call 72; refine (callsIn_wide.2 (n2.out _)).mono ?_; rintro e Wh16 ⟨rfl, hN⟩)
     replace KA6 := hn_ KA6 hN
     replace KA5 := hn_ KA5 hN
     replace hS0 := hS0.trans (hN.mono hS0.size)
     clear hN
     refine ⟨(fun _ => hS0), ?_⟩
     have hS1 : (fun w' => Below W.heap.size W w') (setRow Wh16 (x5n15) 87 (mkA (marksM a))) := Below.row hS0 hb5 hS0.size
     refine S_store 6 (fun _ => trivial) (by kernel_rfl) (by kernel_rfl) rfl (by kernel_rfl) (setRow Wh16 (x5n15) 87 (mkA (marksM a))) (exec_store _ _ rfl (by kernel_rfl) (by kernel_rfl) (stMk KA5.out rfl (marksM a))) (fun _ => hS1) ?_
     clear hS0
     have hS0 := hS1
     clear hS1
     replace KA6 := Lib.hid (Blk.rowOver (g' := x5n15) (t' := 87) (cs' := mkA (marksM a)) (by first | assumption | exact Nat.ne_of_lt (by assumption) | exact Nat.ne_of_gt (by assumption) | omega) KA6.out)
     replace KA5 := Lib.hid (Blk.row (t := 87) (cs := mkA (marksM a)) KA5.out.lt)
     have hS1 : (fun w' => Below W.heap.size W w') (setRow (setRow Wh16 (x5n15) 87 (mkA (marksM a))) (x6n12) 87 (mkA (marksM b))) := Below.row hS0 hb6 hS0.size
     refine S_store 7 (fun _ => trivial) (by kernel_rfl) (by kernel_rfl) rfl (by kernel_rfl) (setRow (setRow Wh16 (x5n15) 87 (mkA (marksM a))) (x6n12) 87 (mkA (marksM b))) (exec_store _ _ rfl (by kernel_rfl) (by kernel_rfl) (stMk KA6.out rfl (marksM b))) (fun _ => hS1) ?_
     clear hS0
     have hS0 := hS1
     clear hS1
     replace KA5 := Lib.hid (Blk.rowOver (g' := x6n12) (t' := 87) (cs' := mkA (marksM b)) (by first | assumption | exact Nat.ne_of_lt (by assumption) | exact Nat.ne_of_gt (by assumption) | omega) KA5.out)
     replace KA6 := Lib.hid (Blk.row (t := 87) (cs := mkA (marksM b)) KA6.out.lt)
     refine ⟨by kernel_rfl, rfl, ?_⟩
     (try simp only [World.size_alloc] at hS0 KA5 KA6)
     go_wp2_with fail
     go_meet
     case rel =>
      refine ⟨_, _, rfl, rfl, ?_⟩
      (try simp only [World.size_alloc])
      exact ⟨K0.out.below hS0, K1.out.below hS0, KA5.out, KA6.out, Below.on hS0 HB⟩
  ·show wpOpIn _ _ _ _ _ 4 _ _ _
   obtain ⟨x5n17, hbx⟩ : ∃ x, W.drew.heap.size = x := ⟨_, rfl⟩
   have hbx2 := hbx
   (try simp [go_sem] at hbx2)
   have hb5 : W.heap.size ≤ x5n17 := by rw [← hbx]; exact hS0.size
   have KA5 := Blk.new0 W.drew 87 (mkA Mk.zero)
   rw [hbx] at KA5
   replace KA5 := Lib.hid KA5
   replace hS0 : Below _ _ (W.drew.alloc (.cells (mkA Mk.zero) 87)) := hS0.alloc hS0.size _
   refine op_go (nd := fun j => true) (S := fun w' => Below W.heap.size W w') (i := 4) (fun _ => trivial) (by kernel_rfl) rfl (by kernel_rfl) (.pointer (some ⟨x5n17, 0, none⟩)) (W.drew.alloc (.cells (mkA Mk.zero) 87)) (by first | (go_simp; done) | (go_simp; rfl) | (go_simp; exact ⟨hbx2, rfl⟩)) (fun _ => hS0) ?_
   clear hbx hbx2
   refine S_list [1, 5] (by kernel_rfl) (by decide) ⟨?_, ?_, trivial⟩
   ·show wpOpIn _ _ _ _ _ 1 _ _ _
    refine op_call (nd := fun j => true) (S := fun w' => Below W.heap.size W w') (i := 1) rfl (fun K hK => ?_)
    go_simp
    gi_wp2_with (gi_at_call 72; refine (callsIn_wide.2 (n1.out _)).mono ?_; rintro e Wh18 ⟨rfl, hN⟩)
    replace KA5 := hn_ KA5 hN
    replace hS0 := hS0.trans (hN.mono hS0.size)
    clear hN
    refine ⟨(fun _ => hS0), ?_⟩
    refine S_list [3, 5] (by kernel_rfl) (by decide) ⟨?_, ?_, trivial⟩
    ·show wpOpIn _ _ _ _ _ 3 _ _ _
     refine op_call (nd := fun j => true) (S := fun w' => Below W.heap.size W w') (i := 3) rfl (fun K hK => ?_)
     go_simp
     gi_wp2_with (gi_at_call 72; refine (callsIn_wide.2 (n2.out _)).mono ?_; rintro e Wh19 ⟨rfl, hN⟩)
     replace KA5 := hn_ KA5 hN
     replace hS0 := hS0.trans (hN.mono hS0.size)
     clear hN
     refine ⟨(fun _ => hS0), ?_⟩
     obtain ⟨x6n20, hbx⟩ : ∃ x, Wh19.heap.size = x := ⟨_, rfl⟩
     have hbx2 := hbx
     (try simp [go_sem] at hbx2)
     have hA5_6 : x5n17 < x6n20 := by rw [← hbx]; exact KA5.out.lt
     have hb6 : W.heap.size ≤ x6n20 := by rw [← hbx]; exact hS0.size
     replace KA5 := Lib.hid (KA5.out.alloc (.cells (mkA Mk.zero) 87))
     have KA6 := Blk.new0 Wh19 87 (mkA Mk.zero)
     rw [hbx] at KA6
     replace KA6 := Lib.hid KA6
     replace hS0 : Below _ _ (Wh19.alloc (.cells (mkA Mk.zero) 87)) := hS0.alloc hS0.size _
     refine S_go 5 (fun _ => trivial) (by kernel_rfl) (by kernel_rfl) rfl (by kernel_rfl) (.pointer (some ⟨x6n20, 0, none⟩)) (Wh19.alloc (.cells (mkA Mk.zero) 87)) (by first | (go_simp; done) | (go_simp; rfl) | (go_simp; exact ⟨hbx2, rfl⟩)) (fun _ => hS0) ?_
     clear hbx hbx2
     have hS1 : (fun w' => Below W.heap.size W w') (setRow (Wh19.alloc (.cells (mkA Mk.zero) 87)) (x5n17) 87 (mkA (marksM a))) := Below.row hS0 hb5 hS0.size
     refine S_store 6 (fun _ => trivial) (by kernel_rfl) (by kernel_rfl) rfl (by kernel_rfl) (setRow (Wh19.alloc (.cells (mkA Mk.zero) 87)) (x5n17) 87 (mkA (marksM a))) (exec_store _ _ rfl (by kernel_rfl) (by kernel_rfl) (stMk KA5.out rfl (marksM a))) (fun _ => hS1) ?_
     clear hS0
     have hS0 := hS1
     clear hS1
     replace KA6 := Lib.hid (Blk.rowOver (g' := x5n17) (t' := 87) (cs' := mkA (marksM a)) (by first | assumption | exact Nat.ne_of_lt (by assumption) | exact Nat.ne_of_gt (by assumption) | omega) KA6.out)
     replace KA5 := Lib.hid (Blk.row (t := 87) (cs := mkA (marksM a)) KA5.out.lt)
     have hS1 : (fun w' => Below W.heap.size W w') (setRow (setRow (Wh19.alloc (.cells (mkA Mk.zero) 87)) (x5n17) 87 (mkA (marksM a))) (x6n20) 87 (mkA (marksM b))) := Below.row hS0 hb6 hS0.size
     refine S_store 7 (fun _ => trivial) (by kernel_rfl) (by kernel_rfl) rfl (by kernel_rfl) (setRow (setRow (Wh19.alloc (.cells (mkA Mk.zero) 87)) (x5n17) 87 (mkA (marksM a))) (x6n20) 87 (mkA (marksM b))) (exec_store _ _ rfl (by kernel_rfl) (by kernel_rfl) (stMk KA6.out rfl (marksM b))) (fun _ => hS1) ?_
     clear hS0
     have hS0 := hS1
     clear hS1
     replace KA5 := Lib.hid (Blk.rowOver (g' := x6n20) (t' := 87) (cs' := mkA (marksM b)) (by first | assumption | exact Nat.ne_of_lt (by assumption) | exact Nat.ne_of_gt (by assumption) | omega) KA5.out)
     replace KA6 := Lib.hid (Blk.row (t := 87) (cs := mkA (marksM b)) KA6.out.lt)
     refine ⟨by kernel_rfl, rfl, ?_⟩
     (try simp only [World.size_alloc] at hS0 KA5 KA6)
     go_wp2_with fail
     go_meet
     case rel =>
      refine ⟨_, _, rfl, rfl, ?_⟩
      (try simp only [World.size_alloc])
      exact ⟨K0.out.below hS0, K1.out.below hS0, KA5.out, KA6.out, Below.on hS0 HB⟩
    ·show wpOpIn _ _ _ _ _ 5 _ _ _
     obtain ⟨x6n21, hbx⟩ : ∃ x, Wh18.heap.size = x := ⟨_, rfl⟩
     have hbx2 := hbx
     (try simp [go_sem] at hbx2)
     have hA5_6 : x5n17 < x6n21 := by rw [← hbx]; exact KA5.out.lt
     have hb6 : W.heap.size ≤ x6n21 := by rw [← hbx]; exact hS0.size
     replace KA5 := Lib.hid (KA5.out.alloc (.cells (mkA Mk.zero) 87))
     have KA6 := Blk.new0 Wh18 87 (mkA Mk.zero)
     rw [hbx] at KA6
     replace KA6 := Lib.hid KA6
     replace hS0 : Below _ _ (Wh18.alloc (.cells (mkA Mk.zero) 87)) := hS0.alloc hS0.size _
     refine op_go (nd := fun j => true) (S := fun w' => Below W.heap.size W w') (i := 5) (fun _ => trivial) (by kernel_rfl) rfl (by kernel_rfl) (.pointer (some ⟨x6n21, 0, none⟩)) (Wh18.alloc (.cells (mkA Mk.zero) 87)) (by first | (go_simp; done) | (go_simp; rfl) | (go_simp; exact ⟨hbx2, rfl⟩)) (fun _ => hS0) ?_
     clear hbx hbx2
     refine S_one 3 (by kernel_rfl) rfl (fun K hK => ?_)
     go_simp
     gi_wp2_with (gi_at_call 72; refine (callsIn_wide.2 (n2.out _)).mono ?_; rintro e Wh22 ⟨rfl, hN⟩)
     replace KA5 := hn_ KA5 hN
     replace KA6 := hn_ KA6 hN
     replace hS0 := hS0.trans (hN.mono hS0.size)
     clear hN
     refine ⟨(fun _ => hS0), ?_⟩
     have hS1 : (fun w' => Below W.heap.size W w') (setRow Wh22 (x5n17) 87 (mkA (marksM a))) := Below.row hS0 hb5 hS0.size
     refine S_store 6 (fun _ => trivial) (by kernel_rfl) (by kernel_rfl) rfl (by kernel_rfl) (setRow Wh22 (x5n17) 87 (mkA (marksM a))) (exec_store _ _ rfl (by kernel_rfl) (by kernel_rfl) (stMk KA5.out rfl (marksM a))) (fun _ => hS1) ?_
     clear hS0
     have hS0 := hS1
     clear hS1
     replace KA6 := Lib.hid (Blk.rowOver (g' := x5n17) (t' := 87) (cs' := mkA (marksM a)) (by first | assumption | exact Nat.ne_of_lt (by assumption) | exact Nat.ne_of_gt (by assumption) | omega) KA6.out)
     replace KA5 := Lib.hid (Blk.row (t := 87) (cs := mkA (marksM a)) KA5.out.lt)
     have hS1 : (fun w' => Below W.heap.size W w') (setRow (setRow Wh22 (x5n17) 87 (mkA (marksM a))) (x6n21) 87 (mkA (marksM b))) := Below.row hS0 hb6 hS0.size
     refine S_store 7 (fun _ => trivial) (by kernel_rfl) (by kernel_rfl) rfl (by kernel_rfl) (setRow (setRow Wh22 (x5n17) 87 (mkA (marksM a))) (x6n21) 87 (mkA (marksM b))) (exec_store _ _ rfl (by kernel_rfl) (by kernel_rfl) (stMk KA6.out rfl (marksM b))) (fun _ => hS1) ?_
     clear hS0
     have hS0 := hS1
     clear hS1
     replace KA5 := Lib.hid (Blk.rowOver (g' := x6n21) (t' := 87) (cs' := mkA (marksM b)) (by first | assumption | exact Nat.ne_of_lt (by assumption) | exact Nat.ne_of_gt (by assumption) | omega) KA5.out)
     replace KA6 := Lib.hid (Blk.row (t := 87) (cs := mkA (marksM b)) KA6.out.lt)
     refine ⟨by kernel_rfl, rfl, ?_⟩
     (try simp only [World.size_alloc] at hS0 KA5 KA6)
     go_wp2_with fail
     go_meet
     case rel =>
      refine ⟨_, _, rfl, rfl, ?_⟩
      (try simp only [World.size_alloc])
      exact ⟨K0.out.below hS0, K1.out.below hS0, KA5.out, KA6.out, Below.on hS0 HB⟩
   ·show wpOpIn _ _ _ _ _ 5 _ _ _
    obtain ⟨x6n23, hbx⟩ : ∃ x, (W.drew.alloc (.cells (mkA Mk.zero) 87)).heap.size = x := ⟨_, rfl⟩
    have hbx2 := hbx
    (try simp [go_sem] at hbx2)
    have hA5_6 : x5n17 < x6n23 := by rw [← hbx]; exact KA5.out.lt
    have hb6 : W.heap.size ≤ x6n23 := by rw [← hbx]; exact hS0.size
    replace KA5 := Lib.hid (KA5.out.alloc (.cells (mkA Mk.zero) 87))
    have KA6 := Blk.new0 (W.drew.alloc (.cells (mkA Mk.zero) 87)) 87 (mkA Mk.zero)
    rw [hbx] at KA6
    replace KA6 := Lib.hid KA6
    replace hS0 : Below _ _ ((W.drew.alloc (.cells (mkA Mk.zero) 87)).alloc (.cells (mkA Mk.zero) 87)) := hS0.alloc hS0.size _
    refine op_go (nd := fun j => true) (S := fun w' => Below W.heap.size W w') (i := 5) (fun _ => trivial) (by kernel_rfl) rfl (by kernel_rfl) (.pointer (some ⟨x6n23, 0, none⟩)) ((W.drew.alloc (.cells (mkA Mk.zero) 87)).alloc (.cells (mkA Mk.zero) 87)) (by first | (go_simp; done) | (go_simp; rfl) | (go_simp; exact ⟨hbx2, rfl⟩)) (fun _ => hS0) ?_
    clear hbx hbx2
    refine S_one 1 (by kernel_rfl) rfl (fun K hK => ?_)
    go_simp
    gi_wp2_with (gi_at_call 72; refine (callsIn_wide.2 (n1.out _)).mono ?_; rintro e Wh24 ⟨rfl, hN⟩)
    replace KA5 := hn_ KA5 hN
    replace KA6 := hn_ KA6 hN
    replace hS0 := hS0.trans (hN.mono hS0.size)
    clear hN
    refine ⟨(fun _ => hS0), ?_⟩
    refine S_one 3 (by kernel_rfl) rfl (fun K hK => ?_)
    go_simp
    gi_wp2_with (gi_at_call 72; refine (callsIn_wide.2 (n2.out _)).mono ?_; rintro e Wh25 ⟨rfl, hN⟩)
    replace KA5 := hn_ KA5 hN
    replace KA6 := hn_ KA6 hN
    replace hS0 := hS0.trans (hN.mono hS0.size)
    clear hN
    refine ⟨(fun _ => hS0), ?_⟩
    have hS1 : (fun w' => Below W.heap.size W w') (setRow Wh25 (x5n17) 87 (mkA (marksM a))) := Below.row hS0 hb5 hS0.size
    refine S_store 6 (fun _ => trivial) (by kernel_rfl) (by kernel_rfl) rfl (by kernel_rfl) (setRow Wh25 (x5n17) 87 (mkA (marksM a))) (exec_store _ _ rfl (by kernel_rfl) (by kernel_rfl) (stMk KA5.out rfl (marksM a))) (fun _ => hS1) ?_
    clear hS0
    have hS0 := hS1
    clear hS1
    replace KA6 := Lib.hid (Blk.rowOver (g' := x5n17) (t' := 87) (cs' := mkA (marksM a)) (by first | assumption | exact Nat.ne_of_lt (by assumption) | exact Nat.ne_of_gt (by assumption) | omega) KA6.out)
    replace KA5 := Lib.hid (Blk.row (t := 87) (cs := mkA (marksM a)) KA5.out.lt)
    have hS1 : (fun w' => Below W.heap.size W w') (setRow (setRow Wh25 (x5n17) 87 (mkA (marksM a))) (x6n23) 87 (mkA (marksM b))) := Below.row hS0 hb6 hS0.size
    refine S_store 7 (fun _ => trivial) (by kernel_rfl) (by kernel_rfl) rfl (by kernel_rfl) (setRow (setRow Wh25 (x5n17) 87 (mkA (marksM a))) (x6n23) 87 (mkA (marksM b))) (exec_store _ _ rfl (by kernel_rfl) (by kernel_rfl) (stMk KA6.out rfl (marksM b))) (fun _ => hS1) ?_
    clear hS0
    have hS0 := hS1
    clear hS1
    replace KA5 := Lib.hid (Blk.rowOver (g' := x6n23) (t' := 87) (cs' := mkA (marksM b)) (by first | assumption | exact Nat.ne_of_lt (by assumption) | exact Nat.ne_of_gt (by assumption) | omega) KA5.out)
    replace KA6 := Lib.hid (Blk.row (t := 87) (cs := mkA (marksM b)) KA6.out.lt)
    refine ⟨by kernel_rfl, rfl, ?_⟩
    (try simp only [World.size_alloc] at hS0 KA5 KA6)
    go_wp2_with fail
    go_meet
    case rel =>
     refine ⟨_, _, rfl, rfl, ?_⟩
     (try simp only [World.size_alloc])
     exact ⟨K0.out.below hS0, K1.out.below hS0, KA5.out, KA6.out, Below.on hS0 HB⟩
  ·show wpOpIn _ _ _ _ _ 5 _ _ _
   obtain ⟨x6n26, hbx⟩ : ∃ x, W.drew.heap.size = x := ⟨_, rfl⟩
   have hbx2 := hbx
   (try simp [go_sem] at hbx2)
   have hb6 : W.heap.size ≤ x6n26 := by rw [← hbx]; exact hS0.size
   have KA6 := Blk.new0 W.drew 87 (mkA Mk.zero)
   rw [hbx] at KA6
   replace KA6 := Lib.hid KA6
   replace hS0 : Below _ _ (W.drew.alloc (.cells (mkA Mk.zero) 87)) := hS0.alloc hS0.size _
   refine op_go (nd := fun j => true) (S := fun w' => Below W.heap.size W w') (i := 5) (fun _ => trivial) (by kernel_rfl) rfl (by kernel_rfl) (.pointer (some ⟨x6n26, 0, none⟩)) (W.drew.alloc (.cells (mkA Mk.zero) 87)) (by first | (go_simp; done) | (go_simp; rfl) | (go_simp; exact ⟨hbx2, rfl⟩)) (fun _ => hS0) ?_
   clear hbx hbx2
   refine S_list [1, 4] (by kernel_rfl) (by decide) ⟨?_, ?_, trivial⟩
   ·show wpOpIn _ _ _ _ _ 1 _ _ _
    refine op_call (nd := fun j => true) (S := fun w' => Below W.heap.size W w') (i := 1) rfl (fun K hK => ?_)
    go_simp
    gi_wp2_with (gi_at_call 72; refine (callsIn_wide.2 (n1.out _)).mono ?_; rintro e Wh27 ⟨rfl, hN⟩)
    replace KA6 := hn_ KA6 hN
    replace hS0 := hS0.trans (hN.mono hS0.size)
    clear hN
    refine ⟨(fun _ => hS0), ?_⟩
    refine S_list [3, 4] (by kernel_rfl) (by decide) ⟨?_, ?_, trivial⟩
    ·show wpOpIn _ _ _ _ _ 3 _ _ _
     refine op_call (nd := fun j => true) (S := fun w' => Below W.heap.size W w') (i := 3) rfl (fun K hK => ?_)
     go_simp
     gi_wp2_with (gi_at_call 72; refine (callsIn_wide.2 (n2.out _)).mono ?_; rintro e Wh28 ⟨rfl, hN⟩)
     replace KA6 := hn_ KA6 hN
     replace hS0 := hS0.trans (hN.mono hS0.size)
     clear hN
     refine ⟨(fun _ => hS0), ?_⟩
     obtain ⟨x5n29, hbx⟩ : ∃ x, Wh28.heap.size = x := ⟨_, rfl⟩
     have hbx2 := hbx
     (try simp [go_sem] at hbx2)
     have hA6_5 : x6n26 < x5n29 := by rw [← hbx]; exact KA6.out.lt
     have hb5 : W.heap.size ≤ x5n29 := by rw [← hbx]; exact hS0.size
     replace KA6 := Lib.hid (KA6.out.alloc (.cells (mkA Mk.zero) 87))
     have KA5 := Blk.new0 Wh28 87 (mkA Mk.zero)
     rw [hbx] at KA5
     replace KA5 := Lib.hid KA5
     replace hS0 : Below _ _ (Wh28.alloc (.cells (mkA Mk.zero) 87)) := hS0.alloc hS0.size _
     refine S_go 4 (fun _ => trivial) (by kernel_rfl) (by kernel_rfl) rfl (by kernel_rfl) (.pointer (some ⟨x5n29, 0, none⟩)) (Wh28.alloc (.cells (mkA Mk.zero) 87)) (by first | (go_simp; done) | (go_simp; rfl) | (go_simp; exact ⟨hbx2, rfl⟩)) (fun _ => hS0) ?_
     clear hbx hbx2
     have hS1 : (fun w' => Below W.heap.size W w') (setRow (Wh28.alloc (.cells (mkA Mk.zero) 87)) (x5n29) 87 (mkA (marksM a))) := Below.row hS0 hb5 hS0.size
     refine S_store 6 (fun _ => trivial) (by kernel_rfl) (by kernel_rfl) rfl (by kernel_rfl) (setRow (Wh28.alloc (.cells (mkA Mk.zero) 87)) (x5n29) 87 (mkA (marksM a))) (exec_store _ _ rfl (by kernel_rfl) (by kernel_rfl) (stMk KA5.out rfl (marksM a))) (fun _ => hS1) ?_
     clear hS0
     have hS0 := hS1
     clear hS1
     replace KA6 := Lib.hid (Blk.rowOver (g' := x5n29) (t' := 87) (cs' := mkA (marksM a)) (by first | assumption | exact Nat.ne_of_lt (by assumption) | exact Nat.ne_of_gt (by assumption) | omega) KA6.out)
     replace KA5 := Lib.hid (Blk.row (t := 87) (cs := mkA (marksM a)) KA5.out.lt)
     have hS1 : (fun w' => Below W.heap.size W w') (setRow (setRow (Wh28.alloc (.cells (mkA Mk.zero) 87)) (x5n29) 87 (mkA (marksM a))) (x6n26) 87 (mkA (marksM b))) := Below.row hS0 hb6 hS0.size
     refine S_store 7 (fun _ => trivial) (by kernel_rfl) (by kernel_rfl) rfl (by kernel_rfl) (setRow (setRow (Wh28.alloc (.cells (mkA Mk.zero) 87)) (x5n29) 87 (mkA (marksM a))) (x6n26) 87 (mkA (marksM b))) (exec_store _ _ rfl (by kernel_rfl) (by kernel_rfl) (stMk KA6.out rfl (marksM b))) (fun _ => hS1) ?_
     clear hS0
     have hS0 := hS1
     clear hS1
     replace KA5 := Lib.hid (Blk.rowOver (g' := x6n26) (t' := 87) (cs' := mkA (marksM b)) (by first | assumption | exact Nat.ne_of_lt (by assumption) | exact Nat.ne_of_gt (by assumption) | omega) KA5.out)
     replace KA6 := Lib.hid (Blk.row (t := 87) (cs := mkA (marksM b)) KA6.out.lt)
     refine ⟨by kernel_rfl, rfl, ?_⟩
     (try simp only [World.size_alloc] at hS0 KA5 KA6)
     go_wp2_with fail
     go_meet
     case rel =>
      refine ⟨_, _, rfl, rfl, ?_⟩
      (try simp only [World.size_alloc])
      exact ⟨K0.out.below hS0, K1.out.below hS0, KA5.out, KA6.out, Below.on hS0 HB⟩
    ·show wpOpIn _ _ _ _ _ 4 _ _ _
     obtain ⟨x5n30, hbx⟩ : ∃ x, Wh27.heap.size = x := ⟨_, rfl⟩
     have hbx2 := hbx
     (try simp [go_sem] at hbx2)
     have hA6_5 : x6n26 < x5n30 := by rw [← hbx]; exact KA6.out.lt
     have hb5 : W.heap.size ≤ x5n30 := by rw [← hbx]; exact hS0.size
     replace KA6 := Lib.hid (KA6.out.alloc (.cells (mkA Mk.zero) 87))
     have KA5 := Blk.new0 Wh27 87 (mkA Mk.zero)
     rw [hbx] at KA5
     replace KA5 := Lib.hid KA5
     replace hS0 : Below _ _ (Wh27.alloc (.cells (mkA Mk.zero) 87)) := hS0.alloc hS0.size _
     refine op_go (nd := fun j => true) (S := fun w' => Below W.heap.size W w') (i := 4) (fun _ => trivial) (by kernel_rfl) rfl (by kernel_rfl) (.pointer (some ⟨x5n30, 0, none⟩)) (Wh27.alloc (.cells (mkA Mk.zero) 87)) (by first | (go_simp; done) | (go_simp; rfl) | (go_simp; exact ⟨hbx2, rfl⟩)) (fun _ => hS0) ?_
     clear hbx hbx2
     refine S_one 3 (by kernel_rfl) rfl (fun K hK => ?_)
     go_simp
     gi_wp2_with (gi_at_call 72; refine (callsIn_wide.2 (n2.out _)).mono ?_; rintro e Wh31 ⟨rfl, hN⟩)
     replace KA6 := hn_ KA6 hN
     replace KA5 := hn_ KA5 hN
     replace hS0 := hS0.trans (hN.mono hS0.size)
     clear hN
     refine ⟨(fun _ => hS0), ?_⟩
     have hS1 : (fun w' => Below W.heap.size W w') (setRow Wh31 (x5n30) 87 (mkA (marksM a))) := Below.row hS0 hb5 hS0.size
     refine S_store 6 (fun _ => trivial) (by kernel_rfl) (by kernel_rfl) rfl (by kernel_rfl) (setRow Wh31 (x5n30) 87 (mkA (marksM a))) (exec_store _ _ rfl (by kernel_rfl) (by kernel_rfl) (stMk KA5.out rfl (marksM a))) (fun _ => hS1) ?_
     clear hS0
     have hS0 := hS1
     clear hS1
     replace KA6 := Lib.hid (Blk.rowOver (g' := x5n30) (t' := 87) (cs' := mkA (marksM a)) (by first | assumption | exact Nat.ne_of_lt (by assumption) | exact Nat.ne_of_gt (by assumption) | omega) KA6.out)
     replace KA5 := Lib.hid (Blk.row (t := 87) (cs := mkA (marksM a)) KA5.out.lt)
     have hS1 : (fun w' => Below W.heap.size W w') (setRow (setRow Wh31 (x5n30) 87 (mkA (marksM a))) (x6n26) 87 (mkA (marksM b))) := Below.row hS0 hb6 hS0.size
     refine S_store 7 (fun _ => trivial) (by kernel_rfl) (by kernel_rfl) rfl (by kernel_rfl) (setRow (setRow Wh31 (x5n30) 87 (mkA (marksM a))) (x6n26) 87 (mkA (marksM b))) (exec_store _ _ rfl (by kernel_rfl) (by kernel_rfl) (stMk KA6.out rfl (marksM b))) (fun _ => hS1) ?_
     clear hS0
     have hS0 := hS1
     clear hS1
     replace KA5 := Lib.hid (Blk.rowOver (g' := x6n26) (t' := 87) (cs' := mkA (marksM b)) (by first | assumption | exact Nat.ne_of_lt (by assumption) | exact Nat.ne_of_gt (by assumption) | omega) KA5.out)
     replace KA6 := Lib.hid (Blk.row (t := 87) (cs := mkA (marksM b)) KA6.out.lt)
     refine ⟨by kernel_rfl, rfl, ?_⟩
     (try simp only [World.size_alloc] at hS0 KA5 KA6)
     go_wp2_with fail
     go_meet
     case rel =>
      refine ⟨_, _, rfl, rfl, ?_⟩
      (try simp only [World.size_alloc])
      exact ⟨K0.out.below hS0, K1.out.below hS0, KA5.out, KA6.out, Below.on hS0 HB⟩
   ·show wpOpIn _ _ _ _ _ 4 _ _ _
    obtain ⟨x5n32, hbx⟩ : ∃ x, (W.drew.alloc (.cells (mkA Mk.zero) 87)).heap.size = x := ⟨_, rfl⟩
    have hbx2 := hbx
    (try simp [go_sem] at hbx2)
    have hA6_5 : x6n26 < x5n32 := by rw [← hbx]; exact KA6.out.lt
    have hb5 : W.heap.size ≤ x5n32 := by rw [← hbx]; exact hS0.size
    replace KA6 := Lib.hid (KA6.out.alloc (.cells (mkA Mk.zero) 87))
    have KA5 := Blk.new0 (W.drew.alloc (.cells (mkA Mk.zero) 87)) 87 (mkA Mk.zero)
    rw [hbx] at KA5
    replace KA5 := Lib.hid KA5
    replace hS0 : Below _ _ ((W.drew.alloc (.cells (mkA Mk.zero) 87)).alloc (.cells (mkA Mk.zero) 87)) := hS0.alloc hS0.size _
    refine op_go (nd := fun j => true) (S := fun w' => Below W.heap.size W w') (i := 4) (fun _ => trivial) (by kernel_rfl) rfl (by kernel_rfl) (.pointer (some ⟨x5n32, 0, none⟩)) ((W.drew.alloc (.cells (mkA Mk.zero) 87)).alloc (.cells (mkA Mk.zero) 87)) (by first | (go_simp; done) | (go_simp; rfl) | (go_simp; exact ⟨hbx2, rfl⟩)) (fun _ => hS0) ?_
    clear hbx hbx2
    refine S_one 1 (by kernel_rfl) rfl (fun K hK => ?_)
    go_simp
    gi_wp2_with (gi_at_call 72; refine (callsIn_wide.2 (n1.out _)).mono ?_; rintro e Wh33 ⟨rfl, hN⟩)
    replace KA6 := hn_ KA6 hN
    replace KA5 := hn_ KA5 hN
    replace hS0 := hS0.trans (hN.mono hS0.size)
    clear hN
    refine ⟨(fun _ => hS0), ?_⟩
    refine S_one 3 (by kernel_rfl) rfl (fun K hK => ?_)
    go_simp
    gi_wp2_with (gi_at_call 72; refine (callsIn_wide.2 (n2.out _)).mono ?_; rintro e Wh34 ⟨rfl, hN⟩)
    replace KA6 := hn_ KA6 hN
    replace KA5 := hn_ KA5 hN
    replace hS0 := hS0.trans (hN.mono hS0.size)
    clear hN
    refine ⟨(fun _ => hS0), ?_⟩
    have hS1 : (fun w' => Below W.heap.size W w') (setRow Wh34 (x5n32) 87 (mkA (marksM a))) := Below.row hS0 hb5 hS0.size
    refine S_store 6 (fun _ => trivial) (by kernel_rfl) (by kernel_rfl) rfl (by kernel_rfl) (setRow Wh34 (x5n32) 87 (mkA (marksM a))) (exec_store _ _ rfl (by kernel_rfl) (by kernel_rfl) (stMk KA5.out rfl (marksM a))) (fun _ => hS1) ?_
    clear hS0
    have hS0 := hS1
    clear hS1
    replace KA6 := Lib.hid (Blk.rowOver (g' := x5n32) (t' := 87) (cs' := mkA (marksM a)) (by first | assumption | exact Nat.ne_of_lt (by assumption) | exact Nat.ne_of_gt (by assumption) | omega) KA6.out)
    replace KA5 := Lib.hid (Blk.row (t := 87) (cs := mkA (marksM a)) KA5.out.lt)
    have hS1 : (fun w' => Below W.heap.size W w') (setRow (setRow Wh34 (x5n32) 87 (mkA (marksM a))) (x6n26) 87 (mkA (marksM b))) := Below.row hS0 hb6 hS0.size
    refine S_store 7 (fun _ => trivial) (by kernel_rfl) (by kernel_rfl) rfl (by kernel_rfl) (setRow (setRow Wh34 (x5n32) 87 (mkA (marksM a))) (x6n26) 87 (mkA (marksM b))) (exec_store _ _ rfl (by kernel_rfl) (by kernel_rfl) (stMk KA6.out rfl (marksM b))) (fun _ => hS1) ?_
    clear hS0
    have hS0 := hS1
    clear hS1
    replace KA5 := Lib.hid (Blk.rowOver (g' := x6n26) (t' := 87) (cs' := mkA (marksM b)) (by first | assumption | exact Nat.ne_of_lt (by assumption) | exact Nat.ne_of_gt (by assumption) | omega) KA5.out)
    replace KA6 := Lib.hid (Blk.row (t := 87) (cs := mkA (marksM b)) KA6.out.lt)
    refine ⟨by kernel_rfl, rfl, ?_⟩
    (try simp only [World.size_alloc] at hS0 KA5 KA6)
    go_wp2_with fail
    go_meet
    case rel =>
     refine ⟨_, _, rfl, rfl, ?_⟩
     (try simp only [World.size_alloc])
     exact ⟨K0.out.below hS0, K1.out.below hS0, KA5.out, KA6.out, Below.on hS0 HB⟩
 case rest =>
  obtain ⟨b1, b2, rfl, rfl, hW⟩ := hcut
  have j0 := Lib.hid hW.1
  have j1 := Lib.hid hW.2.1
  have j2 := Lib.hid hW.2.2.1
  have j3 := Lib.hid hW.2.2.2.1
  have HBn := hW.2.2.2.2
  clear hW k0 f0 l0 m0 k1 f1 l1 m1 K0 K1 HB n1 n2
  have K0 := j0; have K1 := j1; have K2 := j2; have K3 := j3; have HB := HBn
  clear j0 j1 j2 j3 HBn
  obtain ⟨cl, hcl⟩ : ∃ cl, cmpL (marksM a) (marksM b) a b = cl := ⟨_, rfl⟩
  unfold cmpL at hcl
  have hv2 := hv.out
  generalize marksM a = x at *
  generalize marksM b = y at *
  have n1 : ∀ (p q : Int) (W : World), Calls Tryz.prog 73 #[.int .i64 p, .int .i64 q] W (fun e w' => e = .returned (.int .i64 (cmpP p q)) ∧ w' = W) := cmpI_calls
  have n2 : ∀ (p q : Int) (W : World), Calls Tryz.prog 74 #[.int .u64 p, .int .u64 q] W (fun e w' => e = .returned (.int .i64 (cmpP p q)) ∧ w' = W) := cmpU_calls
  replace n1 := Lib.hid n1
  replace n2 := Lib.hid n2
  replace hcl := Lib.hid hcl
  go_upto_region 3 with fail
  refine wp_label ?_
  go_upto_region 3 with fail
  obtain ⟨W, hWc⟩ : ∃ W, W = wc := ⟨_, rfl⟩
  subst hWc
  have hwf : ∀ f, Fence.wide.fn f := fun _ => trivial
  refine (wpIn_wide (n := 9)).1 ?_
  refine wpIn_round_held (fun w' => Below W.heap.size W w') (fun j => true) (by kernel_rfl) ?_
  have hS0 : (fun w' => Below W.heap.size W w') W.drew := (Below.refl _ _).drew
  refine S_tg 0 (.pointer (some ⟨b1, 0, none⟩)) rfl hS0 ?_
  refine S_tk 1 (.int .i64 x.many) rfl hS0 (fun w' hw => exec_load rfl (by kernel_rfl) (run_load_cell (i := 0) (K2.out.below hw) rfl szInt nrInt)) ?_
  refine S_tg 2 (.pointer (some ⟨b2, 0, none⟩)) rfl hS0 ?_
  refine S_tk 3 (.int .i64 y.many) rfl hS0 (fun w' hw => exec_load rfl (by kernel_rfl) (run_load_cell (i := 0) (K3.out.below hw) rfl szInt nrInt)) ?_
  refine S_tg 5 (.pointer (some ⟨b1, 1, none⟩)) rfl hS0 ?_
  refine S_tk 6 (.int .i64 x.few) rfl hS0 (fun w' hw => exec_load rfl (by kernel_rfl) (run_load_cell (i := 1) (K2.out.below hw) rfl szInt nrInt)) ?_
  refine S_tg 7 (.pointer (some ⟨b2, 1, none⟩)) rfl hS0 ?_
  refine S_tk 8 (.int .i64 y.few) rfl hS0 (fun w' hw => exec_load rfl (by kernel_rfl) (run_load_cell (i := 1) (K3.out.below hw) rfl szInt nrInt)) ?_
  refine S_tg 10 (.pointer (some ⟨b1, 2, none⟩)) rfl hS0 ?_
  refine S_tk 11 (.int .i64 x.next) rfl hS0 (fun w' hw => exec_load rfl (by kernel_rfl) (run_load_cell (i := 2) (K2.out.below hw) rfl szInt nrInt)) ?_
  refine S_tg 12 (.pointer (some ⟨b2, 2, none⟩)) rfl hS0 ?_
  refine S_tk 13 (.int .i64 y.next) rfl hS0 (fun w' hw => exec_load rfl (by kernel_rfl) (run_load_cell (i := 2) (K3.out.below hw) rfl szInt nrInt)) ?_
  refine S_tg 15 (.pointer (some ⟨b1, 3, none⟩)) rfl hS0 ?_
  refine S_tk 16 (.int .i64 x.final) rfl hS0 (fun w' hw => exec_load rfl (by kernel_rfl) (run_load_cell (i := 3) (K2.out.below hw) rfl szInt nrInt)) ?_
  refine S_tg 17 (.pointer (some ⟨b2, 3, none⟩)) rfl hS0 ?_
  refine S_tk 18 (.int .i64 y.final) rfl hS0 (fun w' hw => exec_load rfl (by kernel_rfl) (run_load_cell (i := 3) (K3.out.below hw) rfl szInt nrInt)) ?_
  refine S_tg 20 (.pointer (some ⟨b1, 4, none⟩)) rfl hS0 ?_
  refine S_tk 21 (.int .i64 x.own) rfl hS0 (fun w' hw => exec_load rfl (by kernel_rfl) (run_load_cell (i := 4) (K2.out.below hw) rfl szInt nrInt)) ?_
  refine S_tg 22 (.pointer (some ⟨b2, 4, none⟩)) rfl hS0 ?_
  refine S_tk 23 (.int .i64 y.own) rfl hS0 (fun w' hw => exec_load rfl (by kernel_rfl) (run_load_cell (i := 4) (K3.out.below hw) rfl szInt nrInt)) ?_
  refine S_tg 25 (.pointer (some ⟨b1, 5, none⟩)) rfl hS0 ?_
  refine S_tk 26 (.int .i64 x.all) rfl hS0 (fun w' hw => exec_load rfl (by kernel_rfl) (run_load_cell (i := 5) (K2.out.below hw) rfl szInt nrInt)) ?_
  refine S_tg 27 (.pointer (some ⟨b2, 5, none⟩)) rfl hS0 ?_
  refine S_tk 28 (.int .i64 y.all) rfl hS0 (fun w' hw => exec_load rfl (by kernel_rfl) (run_load_cell (i := 5) (K3.out.below hw) rfl szInt nrInt)) ?_
  refine S_tg 30 (.pointer (some ⟨(g + 1), 0, none⟩)) rfl hS0 ?_
  refine S_tg 31 (.pointer (some ⟨(g + 1), 0, none⟩)) rfl hS0 ?_
  refine S_tg 32 (.pointer (some ⟨(g + 1), 0, none⟩)) rfl hS0 ?_
  refine S_tk 33 (.int .u64 (b.seen.b.slot : Int)) rfl hS0 (fun w' hw => exec_load rfl (by kernel_rfl) (run_load_cell (i := 0) (K1.out.below hw) rfl szU64 nrU64)) ?_
  refine S_tg 34 (.pointer (some ⟨g, 0, none⟩)) rfl hS0 ?_
  refine S_tg 35 (.pointer (some ⟨g, 0, none⟩)) rfl hS0 ?_
  refine S_tg 36 (.pointer (some ⟨g, 0, none⟩)) rfl hS0 ?_
  refine S_tk 37 (.int .u64 (a.seen.b.slot : Int)) rfl hS0 (fun w' hw => exec_load rfl (by kernel_rfl) (run_load_cell (i := 0) (K0.out.below hw) rfl szU64 nrU64)) ?_
  refine S_tg 39 (.pointer (some ⟨(g + 1), 24, none⟩)) rfl hS0 ?_
  refine S_tk 40 (.int .u64 (b.slot : Int)) rfl hS0 (fun w' hw => exec_load rfl (by kernel_rfl) (run_load_cell (i := 24) (K1.out.below hw) rfl szU64 nrU64)) ?_
  refine S_tg 41 (.pointer (some ⟨g, 24, none⟩)) rfl hS0 ?_
  refine S_tk 42 (.int .u64 (a.slot : Int)) rfl hS0 (fun w' hw => exec_load rfl (by kernel_rfl) (run_load_cell (i := 24) (K0.out.below hw) rfl szU64 nrU64)) ?_
  refine S_tg 46 (.int .i64 0) rfl hS0 ?_
  refine S_one 4 (by kernel_rfl) rfl (fun K hK => ?_)
  go_simp
  gi_wp2_with (gi_at_call 73; refine (callsIn_wide.2 (n1.out _ _ _)).mono ?_; rintro e Wh1 ⟨rfl, hN⟩; obtain rfl : W.drew = Wh1 := (by first | exact hN | exact hN.symm))
  refine ⟨(fun _ => hS0), ?_⟩
  refine S_one 9 (by kernel_rfl) rfl (fun K hK => ?_)
  go_simp
  gi_wp2_with (gi_at_call 73; refine (callsIn_wide.2 (n1.out _ _ _)).mono ?_; rintro e Wh2 ⟨rfl, hN⟩; obtain rfl : W.drew = Wh2 := (by first | exact hN | exact hN.symm))
  refine ⟨(fun _ => hS0), ?_⟩
  refine S_one 14 (by kernel_rfl) rfl (fun K hK => ?_)
  go_simp
  gi_wp2_with (gi_at_call 73; refine (callsIn_wide.2 (n1.out _ _ _)).mono ?_; rintro e Wh3 ⟨rfl, hN⟩; obtain rfl : W.drew = Wh3 := (by first | exact hN | exact hN.symm))
  refine ⟨(fun _ => hS0), ?_⟩
  refine S_one 19 (by kernel_rfl) rfl (fun K hK => ?_)
  go_simp
  gi_wp2_with (gi_at_call 73; refine (callsIn_wide.2 (n1.out _ _ _)).mono ?_; rintro e Wh4 ⟨rfl, hN⟩; obtain rfl : W.drew = Wh4 := (by first | exact hN | exact hN.symm))
  refine ⟨(fun _ => hS0), ?_⟩
  refine S_one 24 (by kernel_rfl) rfl (fun K hK => ?_)
  go_simp
  gi_wp2_with (gi_at_call 73; refine (callsIn_wide.2 (n1.out _ _ _)).mono ?_; rintro e Wh5 ⟨rfl, hN⟩; obtain rfl : W.drew = Wh5 := (by first | exact hN | exact hN.symm))
  refine ⟨(fun _ => hS0), ?_⟩
  refine S_one 29 (by kernel_rfl) rfl (fun K hK => ?_)
  go_simp
  gi_wp2_with (gi_at_call 73; refine (callsIn_wide.2 (n1.out _ _ _)).mono ?_; rintro e Wh6 ⟨rfl, hN⟩; obtain rfl : W.drew = Wh6 := (by first | exact hN | exact hN.symm))
  refine ⟨(fun _ => hS0), ?_⟩
  refine S_one 38 (by kernel_rfl) rfl (fun K hK => ?_)
  go_simp
  gi_wp2_with (gi_at_call 74; refine (callsIn_wide.2 (n2.out _ _ _)).mono ?_; rintro e Wh7 ⟨rfl, hN⟩; obtain rfl : W.drew = Wh7 := (by first | exact hN | exact hN.symm))
  refine ⟨(fun _ => hS0), ?_⟩
  refine S_one 43 (by kernel_rfl) rfl (fun K hK => ?_)
  go_simp
  gi_wp2_with (gi_at_call 74; refine (callsIn_wide.2 (n2.out _ _ _)).mono ?_; rintro e Wh8 ⟨rfl, hN⟩; obtain rfl : W.drew = Wh8 := (by first | exact hN | exact hN.symm))
  refine ⟨(fun _ => hS0), ?_⟩
  replace hS0 : Below _ _ (W.drew.alloc (.cells #[.int .i64 (cmpP x.many y.many), .int .i64 (cmpP x.few y.few), .int .i64 (cmpP x.next y.next), .int .i64 (cmpP x.final y.final), .int .i64 (cmpP x.own y.own), .int .i64 (cmpP x.all y.all), .int .i64 (cmpP (b.seen.b.slot : Int) (a.seen.b.slot : Int)), .int .i64 (cmpP (b.slot : Int) (a.slot : Int))] 3)) := hS0.alloc hS0.size _
  refine S_go 44 (fun _ => trivial) (by kernel_rfl) (by kernel_rfl) rfl (by kernel_rfl) (.slice (some ⟨W.drew.heap.size, 0, none⟩) 8 8) (W.drew.alloc (.cells #[.int .i64 (cmpP x.many y.many), .int .i64 (cmpP x.few y.few), .int .i64 (cmpP x.next y.next), .int .i64 (cmpP x.final y.final), .int .i64 (cmpP x.own y.own), .int .i64 (cmpP x.all y.all), .int .i64 (cmpP (b.seen.b.slot : Int) (a.seen.b.slot : Int)), .int .i64 (cmpP (b.slot : Int) (a.slot : Int))] 3)) (by first | (go_simp; done) | (go_simp; rfl) | (go_simp; exact ⟨hbx2, rfl⟩)) (fun _ => hS0) ?_
  refine S_tg 45 (.int .i64 8) rfl hS0 ?_
  refine ⟨by kernel_rfl, rfl, ?_⟩
  have KL := Lib.hid (show Blk (W.drew.alloc (.cells #[.int .i64 (cmpP x.many y.many), .int .i64 (cmpP x.few y.few), .int .i64 (cmpP x.next y.next), .int .i64 (cmpP x.final y.final), .int .i64 (cmpP x.own y.own), .int .i64 (cmpP x.all y.all), .int .i64 (cmpP (b.seen.b.slot : Int) (a.seen.b.slot : Int)), .int .i64 (cmpP (b.slot : Int) (a.slot : Int))] 3)) W.drew.heap.size 3 (cl.map fun n => Value.int .i64 n).toArray by rw [← hcl.out]; exact Blk.new0 W.drew _ _)
  have hlen : cl.length = 8 := by rw [← hcl.out]; rfl
  have hBf := hS0
  generalize hWN : W.drew.alloc _ = WN at KL hBf ⊢
  have KM : Blk WN W.heap.size 3 (cl.map fun n => Value.int .i64 n).toArray := KL.out
  replace KM := Lib.hid KM
  have hBe : Below w.heap.size w WN := Below.on hBf HB
  have hr : firstB cl = r := by rw [← hcl.out]; exact hv.out
  replace hr := Lib.hid hr
  clear hWN hS0 hwf K0 K1 K2 K3 HB hcl hv2 hv n1 n2 hBf
  have hcell : ∀ k, k < 8 → WN.cell? ⟨W.heap.size, k, none⟩ = some (.int .i64 (cl.getD k 0)) := fun k hk => by
   rw [KM.out.cell]
   have : k < cl.length := by omega
   simp [List.getD, List.getElem?_eq_getElem this]
  replace hcell := Lib.hid hcell
  replace hlen := Lib.hid hlen
  clear KL KM
  go_simp
  go_wp2_with fail
  go_loop [7, 60] (fun t i => t = .bool false ∧ ∃ k : Nat, k ≤ 8 ∧ i = .int .i64 k ∧ ZeroTo cl k) (fun _ i => (8 - intOf i).toNat)
  case atStart => exact ⟨rfl, 0, by omega, rfl, fun j hj => absurd hj (by omega)⟩
  case round =>
   obtain ⟨rfl, k, hk, rfl, hz⟩ := hrel
   replace hz := Lib.hid hz
   by_cases hlt : k < 8
   ·have hc := hcell.out k hlt
    obtain ⟨n, hn⟩ : ∃ n, cl.getD k 0 = n := ⟨_, rfl⟩
    rw [hn] at hc
    replace hn := Lib.hid hn
    by_cases h0 : n = 0
    ·have hz2 : ZeroTo cl (k + 1) := fun j hj => by
      by_cases hjk : j = k
      ·rw [hjk, hn.out, h0]
      ·exact hz.out j (by omega)
     replace hz2 := Lib.hid hz2
     have h0b : (n != 0) = false := by simp [h0]
     clear h0
     go_wp2_with fail
     go_round
     case rel => exact ⟨rfl, k + 1, by omega, by go_num, hz2.out⟩
     case measure => simp [intOf]; omega
    ·have hd : decide (0 < n) = r := by rw [← hr.out, ← hn.out]; exact (first_at cl k (by rw [hlen.out]; omega) hz.out (by rw [hn.out]; exact h0)).symm
     have h0b : (n != 0) = true := by simp [h0]
     clear h0
     go_wp2_with fail
     (try rw [Exit.noGoto_ret])
     go_ret
     exact ⟨rfl, hBe⟩
   ·have hk8 : k = 8 := by omega
    have hd : r = false := by rw [← hr.out]; exact first_none cl fun j hj => hz.out j (by rw [hlen.out] at hj; omega)
    subst hk8
    subst hd
    go_wp2_with fail
    (try rw [Exit.noGoto_ret])
    go_ret
    exact ⟨rfl, hBe⟩
end Go.Proofs.YtegaaccioppfjaaGreatDoor
end
