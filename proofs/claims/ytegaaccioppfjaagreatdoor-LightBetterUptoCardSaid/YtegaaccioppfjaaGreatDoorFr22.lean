/- What the later texts stand on (Lgt7): plain laws and walks, each by its own conditions. -/
import Derived.Test.YtegaaccioppfjaaGreatDoorFr21
set_option linter.unusedSimpArgs false
set_option linter.unusedVariables false
section
namespace Go.Proofs.YtegaaccioppfjaaGreatDoor
open BigFrame Go.RowKit Go.Phx Go.Shelf
attribute [local go_sem] Oper.semAt_some

/-- an update's marks -/
structure Mk where
 many : Int
 few : Int
 next : Int
 final : Int
 own : Int
 all : Int
def mkA (m : Mk) : Array Value := #[.int .i64 m.many, .int .i64 m.few, .int .i64 m.next, .int .i64 m.final, .int .i64 m.own, .int .i64 m.all]
abbrev mkV (m : Mk) : Value := .agg (mkA m)
def Mk.zero : Mk := ⟨0, 0, 0, 0, 0, 0⟩
def marksM (u : Up) : Mk := ⟨numB (twoP u), if twoP u then 0 else (onesP u.bits : Int), numB (ownNextP u), numB (isFinalP u), numB (ownFinP u), (onesP u.bits : Int)⟩
theorem sizeMk : (Tryz.prog.info? 87).map (·.size) = some 6 := by kernel_rfl
theorem stMk {W : World} {b : Nat} {cs : Array Value} (h : Blk W b 87 cs) (hc : cs.size = 6) (v : Mk) : (Instr.storeAt 87 (.pointer (some ⟨b, 0, none⟩)) (mkV v)).run Tryz.prog W = .ok () (setRow W b 87 (mkA v)) := by
 have := run_store_part h [] cs.toList [] (by simp) rfl (mkA v) (by simpa [mkA] using hc.symm) sizeMk (by simp [mkA, Value.oneCell'])
 rw [List.append_nil] at this
 exact this
theorem stMk2 {W : World} {b : Nat} (m : Mk) (h : Blk W b 87 (mkA m)) (v : Mk) : (Instr.storeAt 87 (.pointer (some ⟨b, 0, none⟩)) (mkV v)).run Tryz.prog W = .ok () (setRow W b 87 (mkA v)) := stMk h rfl v
theorem ldMk {W : World} {b : Nat} (m : Mk) (h : Blk W b 87 (mkA m)) : (Instr.loadAt 87 (.pointer (some ⟨b, 0, none⟩))).run Tryz.prog W = .ok (mkV m) W :=
 run_load_part h [] (mkA m).toList [] (by simp) rfl Tryz.underlying87 rfl sizeMk
section
variable {W : World} {b : Nat} (m : Mk) (h : Blk W b 87 (mkA m)) (v : Int)
include h
theorem stcMk_few : (Instr.storeAt 3 (.pointer (some ⟨b, 1, none⟩)) (.int .i64 v)).run Tryz.prog W = .ok () (setRow W b 87 (mkA { m with few := v })) := by
 rw [← show W.setCell ⟨b, 1, none⟩ (.int .i64 v) = setRow W b 87 (mkA { m with few := v }) from set_row h _ _]
 exact run_store_cell h (by kernel_rfl) (by kernel_rfl) (.inl ⟨_, _, rfl⟩)
theorem stcMk_next : (Instr.storeAt 3 (.pointer (some ⟨b, 2, none⟩)) (.int .i64 v)).run Tryz.prog W = .ok () (setRow W b 87 (mkA { m with next := v })) := by
 rw [← show W.setCell ⟨b, 2, none⟩ (.int .i64 v) = setRow W b 87 (mkA { m with next := v }) from set_row h _ _]
 exact run_store_cell h (by kernel_rfl) (by kernel_rfl) (.inl ⟨_, _, rfl⟩)
theorem stcMk_final : (Instr.storeAt 3 (.pointer (some ⟨b, 3, none⟩)) (.int .i64 v)).run Tryz.prog W = .ok () (setRow W b 87 (mkA { m with final := v })) := by
 rw [← show W.setCell ⟨b, 3, none⟩ (.int .i64 v) = setRow W b 87 (mkA { m with final := v }) from set_row h _ _]
 exact run_store_cell h (by kernel_rfl) (by kernel_rfl) (.inl ⟨_, _, rfl⟩)
theorem stcMk_own : (Instr.storeAt 3 (.pointer (some ⟨b, 4, none⟩)) (.int .i64 v)).run Tryz.prog W = .ok () (setRow W b 87 (mkA { m with own := v })) := by
 rw [← show W.setCell ⟨b, 4, none⟩ (.int .i64 v) = setRow W b 87 (mkA { m with own := v }) from set_row h _ _]
 exact run_store_cell h (by kernel_rfl) (by kernel_rfl) (.inl ⟨_, _, rfl⟩)
end
def MrW (w : World) (g b : Nat) (u : Up) (m : Mk) (wx : World) : Prop := Blk wx g 33 (upA u) ∧ Blk wx (g + 1) 87 (mkA Mk.zero) ∧ Blk wx b 87 (mkA m) ∧ g + 1 < b ∧ Below w.heap.size w wx
set_option maxRecDepth 100000 in
set_option maxHeartbeats 4000000 in
theorem marked_calls (u : Up) (h1 : u.seen.b.slot < 18446744073709551616) (h2 : u.slot < 18446744073709551616) (h3 : u.fin.b.slot < 18446744073709551616) (w : World) : Calls Tryz.prog 72 #[upV u] w (Ret w (mkV (marksM u))) := by
 have n1 := fun W => two_calls u W
 have n2 := fun W => signers_calls u W
 have n3 := fun W => hasNext_calls u W
 have n4 := fun W => isFinal_calls u W
 have n5 := fun W => period_q u.seen.b.slot h1 W
 have n6 := fun W => period_q u.slot h2 W
 have n7 := fun W => period_q u.fin.b.slot h3 W
 have n8 : ∀ (b : Bool) (W : World), Calls Tryz.prog 125 #[.bool b] W (fun e w' => e = .returned (.int .i64 (numB b)) ∧ W = w') := fun b W => (number_of b W).mono fun _ _ h => ⟨h.1, h.2.symm⟩
 have hM : marksM u = ⟨numB (twoP u), if twoP u then 0 else (onesP u.bits : Int), numB (hasNextP u && decide (period u.seen.b.slot = period u.slot)), numB (isFinalP u), numB (isFinalP u && decide (period u.fin.b.slot = period u.seen.b.slot)), (onesP u.bits : Int)⟩ := rfl
 generalize marksM u = M at *
 generalize twoP u = r1 at *
 generalize onesP u.bits = k at *
 generalize hasNextP u = r3 at *
 generalize isFinalP u = r4 at *
 generalize period u.seen.b.slot = ps at *
 generalize period u.slot = pu at *
 generalize period u.fin.b.slot = pf at *
 have e1 : ((ps : Int) == (pu : Int)) = decide (ps = pu) := by rw [Bool.eq_iff_iff]; simp; omega
 have e2 : ((pf : Int) == (ps : Int)) = decide (pf = ps) := by rw [Bool.eq_iff_iff]; simp; omega
 generalize decide (ps = pu) = b1 at *
 generalize decide (pf = ps) = b2 at *
 obtain ⟨kI, hkI⟩ : ∃ kI : Int, (k : Int) = kI := ⟨_, rfl⟩
 rw [hkI] at n2 hM
 clear hkI
 replace hM := Lib.hid hM
 replace n1 := Lib.hid n1
 replace n2 := Lib.hid n2
 replace n3 := Lib.hid n3
 replace n4 := Lib.hid n4
 replace n5 := Lib.hid n5
 replace n6 := Lib.hid n6
 replace n7 := Lib.hid n7
 replace n8 := Lib.hid n8
 go_enter Tryz.func72, Tryz.ntmps72
 go_upto_region 1 with fail
 have HB : Below w.heap.size w ((w.alloc (.cells (upA u) 33)).alloc (.cells (mkA Mk.zero) 87)) := bel
 have K0 := (Blk.new0 w 33 (upA u)).alloc (.cells (mkA Mk.zero) 87)
 have K1 := Blk.new1 w (.cells (upA u) 33) 87 (mkA Mk.zero)
 obtain ⟨W, hW⟩ : ∃ W, ((w.alloc (.cells (upA u) 33)).alloc (.cells (mkA Mk.zero) 87)) = W := ⟨_, rfl⟩
 replace hW : (w.alloc (.cells (upA u) 33)).alloc (.cells #[.int .i64 0, .int .i64 0, .int .i64 0, .int .i64 0, .int .i64 0, .int .i64 0] 87) = W := hW
 rw [hW]
 replace HB : Below w.heap.size w W := by rw [← hW]; exact HB
 replace K0 : Blk W w.heap.size 33 (upA u) := by rw [← hW]; exact K0
 replace K1 : Blk W (w.heap.size + 1) 87 (mkA Mk.zero) := by rw [← hW]; exact K1
 clear hW
 have hgl : w.heap.size ≤ w.heap.size := Nat.le_refl _
 obtain ⟨g, hg⟩ : ∃ g, w.heap.size = g := ⟨_, rfl⟩
 rw [hg] at K0 K1 ⊢
 replace hgl : w.heap.size ≤ g := by omega
 replace K0 := Lib.hid K0
 replace K1 := Lib.hid K1
 clear hg
 (obtain ⟨k0, f0, l0, m0⟩ := K0.out.rl; obtain ⟨k1, f1, l1, m1⟩ := K1.out.rl)
 go_cut [3] (fun s3 wx => ∃ b, s3 = .pointer (some ⟨b, 0, none⟩) ∧ MrW w g b u ⟨numB r1, 0, 0, 0, 0, kI⟩ wx)
 case first =>
  have hwf : ∀ f, Fence.wide.fn f := fun _ => trivial
  refine (wpIn_wide (n := 9)).1 ?_
  refine wpIn_round_held (fun w' => Below W.heap.size W w') (fun j => true) (by kernel_rfl) ?_
  have hS0 : (fun w' => Below W.heap.size W w') W.drew := (Below.refl _ _).drew
  refine S_tk 0 (upV (u)) rfl hS0 (fun w' hw => exec_load rfl (by kernel_rfl) (ldUp (u) (K0.out.below hw))) ?_
  refine S_tk 3 (upV (u)) rfl hS0 (fun w' hw => exec_load rfl (by kernel_rfl) (ldUp (u) (K0.out.below hw))) ?_
  refine S_list [1, 6] (by kernel_rfl) (by decide) ⟨?_, ?_, trivial⟩
  ·show wpOpIn _ _ _ _ _ 1 _ _ _
   refine op_call (nd := fun j => true) (S := fun w' => Below W.heap.size W w') (i := 1) rfl (fun K hK => ?_)
   go_simp
   gi_wp2_with (gi_at_call 83; refine (callsIn_wide.2 (n1.out _)).mono ?_; rintro e Wh1 ⟨rfl, hN⟩)
   have hS1 : (fun w' => Below W.heap.size W w') Wh1 := hS0.trans (hN.mono hS0.size)
   clear hS0
   have hS0 := hS1
   clear hS1
   clear hN
   refine ⟨(fun _ => hS0), ?_⟩
   refine S_list [2, 6] (by kernel_rfl) (by decide) ⟨?_, ?_, trivial⟩
   ·show wpOpIn _ _ _ _ _ 2 _ _ _
    refine op_call (nd := fun j => true) (S := fun w' => Below W.heap.size W w') (i := 2) rfl (fun K hK => ?_)
    go_simp
    gi_wp2_with (gi_at_call 125; refine (callsIn_wide.2 (n8.out r1 _)).mono ?_; rintro e Wh2 ⟨rfl, hN⟩; obtain rfl : Wh1 = Wh2 := (by first | exact hN | exact hN.symm))
    refine ⟨(fun _ => hS0), ?_⟩
    refine S_list [4, 6] (by kernel_rfl) (by decide) ⟨?_, ?_, trivial⟩
    ·show wpOpIn _ _ _ _ _ 4 _ _ _
     refine op_call (nd := fun j => true) (S := fun w' => Below W.heap.size W w') (i := 4) rfl (fun K hK => ?_)
     go_simp
     gi_wp2_with (gi_at_call 56; refine (callsIn_wide.2 (n2.out _)).mono ?_; rintro e Wh3 ⟨rfl, hN⟩)
     have hS1 : (fun w' => Below W.heap.size W w') Wh3 := hS0.trans (hN.mono hS0.size)
     clear hS0
     have hS0 := hS1
     clear hS1
     clear hN
     refine ⟨(fun _ => hS0), ?_⟩
     refine S_tk 5 (mkV ⟨numB r1, 0, 0, 0, 0, kI⟩) rfl hS0 (fun w' hw => by go_simp; rfl) ?_
     obtain ⟨x3n4, hbx⟩ : ∃ x, Wh3.heap.size = x := ⟨_, rfl⟩
     have hbx2 := hbx
     (try simp [go_sem] at hbx2)
     have hb3 : W.heap.size ≤ x3n4 := by rw [← hbx]; exact hS0.size
     have KA3 := Blk.new0 Wh3 87 (mkA Mk.zero)
     rw [hbx] at KA3
     replace KA3 := Lib.hid KA3
     have hS1 : (fun w' => Below W.heap.size W w') (Wh3.alloc (.cells (mkA Mk.zero) 87)) := hS0.alloc hS0.size _
     clear hS0
     have hS0 := hS1
     clear hS1
     refine S_go 6 (fun _ => trivial) (by kernel_rfl) (by kernel_rfl) rfl (by kernel_rfl) (.pointer (some ⟨x3n4, 0, none⟩)) (Wh3.alloc (.cells (mkA Mk.zero) 87)) (by first | (go_simp; done) | (go_simp; rfl) | (go_simp; exact ⟨hbx2, rfl⟩)) (fun _ => hS0) ?_
     clear hbx hbx2
     have hS1 : (fun w' => Below W.heap.size W w') (setRow (Wh3.alloc (.cells (mkA Mk.zero) 87)) (x3n4) 87 (mkA ⟨numB r1, 0, 0, 0, 0, kI⟩)) := Below.row hS0 hb3 hS0.size
     refine S_store 7 (fun _ => trivial) (by kernel_rfl) (by kernel_rfl) rfl (by kernel_rfl) (setRow (Wh3.alloc (.cells (mkA Mk.zero) 87)) (x3n4) 87 (mkA ⟨numB r1, 0, 0, 0, 0, kI⟩)) (exec_store _ _ rfl (by kernel_rfl) (by kernel_rfl) (stMk KA3.out rfl ⟨numB r1, 0, 0, 0, 0, kI⟩)) (fun _ => hS1) ?_
     clear hS0
     have hS0 := hS1
     clear hS1
     replace KA3 := Lib.hid (Blk.row (t := 87) (cs := mkA ⟨numB r1, 0, 0, 0, 0, kI⟩) KA3.out.lt)
     refine ⟨by kernel_rfl, rfl, ?_⟩
     go_wp2_with fail
     go_meet
     case rel => exact ⟨_, rfl, K0.out.below hS0, K1.out.below hS0, KA3.out, Nat.lt_of_lt_of_le l1 hb3, Below.on hS0 HB⟩
    ·show wpOpIn _ _ _ _ _ 6 _ _ _
     obtain ⟨x3n5, hbx⟩ : ∃ x, Wh1.heap.size = x := ⟨_, rfl⟩
     have hbx2 := hbx
     (try simp [go_sem] at hbx2)
     have hb3 : W.heap.size ≤ x3n5 := by rw [← hbx]; exact hS0.size
     have KA3 := Blk.new0 Wh1 87 (mkA Mk.zero)
     rw [hbx] at KA3
     replace KA3 := Lib.hid KA3
     have hS1 : (fun w' => Below W.heap.size W w') (Wh1.alloc (.cells (mkA Mk.zero) 87)) := hS0.alloc hS0.size _
     clear hS0
     have hS0 := hS1
     clear hS1
     refine op_go (nd := fun j => true) (S := fun w' => Below W.heap.size W w') (i := 6) (fun _ => trivial) (by kernel_rfl) rfl (by kernel_rfl) (.pointer (some ⟨x3n5, 0, none⟩)) (Wh1.alloc (.cells (mkA Mk.zero) 87)) (by first | (go_simp; done) | (go_simp; rfl) | (go_simp; exact ⟨hbx2, rfl⟩)) (fun _ => hS0) ?_
     clear hbx hbx2
     refine S_one 4 (by kernel_rfl) rfl (fun K hK => ?_)
     go_simp
     gi_wp2_with (gi_at_call 56; refine (callsIn_wide.2 (n2.out _)).mono ?_; rintro e Wh6 ⟨rfl, hN⟩)
     replace KA3 := Lib.hid (KA3.out.below hN)
     have hS1 : (fun w' => Below W.heap.size W w') Wh6 := hS0.trans (hN.mono hS0.size)
     clear hS0
     have hS0 := hS1
     clear hS1
     clear hN
     refine ⟨(fun _ => hS0), ?_⟩
     refine S_tk 5 (mkV ⟨numB r1, 0, 0, 0, 0, kI⟩) rfl hS0 (fun w' hw => by go_simp; rfl) ?_
     have hS1 : (fun w' => Below W.heap.size W w') (setRow Wh6 (x3n5) 87 (mkA ⟨numB r1, 0, 0, 0, 0, kI⟩)) := Below.row hS0 hb3 hS0.size
     refine S_store 7 (fun _ => trivial) (by kernel_rfl) (by kernel_rfl) rfl (by kernel_rfl) (setRow Wh6 (x3n5) 87 (mkA ⟨numB r1, 0, 0, 0, 0, kI⟩)) (exec_store _ _ rfl (by kernel_rfl) (by kernel_rfl) (stMk KA3.out rfl ⟨numB r1, 0, 0, 0, 0, kI⟩)) (fun _ => hS1) ?_
     clear hS0
     have hS0 := hS1
     clear hS1
     replace KA3 := Lib.hid (Blk.row (t := 87) (cs := mkA ⟨numB r1, 0, 0, 0, 0, kI⟩) KA3.out.lt)
     refine ⟨by kernel_rfl, rfl, ?_⟩
     go_wp2_with fail
     go_meet
     case rel => exact ⟨_, rfl, K0.out.below hS0, K1.out.below hS0, KA3.out, Nat.lt_of_lt_of_le l1 hb3, Below.on hS0 HB⟩
   ·show wpOpIn _ _ _ _ _ 6 _ _ _
    obtain ⟨x3n7, hbx⟩ : ∃ x, Wh1.heap.size = x := ⟨_, rfl⟩
    have hbx2 := hbx
    (try simp [go_sem] at hbx2)
    have hb3 : W.heap.size ≤ x3n7 := by rw [← hbx]; exact hS0.size
    have KA3 := Blk.new0 Wh1 87 (mkA Mk.zero)
    rw [hbx] at KA3
    replace KA3 := Lib.hid KA3
    have hS1 : (fun w' => Below W.heap.size W w') (Wh1.alloc (.cells (mkA Mk.zero) 87)) := hS0.alloc hS0.size _
    clear hS0
    have hS0 := hS1
    clear hS1
    refine op_go (nd := fun j => true) (S := fun w' => Below W.heap.size W w') (i := 6) (fun _ => trivial) (by kernel_rfl) rfl (by kernel_rfl) (.pointer (some ⟨x3n7, 0, none⟩)) (Wh1.alloc (.cells (mkA Mk.zero) 87)) (by first | (go_simp; done) | (go_simp; rfl) | (go_simp; exact ⟨hbx2, rfl⟩)) (fun _ => hS0) ?_
    clear hbx hbx2
    refine S_one 2 (by kernel_rfl) rfl (fun K hK => ?_)
    go_simp
    gi_wp2_with (gi_at_call 125; refine (callsIn_wide.2 (n8.out r1 _)).mono ?_; rintro e Wh8 ⟨rfl, hN⟩; obtain rfl : (Wh1.alloc (.cells (mkA Mk.zero) 87)) = Wh8 := (by first | exact hN | exact hN.symm))
    refine ⟨(fun _ => hS0), ?_⟩
    refine S_one 4 (by kernel_rfl) rfl (fun K hK => ?_)
    go_simp
    gi_wp2_with (gi_at_call 56; refine (callsIn_wide.2 (n2.out _)).mono ?_; rintro e Wh9 ⟨rfl, hN⟩)
    replace KA3 := Lib.hid (KA3.out.below hN)
    have hS1 : (fun w' => Below W.heap.size W w') Wh9 := hS0.trans (hN.mono hS0.size)
    clear hS0
    have hS0 := hS1
    clear hS1
    clear hN
    refine ⟨(fun _ => hS0), ?_⟩
    refine S_tk 5 (mkV ⟨numB r1, 0, 0, 0, 0, kI⟩) rfl hS0 (fun w' hw => by go_simp; rfl) ?_
    have hS1 : (fun w' => Below W.heap.size W w') (setRow Wh9 (x3n7) 87 (mkA ⟨numB r1, 0, 0, 0, 0, kI⟩)) := Below.row hS0 hb3 hS0.size
    refine S_store 7 (fun _ => trivial) (by kernel_rfl) (by kernel_rfl) rfl (by kernel_rfl) (setRow Wh9 (x3n7) 87 (mkA ⟨numB r1, 0, 0, 0, 0, kI⟩)) (exec_store _ _ rfl (by kernel_rfl) (by kernel_rfl) (stMk KA3.out rfl ⟨numB r1, 0, 0, 0, 0, kI⟩)) (fun _ => hS1) ?_
    clear hS0
    have hS0 := hS1
    clear hS1
    replace KA3 := Lib.hid (Blk.row (t := 87) (cs := mkA ⟨numB r1, 0, 0, 0, 0, kI⟩) KA3.out.lt)
    refine ⟨by kernel_rfl, rfl, ?_⟩
    go_wp2_with fail
    go_meet
    case rel => exact ⟨_, rfl, K0.out.below hS0, K1.out.below hS0, KA3.out, Nat.lt_of_lt_of_le l1 hb3, Below.on hS0 HB⟩
  ·show wpOpIn _ _ _ _ _ 6 _ _ _
   obtain ⟨x3n10, hbx⟩ : ∃ x, W.drew.heap.size = x := ⟨_, rfl⟩
   have hbx2 := hbx
   (try simp [go_sem] at hbx2)
   have hb3 : W.heap.size ≤ x3n10 := by rw [← hbx]; exact hS0.size
   have KA3 := Blk.new0 W.drew 87 (mkA Mk.zero)
   rw [hbx] at KA3
   replace KA3 := Lib.hid KA3
   have hS1 : (fun w' => Below W.heap.size W w') (W.drew.alloc (.cells (mkA Mk.zero) 87)) := hS0.alloc hS0.size _
   clear hS0
   have hS0 := hS1
   clear hS1
   refine op_go (nd := fun j => true) (S := fun w' => Below W.heap.size W w') (i := 6) (fun _ => trivial) (by kernel_rfl) rfl (by kernel_rfl) (.pointer (some ⟨x3n10, 0, none⟩)) (W.drew.alloc (.cells (mkA Mk.zero) 87)) (by first | (go_simp; done) | (go_simp; rfl) | (go_simp; exact ⟨hbx2, rfl⟩)) (fun _ => hS0) ?_
   clear hbx hbx2
   refine S_one 1 (by kernel_rfl) rfl (fun K hK => ?_)
   go_simp
   gi_wp2_with (gi_at_call 83; refine (callsIn_wide.2 (n1.out _)).mono ?_; rintro e Wh11 ⟨rfl, hN⟩)
   replace KA3 := Lib.hid (KA3.out.below hN)
   have hS1 : (fun w' => Below W.heap.size W w') Wh11 := hS0.trans (hN.mono hS0.size)
   clear hS0
   have hS0 := hS1
   clear hS1
   clear hN
   refine ⟨(fun _ => hS0), ?_⟩
   refine S_one 2 (by kernel_rfl) rfl (fun K hK => ?_)
   go_simp
   gi_wp2_with (gi_at_call 125; refine (callsIn_wide.2 (n8.out r1 _)).mono ?_; rintro e Wh12 ⟨rfl, hN⟩; obtain rfl : Wh11 = Wh12 := (by first | exact hN | exact hN.symm))
   refine ⟨(fun _ => hS0), ?_⟩
   refine S_one 4 (by kernel_rfl) rfl (fun K hK => ?_)
   go_simp
   gi_wp2_with (gi_at_call 56; refine (callsIn_wide.2 (n2.out _)).mono ?_; rintro e Wh13 ⟨rfl, hN⟩)
   replace KA3 := Lib.hid (KA3.out.below hN)
   have hS1 : (fun w' => Below W.heap.size W w') Wh13 := hS0.trans (hN.mono hS0.size)
   clear hS0
   have hS0 := hS1
   clear hS1
   clear hN
   refine ⟨(fun _ => hS0), ?_⟩
   refine S_tk 5 (mkV ⟨numB r1, 0, 0, 0, 0, kI⟩) rfl hS0 (fun w' hw => by go_simp; rfl) ?_
   have hS1 : (fun w' => Below W.heap.size W w') (setRow Wh13 (x3n10) 87 (mkA ⟨numB r1, 0, 0, 0, 0, kI⟩)) := Below.row hS0 hb3 hS0.size
   refine S_store 7 (fun _ => trivial) (by kernel_rfl) (by kernel_rfl) rfl (by kernel_rfl) (setRow Wh13 (x3n10) 87 (mkA ⟨numB r1, 0, 0, 0, 0, kI⟩)) (exec_store _ _ rfl (by kernel_rfl) (by kernel_rfl) (stMk KA3.out rfl ⟨numB r1, 0, 0, 0, 0, kI⟩)) (fun _ => hS1) ?_
   clear hS0
   have hS0 := hS1
   clear hS1
   replace KA3 := Lib.hid (Blk.row (t := 87) (cs := mkA ⟨numB r1, 0, 0, 0, 0, kI⟩) KA3.out.lt)
   refine ⟨by kernel_rfl, rfl, ?_⟩
   go_wp2_with fail
   go_meet
   case rel => exact ⟨_, rfl, K0.out.below hS0, K1.out.below hS0, KA3.out, Nat.lt_of_lt_of_le l1 hb3, Below.on hS0 HB⟩
 case rest =>
  obtain ⟨b, rfl, hW⟩ := hcut
  have hgb := hW.2.2.2.1
  have j0 := Lib.hid hW.1
  have j1 := Lib.hid hW.2.1
  have j2 := Lib.hid hW.2.2.1
  have HBn := hW.2.2.2.2
  clear hW k0 f0 l0 m0 k1 f1 l1 m1 K0 K1 HB
  have K0 := j0; have K1 := j1; have K2 := j2; have HB := HBn
  clear j0 j1 j2 HBn
  (obtain ⟨k0, f0, l0, m0⟩ := K0.out.rl; obtain ⟨k1, f1, l1, m1⟩ := K1.out.rl; obtain ⟨k2, f2, l2, m2⟩ := K2.out.rl)
  obtain ⟨fw, hfw⟩ : ∃ fw : Int, (if r1 = true then 0 else kI) = fw := ⟨_, rfl⟩
  have hM2 := hM.out
  rw [hfw] at hM2
  replace hM2 := Lib.hid hM2
  replace hfw := Lib.hid hfw
  clear hM
  go_wp2_with (first | (with_reducible refine wpList_load_run (o := ⟨_, .load 33 _, _, _, _, none⟩) (ldUp _ K0.out) rfl _ rfl rfl ?_) | (with_reducible refine wpList_load_run_g (o := ⟨_, .load 33 _, _, _, _, some _⟩) (ldUp _ K0.out) (by with_unfolding_all rfl) _ rfl rfl ?_))
  (refine (n1.out _).mono ?_; rintro e w1 ⟨rfl, hN⟩; have N0 := Lib.hid (K0.out.below hN); have N1 := Lib.hid (K1.out.below hN); have N2 := Lib.hid (K2.out.below hN); have HBn : Below w.heap.size w w1 := Below.on hN HB; clear hN HB K0 k0 f0 l0 m0 K1 k1 f1 l1 m1 K2 k2 f2 l2 m2; have K0 := N0; clear N0; have K1 := N1; clear N1; have K2 := N2; clear N2; have HB := HBn; clear HBn; (obtain ⟨k0, f0, l0, m0⟩ := K0.out.rl; obtain ⟨k1, f1, l1, m1⟩ := K1.out.rl; obtain ⟨k2, f2, l2, m2⟩ := K2.out.rl))
  go_upto_if 12 with fail
  go_cut [] (fun wx => MrW w g b u ⟨numB r1, fw, 0, 0, 0, kI⟩ wx)
  case first =>
   cases r1 with
   | false =>
    obtain rfl : kI = fw := by have := hfw.out; simpa using this
    go_wp2_with (first | (with_reducible refine wpList_load_run (o := ⟨_, .load 33 _, _, _, _, none⟩) (ldUp _ K0.out) rfl _ rfl rfl ?_) | (with_reducible refine wpList_load_run_g (o := ⟨_, .load 33 _, _, _, _, some _⟩) (ldUp _ K0.out) (by with_unfolding_all rfl) _ rfl rfl ?_))
    (refine (n2.out _).mono ?_; rintro e w2 ⟨rfl, hN⟩; have N0 := Lib.hid (K0.out.below hN); have N1 := Lib.hid (K1.out.below hN); have N2 := Lib.hid (K2.out.below hN); have HBn : Below w.heap.size w w2 := Below.on hN HB; clear hN HB K0 k0 f0 l0 m0 K1 k1 f1 l1 m1 K2 k2 f2 l2 m2; have K0 := N0; clear N0; have K1 := N1; clear N1; have K2 := N2; clear N2; have HB := HBn; clear HBn; (obtain ⟨k0, f0, l0, m0⟩ := K0.out.rl; obtain ⟨k1, f1, l1, m1⟩ := K1.out.rl; obtain ⟨k2, f2, l2, m2⟩ := K2.out.rl))
    (go_wp2_with (first | (with_reducible refine wpList_store_halt (o := ⟨_, .store 3 _ _, _, _, _, none⟩) (stcMk_few _ K2.out (kI)) rfl _ _ rfl rfl rfl ?_)); generalize hWN : setRow _ _ _ _ = WN; have N2 := Lib.hid (show Blk WN _ _ _ by rw [← hWN]; exact Blk.row K2.out.lt); have N0 := Lib.hid (show Blk WN _ _ _ by rw [← hWN]; exact Blk.rowOver (by omega) K0.out); have N1 := Lib.hid (show Blk WN _ _ _ by rw [← hWN]; exact Blk.rowOver (by omega) K1.out); have HBn : Below w.heap.size w WN := (by rw [← hWN]; exact Below.row HB (by omega) HB.size); clear hWN HB K2 k2 f2 l2 m2 K0 k0 f0 l0 m0 K1 k1 f1 l1 m1; have K2 := N2; clear N2; have K0 := N0; clear N0; have K1 := N1; clear N1; have HB := HBn; clear HBn; (obtain ⟨k2, f2, l2, m2⟩ := K2.out.rl; obtain ⟨k0, f0, l0, m0⟩ := K0.out.rl; obtain ⟨k1, f1, l1, m1⟩ := K1.out.rl); unfold Halted)
    go_wp2_with fail
    go_meet
    case rel => exact ⟨K0.out, K1.out, K2.out, hgb, HB⟩
   | true =>
    obtain rfl : 0 = fw := by have := hfw.out; simpa using this
    go_wp2_with fail
    go_meet
    case rel => exact ⟨K0.out, K1.out, K2.out, hgb, HB⟩
  case rest =>
   have hW := hcut
   have j0 := Lib.hid hW.1
   have j1 := Lib.hid hW.2.1
   have j2 := Lib.hid hW.2.2.1
   have HBn := hW.2.2.2.2
   clear hW k0 f0 l0 m0 k1 f1 l1 m1 k2 f2 l2 m2 K0 K1 K2 HB
   have K0 := j0; have K1 := j1; have K2 := j2; have HB := HBn
   clear j0 j1 j2 HBn
   (obtain ⟨k0, f0, l0, m0⟩ := K0.out.rl; obtain ⟨k1, f1, l1, m1⟩ := K1.out.rl; obtain ⟨k2, f2, l2, m2⟩ := K2.out.rl)
   clear n1 n2
   go_upto_region 4 with fail
   go_cut [] (fun wx => MrW w g b u ⟨numB r1, fw, numB (r3 && b1), 0, 0, kI⟩ wx)
   case first =>
    obtain ⟨W, hWc⟩ : ∃ W, W = wc := ⟨_, rfl⟩
    subst hWc
    cases r3 with
    | false =>
     have hwf : ∀ f, Fence.wide.fn f := fun _ => trivial
     refine (wpIn_wide (n := 9)).1 ?_
     refine wpIn_round_held (fun w' => Below W.heap.size W w') (fun j => !decide (j ∈ [15])) (by kernel_rfl) ?_
     have hS0 : (fun w' => Below W.heap.size W w') W.drew := (Below.refl _ _).drew
     have KA100 := Lib.hid (K0.out.drew)
     have KA101 := Lib.hid (K1.out.drew)
     have KA102 := Lib.hid (K2.out.drew)
     have HBt := HB.drew
     refine S_tk 0 (upV (u)) rfl hS0 (fun w' hw => exec_load rfl (by kernel_rfl) (ldUp (u) (K0.out.below hw))) ?_
     refine S_one 1 (by kernel_rfl) rfl (fun K hK => ?_)
     go_simp
     gi_wp2_with (gi_at_call 80; refine (callsIn_wide.2 (n3.out _)).mono ?_; rintro e Wh1 ⟨rfl, hN⟩)
     replace KA100 := Lib.hid (KA100.out.below hN)
     replace KA101 := Lib.hid (KA101.out.below hN)
     replace KA102 := Lib.hid (KA102.out.below hN)
     replace HBt := Below.on hN HBt
     have hS1 : (fun w' => Below W.heap.size W w') Wh1 := hS0.trans (hN.mono hS0.size)
     clear hS0
     have hS0 := hS1
     clear hS1
     clear hN
     refine ⟨(fun _ => hS0), ?_⟩
     refine S_tk 2 (.bool false) rfl hS0 (fun w' hw => by go_simp) ?_
     refine S_skip (fun _ => trivial) 3 (by kernel_rfl) rfl (by kernel_rfl) (by kernel_rfl) (by kernel_rfl) (by kernel_rfl) (onlyN_panic _ _) hS0 (by kernel_rfl) ?_
     refine S_skip (fun _ => trivial) 4 (by kernel_rfl) rfl (by kernel_rfl) (by kernel_rfl) (by kernel_rfl) (by kernel_rfl) (onlyN_panic _ _) hS0 (by kernel_rfl) ?_
     refine S_skip (fun _ => trivial) 5 (by kernel_rfl) rfl (by kernel_rfl) (by kernel_rfl) (by kernel_rfl) (by kernel_rfl) (onlyN_panic _ _) hS0 (by kernel_rfl) ?_
     refine S_skip (fun _ => trivial) 6 (by kernel_rfl) rfl (by kernel_rfl) (by kernel_rfl) (by kernel_rfl) (by kernel_rfl) (onlyN_panic _ _) hS0 (by kernel_rfl) ?_
     refine S_skip (fun _ => trivial) 7 (by kernel_rfl) rfl (by kernel_rfl) (by kernel_rfl) (by kernel_rfl) (by kernel_rfl) (onlyN_panic _ _) hS0 (by kernel_rfl) ?_
     refine S_skip (fun _ => trivial) 8 (by kernel_rfl) rfl (by kernel_rfl) (by kernel_rfl) (by kernel_rfl) (by kernel_rfl) (onlyN_panic _ _) hS0 (by kernel_rfl) ?_
     refine S_skip (fun _ => trivial) 9 (by kernel_rfl) rfl (by kernel_rfl) (by kernel_rfl) (by kernel_rfl) (by kernel_rfl) (onlyN_panic _ _) hS0 (by kernel_rfl) ?_
     refine S_skip (fun _ => trivial) 10 (by kernel_rfl) rfl (by kernel_rfl) (by kernel_rfl) (by kernel_rfl) (by kernel_rfl) (onlyN_panic _ _) hS0 (by kernel_rfl) ?_
     refine S_skip (fun _ => trivial) 11 (by kernel_rfl) rfl (by kernel_rfl) (by kernel_rfl) (by kernel_rfl) (by kernel_rfl) (onlyN_panic _ _) hS0 (by kernel_rfl) ?_
     refine S_tk 12 (.bool false) rfl hS0 (fun w' hw => by go_simp) ?_
     refine S_one 13 (by kernel_rfl) rfl (fun K hK => ?_)
     go_simp
     gi_wp2_with (gi_at_call 125; refine (callsIn_wide.2 (n8.out false _)).mono ?_; rintro e Wh2 ⟨rfl, hN⟩; obtain rfl : Wh1 = Wh2 := (by first | exact hN | exact hN.symm))
     refine ⟨(fun _ => hS0), ?_⟩
     refine S_tk 14 (.pointer (some ⟨b, 2, none⟩)) rfl hS0 (fun w' hw => by go_simp) ?_
     refine S_store 15 (fun _ => trivial) (by kernel_rfl) (by kernel_rfl) rfl (by kernel_rfl) (setRow Wh1 (b) 87 (mkA ⟨numB r1, fw, numB false, 0, 0, kI⟩)) (exec_store _ _ rfl (by kernel_rfl) (by kernel_rfl) (stcMk_next _ KA102.out (numB false))) (fun h => absurd h (by decide)) ?_
     replace KA100 := Lib.hid (Blk.rowOver (g' := b) (t' := 87) (cs' := mkA ⟨numB r1, fw, numB false, 0, 0, kI⟩) (by first | assumption | omega) KA100.out)
     replace KA101 := Lib.hid (Blk.rowOver (g' := b) (t' := 87) (cs' := mkA ⟨numB r1, fw, numB false, 0, 0, kI⟩) (by first | assumption | omega) KA101.out)
     replace KA102 := Lib.hid (Blk.row (t := 87) (cs := mkA ⟨numB r1, fw, numB false, 0, 0, kI⟩) KA102.out.lt)
     replace HBt := Below.row HBt (g := b) (t := 87) (cs := mkA ⟨numB r1, fw, numB false, 0, 0, kI⟩) (by omega) HBt.size
     refine ⟨by kernel_rfl, rfl, ?_⟩
     obtain ⟨WN, hWN⟩ : ∃ WN, (setRow Wh1 (b) 87 (mkA ⟨numB r1, fw, numB false, 0, 0, kI⟩)) = WN := ⟨_, rfl⟩
     rw [hWN] at KA100 KA101 KA102 HBt ⊢
     clear hWN hwf hS0 HB
     have HB := HBt
     clear HBt
     clear K0 k0 f0 l0 m0
     clear K1 k1 f1 l1 m1
     clear K2 k2 f2 l2 m2
     have K0 := KA100
     clear KA100
     have K1 := KA101
     clear KA101
     have K2 := KA102
     clear KA102
     (obtain ⟨k0, f0, l0, m0⟩ := K0.out.rl; obtain ⟨k1, f1, l1, m1⟩ := K1.out.rl; obtain ⟨k2, f2, l2, m2⟩ := K2.out.rl)
     go_wp2_with fail
     go_meet
     case rel => exact ⟨K0.out, K1.out, K2.out, hgb, HB⟩
    | true =>
     have hwf : ∀ f, Fence.wide.fn f := fun _ => trivial
     refine (wpIn_wide (n := 9)).1 ?_
     refine wpIn_round_held (fun w' => Below W.heap.size W w') (fun j => !decide (j ∈ [15])) (by kernel_rfl) ?_
     have hS0 : (fun w' => Below W.heap.size W w') W.drew := (Below.refl _ _).drew
     have KA100 := Lib.hid (K0.out.drew)
     have KA101 := Lib.hid (K1.out.drew)
     have KA102 := Lib.hid (K2.out.drew)
     have HBt := HB.drew
     refine S_tk 0 (upV (u)) rfl hS0 (fun w' hw => exec_load rfl (by kernel_rfl) (ldUp (u) (K0.out.below hw))) ?_
     refine S_one 1 (by kernel_rfl) rfl (fun K hK => ?_)
     go_simp
     gi_wp2_with (gi_at_call 80; refine (callsIn_wide.2 (n3.out _)).mono ?_; rintro e Wh1 ⟨rfl, hN⟩)
     replace KA100 := Lib.hid (KA100.out.below hN)
     replace KA101 := Lib.hid (KA101.out.below hN)
     replace KA102 := Lib.hid (KA102.out.below hN)
     replace HBt := Below.on hN HBt
     have hS1 : (fun w' => Below W.heap.size W w') Wh1 := hS0.trans (hN.mono hS0.size)
     clear hS0
     have hS0 := hS1
     clear hS1
     clear hN
     refine ⟨(fun _ => hS0), ?_⟩
     refine S_tk 2 (.bool true) rfl hS0 (fun w' hw => by go_simp) ?_
     refine S_tk 3 (.pointer (some ⟨g, 0, none⟩)) rfl hS0 (fun w' hw => by go_simp) ?_
     refine S_tk 4 (.pointer (some ⟨g, 0, none⟩)) rfl hS0 (fun w' hw => by go_simp) ?_
     refine S_tk 5 (.pointer (some ⟨g, 0, none⟩)) rfl hS0 (fun w' hw => by go_simp) ?_
     refine S_tk 6 (.int .u64 (u.seen.b.slot : Int)) rfl hS0 (fun w' hw => exec_load rfl (by kernel_rfl) (run_load_cell (i := 0) (K0.out.below hw) rfl szU64 nrU64)) ?_
     refine S_tk 8 (.pointer (some ⟨g, 24, none⟩)) rfl hS0 (fun w' hw => by go_simp) ?_
     refine S_tk 9 (.int .u64 (u.slot : Int)) rfl hS0 (fun w' hw => exec_load rfl (by kernel_rfl) (run_load_cell (i := 24) (K0.out.below hw) rfl szU64 nrU64)) ?_
     refine S_one 7 (by kernel_rfl) rfl (fun K hK => ?_)
     go_simp
     gi_wp2_with (gi_at_call 82; refine (callsIn_wide.2 (n5.out _)).mono ?_; rintro e Wh2 ⟨rfl, hN⟩; obtain rfl : Wh1 = Wh2 := (by first | exact hN | exact hN.symm))
     refine ⟨(fun _ => hS0), ?_⟩
     refine S_one 10 (by kernel_rfl) rfl (fun K hK => ?_)
     go_simp
     gi_wp2_with (gi_at_call 82; refine (callsIn_wide.2 (n6.out _)).mono ?_; rintro e Wh3 ⟨rfl, hN⟩; obtain rfl : Wh1 = Wh3 := (by first | exact hN | exact hN.symm))
     refine ⟨(fun _ => hS0), ?_⟩
     refine S_tk 11 (.bool b1) rfl hS0 (fun w' hw => by go_simp) ?_
     refine S_tk 12 (.bool b1) rfl hS0 (fun w' hw => by go_simp) ?_
     refine S_one 13 (by kernel_rfl) rfl (fun K hK => ?_)
     go_simp
     gi_wp2_with (gi_at_call 125; refine (callsIn_wide.2 (n8.out b1 _)).mono ?_; rintro e Wh4 ⟨rfl, hN⟩; obtain rfl : Wh1 = Wh4 := (by first | exact hN | exact hN.symm))
     refine ⟨(fun _ => hS0), ?_⟩
     refine S_tk 14 (.pointer (some ⟨b, 2, none⟩)) rfl hS0 (fun w' hw => by go_simp) ?_
     refine S_store 15 (fun _ => trivial) (by kernel_rfl) (by kernel_rfl) rfl (by kernel_rfl) (setRow Wh1 (b) 87 (mkA ⟨numB r1, fw, numB b1, 0, 0, kI⟩)) (exec_store _ _ rfl (by kernel_rfl) (by kernel_rfl) (stcMk_next _ KA102.out (numB b1))) (fun h => absurd h (by decide)) ?_
     replace KA100 := Lib.hid (Blk.rowOver (g' := b) (t' := 87) (cs' := mkA ⟨numB r1, fw, numB b1, 0, 0, kI⟩) (by first | assumption | omega) KA100.out)
     replace KA101 := Lib.hid (Blk.rowOver (g' := b) (t' := 87) (cs' := mkA ⟨numB r1, fw, numB b1, 0, 0, kI⟩) (by first | assumption | omega) KA101.out)
     replace KA102 := Lib.hid (Blk.row (t := 87) (cs := mkA ⟨numB r1, fw, numB b1, 0, 0, kI⟩) KA102.out.lt)
     replace HBt := Below.row HBt (g := b) (t := 87) (cs := mkA ⟨numB r1, fw, numB b1, 0, 0, kI⟩) (by omega) HBt.size
     refine ⟨by kernel_rfl, rfl, ?_⟩
     obtain ⟨WN, hWN⟩ : ∃ WN, (setRow Wh1 (b) 87 (mkA ⟨numB r1, fw, numB b1, 0, 0, kI⟩)) = WN := ⟨_, rfl⟩
     rw [hWN] at KA100 KA101 KA102 HBt ⊢
     clear hWN hwf hS0 HB
     have HB := HBt
     clear HBt
     clear K0 k0 f0 l0 m0
     clear K1 k1 f1 l1 m1
     clear K2 k2 f2 l2 m2
     have K0 := KA100
     clear KA100
     have K1 := KA101
     clear KA101
     have K2 := KA102
     clear KA102
     (obtain ⟨k0, f0, l0, m0⟩ := K0.out.rl; obtain ⟨k1, f1, l1, m1⟩ := K1.out.rl; obtain ⟨k2, f2, l2, m2⟩ := K2.out.rl)
     go_wp2_with fail
     go_meet
     case rel => exact ⟨K0.out, K1.out, K2.out, hgb, HB⟩
   case rest =>
    have hW := hcut
    have j0 := Lib.hid hW.1
    have j1 := Lib.hid hW.2.1
    have j2 := Lib.hid hW.2.2.1
    have HBn := hW.2.2.2.2
    clear hW k0 f0 l0 m0 k1 f1 l1 m1 k2 f2 l2 m2 K0 K1 K2 HB
    have K0 := j0; have K1 := j1; have K2 := j2; have HB := HBn
    clear j0 j1 j2 HBn
    (obtain ⟨k0, f0, l0, m0⟩ := K0.out.rl; obtain ⟨k1, f1, l1, m1⟩ := K1.out.rl; obtain ⟨k2, f2, l2, m2⟩ := K2.out.rl)
    generalize numB (r3 && b1) = nx at *
    go_wp2_with (first | (with_reducible refine wpList_load_run (o := ⟨_, .load 33 _, _, _, _, none⟩) (ldUp _ K0.out) rfl _ rfl rfl ?_) | (with_reducible refine wpList_load_run_g (o := ⟨_, .load 33 _, _, _, _, some _⟩) (ldUp _ K0.out) (by with_unfolding_all rfl) _ rfl rfl ?_))
    (refine (n4.out _).mono ?_; rintro e w4 ⟨rfl, hN⟩; have N0 := Lib.hid (K0.out.below hN); have N1 := Lib.hid (K1.out.below hN); have N2 := Lib.hid (K2.out.below hN); have HBn : Below w.heap.size w w4 := Below.on hN HB; clear hN HB K0 k0 f0 l0 m0 K1 k1 f1 l1 m1 K2 k2 f2 l2 m2; have K0 := N0; clear N0; have K1 := N1; clear N1; have K2 := N2; clear N2; have HB := HBn; clear HBn; (obtain ⟨k0, f0, l0, m0⟩ := K0.out.rl; obtain ⟨k1, f1, l1, m1⟩ := K1.out.rl; obtain ⟨k2, f2, l2, m2⟩ := K2.out.rl))
    go_wp2_with fail
    refine (n8.out _ _).mono ?_
    rintro e w5 ⟨rfl, rfl⟩
    (go_wp2_with (first | (with_reducible refine wpList_store_halt (o := ⟨_, .store 3 _ _, _, _, _, none⟩) (stcMk_final _ K2.out (numB r4)) rfl _ _ rfl rfl rfl ?_)); generalize hWN : setRow _ _ _ _ = WN; have N2 := Lib.hid (show Blk WN _ _ _ by rw [← hWN]; exact Blk.row K2.out.lt); have N0 := Lib.hid (show Blk WN _ _ _ by rw [← hWN]; exact Blk.rowOver (by omega) K0.out); have N1 := Lib.hid (show Blk WN _ _ _ by rw [← hWN]; exact Blk.rowOver (by omega) K1.out); have HBn : Below w.heap.size w WN := (by rw [← hWN]; exact Below.row HB (by omega) HB.size); clear hWN HB K2 k2 f2 l2 m2 K0 k0 f0 l0 m0 K1 k1 f1 l1 m1; have K2 := N2; clear N2; have K0 := N0; clear N0; have K1 := N1; clear N1; have HB := HBn; clear HBn; (obtain ⟨k2, f2, l2, m2⟩ := K2.out.rl; obtain ⟨k0, f0, l0, m0⟩ := K0.out.rl; obtain ⟨k1, f1, l1, m1⟩ := K1.out.rl); unfold Halted)
    go_upto_region 6 with fail
    go_cut [] (fun wx => MrW w g b u ⟨numB r1, fw, nx, numB r4, numB (r4 && b2), kI⟩ wx)
    case first =>
     cases r4 with
     | false =>
      have hwf : ∀ f, Fence.wide.fn f := fun _ => trivial
      refine (wpIn_wide (n := 9)).1 ?_
      refine wpIn_round_held (fun w' => Below WN.heap.size WN w') (fun j => !decide (j ∈ [17])) (by kernel_rfl) ?_
      have hS0 : (fun w' => Below WN.heap.size WN w') WN.drew := (Below.refl _ _).drew
      have KA100 := Lib.hid (K0.out.drew)
      have KA101 := Lib.hid (K1.out.drew)
      have KA102 := Lib.hid (K2.out.drew)
      have HBt := HB.drew
      refine S_tk 0 (upV (u)) rfl hS0 (fun w' hw => exec_load rfl (by kernel_rfl) (ldUp (u) (K0.out.below hw))) ?_
      refine S_one 1 (by kernel_rfl) rfl (fun K hK => ?_)
      go_simp
      gi_wp2_with (gi_at_call 81; refine (callsIn_wide.2 (n4.out _)).mono ?_; rintro e WNh1 ⟨rfl, hN⟩)
      replace KA100 := Lib.hid (KA100.out.below hN)
      replace KA101 := Lib.hid (KA101.out.below hN)
      replace KA102 := Lib.hid (KA102.out.below hN)
      replace HBt := Below.on hN HBt
      have hS1 : (fun w' => Below WN.heap.size WN w') WNh1 := hS0.trans (hN.mono hS0.size)
      clear hS0
      have hS0 := hS1
      clear hS1
      clear hN
      refine ⟨(fun _ => hS0), ?_⟩
      refine S_tk 2 (.bool false) rfl hS0 (fun w' hw => by go_simp) ?_
      refine S_skip (fun _ => trivial) 3 (by kernel_rfl) rfl (by kernel_rfl) (by kernel_rfl) (by kernel_rfl) (by kernel_rfl) (onlyN_panic _ _) hS0 (by kernel_rfl) ?_
      refine S_skip (fun _ => trivial) 4 (by kernel_rfl) rfl (by kernel_rfl) (by kernel_rfl) (by kernel_rfl) (by kernel_rfl) (onlyN_panic _ _) hS0 (by kernel_rfl) ?_
      refine S_skip (fun _ => trivial) 5 (by kernel_rfl) rfl (by kernel_rfl) (by kernel_rfl) (by kernel_rfl) (by kernel_rfl) (onlyN_panic _ _) hS0 (by kernel_rfl) ?_
      refine S_skip (fun _ => trivial) 6 (by kernel_rfl) rfl (by kernel_rfl) (by kernel_rfl) (by kernel_rfl) (by kernel_rfl) (onlyN_panic _ _) hS0 (by kernel_rfl) ?_
      refine S_skip (fun _ => trivial) 7 (by kernel_rfl) rfl (by kernel_rfl) (by kernel_rfl) (by kernel_rfl) (by kernel_rfl) (onlyN_panic _ _) hS0 (by kernel_rfl) ?_
      refine S_skip (fun _ => trivial) 8 (by kernel_rfl) rfl (by kernel_rfl) (by kernel_rfl) (by kernel_rfl) (by kernel_rfl) (onlyN_panic _ _) hS0 (by kernel_rfl) ?_
      refine S_skip (fun _ => trivial) 9 (by kernel_rfl) rfl (by kernel_rfl) (by kernel_rfl) (by kernel_rfl) (by kernel_rfl) (onlyN_panic _ _) hS0 (by kernel_rfl) ?_
      refine S_skip (fun _ => trivial) 10 (by kernel_rfl) rfl (by kernel_rfl) (by kernel_rfl) (by kernel_rfl) (by kernel_rfl) (onlyN_panic _ _) hS0 (by kernel_rfl) ?_
      refine S_skip (fun _ => trivial) 11 (by kernel_rfl) rfl (by kernel_rfl) (by kernel_rfl) (by kernel_rfl) (by kernel_rfl) (onlyN_panic _ _) hS0 (by kernel_rfl) ?_
      refine S_skip (fun _ => trivial) 12 (by kernel_rfl) rfl (by kernel_rfl) (by kernel_rfl) (by kernel_rfl) (by kernel_rfl) (onlyN_panic _ _) hS0 (by kernel_rfl) ?_
      refine S_skip (fun _ => trivial) 13 (by kernel_rfl) rfl (by kernel_rfl) (by kernel_rfl) (by kernel_rfl) (by kernel_rfl) (onlyN_panic _ _) hS0 (by kernel_rfl) ?_
      refine S_tk 14 (.bool false) rfl hS0 (fun w' hw => by go_simp) ?_
      refine S_one 15 (by kernel_rfl) rfl (fun K hK => ?_)
      go_simp
      gi_wp2_with (gi_at_call 125; refine (callsIn_wide.2 (n8.out false _)).mono ?_; rintro e WNh2 ⟨rfl, hN⟩; obtain rfl : WNh1 = WNh2 := (by first | exact hN | exact hN.symm))
      refine ⟨(fun _ => hS0), ?_⟩
      refine S_tk 16 (.pointer (some ⟨b, 4, none⟩)) rfl hS0 (fun w' hw => by go_simp) ?_
      refine S_store 17 (fun _ => trivial) (by kernel_rfl) (by kernel_rfl) rfl (by kernel_rfl) (setRow WNh1 (b) 87 (mkA ⟨numB r1, fw, nx, numB false, numB false, kI⟩)) (exec_store _ _ rfl (by kernel_rfl) (by kernel_rfl) (stcMk_own _ KA102.out (numB false))) (fun h => absurd h (by decide)) ?_
      replace KA100 := Lib.hid (Blk.rowOver (g' := b) (t' := 87) (cs' := mkA ⟨numB r1, fw, nx, numB false, numB false, kI⟩) (by first | assumption | omega) KA100.out)
      replace KA101 := Lib.hid (Blk.rowOver (g' := b) (t' := 87) (cs' := mkA ⟨numB r1, fw, nx, numB false, numB false, kI⟩) (by first | assumption | omega) KA101.out)
      replace KA102 := Lib.hid (Blk.row (t := 87) (cs := mkA ⟨numB r1, fw, nx, numB false, numB false, kI⟩) KA102.out.lt)
      replace HBt := Below.row HBt (g := b) (t := 87) (cs := mkA ⟨numB r1, fw, nx, numB false, numB false, kI⟩) (by omega) HBt.size
      refine ⟨by kernel_rfl, rfl, ?_⟩
      obtain ⟨WN, hWN⟩ : ∃ WN, (setRow WNh1 (b) 87 (mkA ⟨numB r1, fw, nx, numB false, numB false, kI⟩)) = WN := ⟨_, rfl⟩
      rw [hWN] at KA100 KA101 KA102 HBt ⊢
      clear hWN hwf hS0 HB
      have HB := HBt
      clear HBt
      clear K0 k0 f0 l0 m0
      clear K1 k1 f1 l1 m1
      clear K2 k2 f2 l2 m2
      have K0 := KA100
      clear KA100
      have K1 := KA101
      clear KA101
      have K2 := KA102
      clear KA102
      (obtain ⟨k0, f0, l0, m0⟩ := K0.out.rl; obtain ⟨k1, f1, l1, m1⟩ := K1.out.rl; obtain ⟨k2, f2, l2, m2⟩ := K2.out.rl)
      go_wp2_with fail
      go_meet
      case rel => exact ⟨K0.out, K1.out, K2.out, hgb, HB⟩
     | true =>
      have hwf : ∀ f, Fence.wide.fn f := fun _ => trivial
      refine (wpIn_wide (n := 9)).1 ?_
      refine wpIn_round_held (fun w' => Below WN.heap.size WN w') (fun j => !decide (j ∈ [17])) (by kernel_rfl) ?_
      have hS0 : (fun w' => Below WN.heap.size WN w') WN.drew := (Below.refl _ _).drew
      have KA100 := Lib.hid (K0.out.drew)
      have KA101 := Lib.hid (K1.out.drew)
      have KA102 := Lib.hid (K2.out.drew)
      have HBt := HB.drew
      refine S_tk 0 (upV (u)) rfl hS0 (fun w' hw => exec_load rfl (by kernel_rfl) (ldUp (u) (K0.out.below hw))) ?_
      refine S_one 1 (by kernel_rfl) rfl (fun K hK => ?_)
      go_simp
      gi_wp2_with (gi_at_call 81; refine (callsIn_wide.2 (n4.out _)).mono ?_; rintro e WNh1 ⟨rfl, hN⟩)
      replace KA100 := Lib.hid (KA100.out.below hN)
      replace KA101 := Lib.hid (KA101.out.below hN)
      replace KA102 := Lib.hid (KA102.out.below hN)
      replace HBt := Below.on hN HBt
      have hS1 : (fun w' => Below WN.heap.size WN w') WNh1 := hS0.trans (hN.mono hS0.size)
      clear hS0
      have hS0 := hS1
      clear hS1
      clear hN
      refine ⟨(fun _ => hS0), ?_⟩
      refine S_tk 2 (.bool true) rfl hS0 (fun w' hw => by go_simp) ?_
      refine S_tk 3 (.pointer (some ⟨g, 12, none⟩)) rfl hS0 (fun w' hw => by go_simp) ?_
      refine S_tk 4 (.pointer (some ⟨g, 12, none⟩)) rfl hS0 (fun w' hw => by go_simp) ?_
      refine S_tk 5 (.pointer (some ⟨g, 12, none⟩)) rfl hS0 (fun w' hw => by go_simp) ?_
      refine S_tk 6 (.int .u64 (u.fin.b.slot : Int)) rfl hS0 (fun w' hw => exec_load rfl (by kernel_rfl) (run_load_cell (i := 12) (K0.out.below hw) rfl szU64 nrU64)) ?_
      refine S_tk 8 (.pointer (some ⟨g, 0, none⟩)) rfl hS0 (fun w' hw => by go_simp) ?_
      refine S_tk 9 (.pointer (some ⟨g, 0, none⟩)) rfl hS0 (fun w' hw => by go_simp) ?_
      refine S_tk 10 (.pointer (some ⟨g, 0, none⟩)) rfl hS0 (fun w' hw => by go_simp) ?_
      refine S_tk 11 (.int .u64 (u.seen.b.slot : Int)) rfl hS0 (fun w' hw => exec_load rfl (by kernel_rfl) (run_load_cell (i := 0) (K0.out.below hw) rfl szU64 nrU64)) ?_
      refine S_one 7 (by kernel_rfl) rfl (fun K hK => ?_)
      go_simp
      gi_wp2_with (gi_at_call 82; refine (callsIn_wide.2 (n7.out _)).mono ?_; rintro e WNh2 ⟨rfl, hN⟩; obtain rfl : WNh1 = WNh2 := (by first | exact hN | exact hN.symm))
      refine ⟨(fun _ => hS0), ?_⟩
      refine S_one 12 (by kernel_rfl) rfl (fun K hK => ?_)
      go_simp
      gi_wp2_with (gi_at_call 82; refine (callsIn_wide.2 (n5.out _)).mono ?_; rintro e WNh3 ⟨rfl, hN⟩; obtain rfl : WNh1 = WNh3 := (by first | exact hN | exact hN.symm))
      refine ⟨(fun _ => hS0), ?_⟩
      refine S_tk 13 (.bool b2) rfl hS0 (fun w' hw => by go_simp) ?_
      refine S_tk 14 (.bool b2) rfl hS0 (fun w' hw => by go_simp) ?_
      refine S_one 15 (by kernel_rfl) rfl (fun K hK => ?_)
      go_simp
      gi_wp2_with (gi_at_call 125; refine (callsIn_wide.2 (n8.out b2 _)).mono ?_; rintro e WNh4 ⟨rfl, hN⟩; obtain rfl : WNh1 = WNh4 := (by first | exact hN | exact hN.symm))
      refine ⟨(fun _ => hS0), ?_⟩
      refine S_tk 16 (.pointer (some ⟨b, 4, none⟩)) rfl hS0 (fun w' hw => by go_simp) ?_
      refine S_store 17 (fun _ => trivial) (by kernel_rfl) (by kernel_rfl) rfl (by kernel_rfl) (setRow WNh1 (b) 87 (mkA ⟨numB r1, fw, nx, numB true, numB b2, kI⟩)) (exec_store _ _ rfl (by kernel_rfl) (by kernel_rfl) (stcMk_own _ KA102.out (numB b2))) (fun h => absurd h (by decide)) ?_
      replace KA100 := Lib.hid (Blk.rowOver (g' := b) (t' := 87) (cs' := mkA ⟨numB r1, fw, nx, numB true, numB b2, kI⟩) (by first | assumption | omega) KA100.out)
      replace KA101 := Lib.hid (Blk.rowOver (g' := b) (t' := 87) (cs' := mkA ⟨numB r1, fw, nx, numB true, numB b2, kI⟩) (by first | assumption | omega) KA101.out)
      replace KA102 := Lib.hid (Blk.row (t := 87) (cs := mkA ⟨numB r1, fw, nx, numB true, numB b2, kI⟩) KA102.out.lt)
      replace HBt := Below.row HBt (g := b) (t := 87) (cs := mkA ⟨numB r1, fw, nx, numB true, numB b2, kI⟩) (by omega) HBt.size
      refine ⟨by kernel_rfl, rfl, ?_⟩
      obtain ⟨WN, hWN⟩ : ∃ WN, (setRow WNh1 (b) 87 (mkA ⟨numB r1, fw, nx, numB true, numB b2, kI⟩)) = WN := ⟨_, rfl⟩
      rw [hWN] at KA100 KA101 KA102 HBt ⊢
      clear hWN hwf hS0 HB
      have HB := HBt
      clear HBt
      clear K0 k0 f0 l0 m0
      clear K1 k1 f1 l1 m1
      clear K2 k2 f2 l2 m2
      have K0 := KA100
      clear KA100
      have K1 := KA101
      clear KA101
      have K2 := KA102
      clear KA102
      (obtain ⟨k0, f0, l0, m0⟩ := K0.out.rl; obtain ⟨k1, f1, l1, m1⟩ := K1.out.rl; obtain ⟨k2, f2, l2, m2⟩ := K2.out.rl)
      go_wp2_with fail
      go_meet
      case rel => exact ⟨K0.out, K1.out, K2.out, hgb, HB⟩
    case rest =>
     have hW := hcut
     have j0 := Lib.hid hW.1
     have j1 := Lib.hid hW.2.1
     have j2 := Lib.hid hW.2.2.1
     have HBn := hW.2.2.2.2
     clear hW k0 f0 l0 m0 k1 f1 l1 m1 k2 f2 l2 m2 K0 K1 K2 HB
     have K0 := j0; have K1 := j1; have K2 := j2; have HB := HBn
     clear j0 j1 j2 HBn
     (obtain ⟨k0, f0, l0, m0⟩ := K0.out.rl; obtain ⟨k1, f1, l1, m1⟩ := K1.out.rl; obtain ⟨k2, f2, l2, m2⟩ := K2.out.rl)
     (go_wp2_with (first | (with_reducible refine wpList_load_run (o := ⟨_, .load 87 _, _, _, _, none⟩) (ldMk _ K2.out) rfl _ rfl rfl ?_) | (with_reducible refine wpList_load_run_g (o := ⟨_, .load 87 _, _, _, _, some _⟩) (ldMk _ K2.out) (by with_unfolding_all rfl) _ rfl rfl ?_) | (with_reducible refine wpList_store_halt (o := ⟨_, .store 87 _ _, _, _, _, none⟩) (stMk2 _ K1.out (⟨numB r1, fw, nx, numB r4, numB (r4 && b2), kI⟩)) rfl _ _ rfl rfl rfl ?_)); generalize hWN : setRow _ _ _ _ = WN; have N1 := Lib.hid (show Blk WN _ _ _ by rw [← hWN]; exact Blk.row K1.out.lt); have N0 := Lib.hid (show Blk WN _ _ _ by rw [← hWN]; exact Blk.rowOver (by omega) K0.out); have N2 := Lib.hid (show Blk WN _ _ _ by rw [← hWN]; exact Blk.rowOver (by omega) K2.out); have HBn : Below w.heap.size w WN := (by rw [← hWN]; exact Below.row HB (by omega) HB.size); clear hWN HB K1 k1 f1 l1 m1 K0 k0 f0 l0 m0 K2 k2 f2 l2 m2; have K1 := N1; clear N1; have K0 := N0; clear N0; have K2 := N2; clear N2; have HB := HBn; clear HBn; (obtain ⟨k1, f1, l1, m1⟩ := K1.out.rl; obtain ⟨k0, f0, l0, m0⟩ := K0.out.rl; obtain ⟨k2, f2, l2, m2⟩ := K2.out.rl); unfold Halted)
     go_wp2_with fail
     exact bodyPost_ret (results_cell rfl rfl (ldMk _ K1.out)) rfl ⟨by rw [hM2.out], HB⟩
end Go.Proofs.YtegaaccioppfjaaGreatDoor
end
