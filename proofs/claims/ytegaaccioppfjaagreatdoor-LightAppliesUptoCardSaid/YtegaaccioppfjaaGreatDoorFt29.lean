/- Plain laws and walks, each by its own conditions. -/
import Derived.Test.YtegaaccioppfjaaGreatDoorFt22
set_option linter.unusedSimpArgs false
set_option linter.unusedVariables false
set_option maxRecDepth 100000
set_option maxHeartbeats 16000000
section
namespace Go.Proofs.YtegaaccioppfjaaGreatDoor
open BigFrame Go.RowKit Go.Phx Go.Shelf
attribute [local go_sem] Oper.semAt_some

theorem ifc2 {c d : Prop} [Decidable c] [Decidable d] {α : Type} {x y : α} (h : c ↔ d) : (if c then x else y) = if d then x else y := by
 by_cases k : c
 ·rw [if_pos k, if_pos (h.1 k)]
 ·rw [if_neg k, if_neg fun m => k (h.2 m)]
theorem ifn {α β : Type} {a b : α} {X Y : β} [Decidable (a ≠ b)] (h : a = b) : (if a ≠ b then X else Y) = Y := if_neg fun k => k h
theorem rownNext_calls (u : Up) (h1 : u.seen.b.slot < 18446744073709551616) (h2 : u.slot < 18446744073709551616) (w : World) : Calls Tryz.prog 76 #[upV u] w (Ret w (.bool (ownNextP u))) := by
 have n1 := fun W => rhasNext_calls u W
 have n2 := fun W => rperiod_q u.seen.b.slot h1 W
 have n3 := fun W => rperiod_q u.slot h2 W
 have hE : ownNextP u = (hasNextP u && decide (period u.seen.b.slot = period u.slot)) := rfl
 rw [hE]
 clear hE
 generalize hasNextP u = r1 at *
 generalize period u.seen.b.slot = ps at *
 generalize period u.slot = pu at *
 have e1 : ((ps : Int) == (pu : Int)) = decide (ps = pu) := by rw [Bool.eq_iff_iff]; simp; omega
 generalize decide (ps = pu) = b1 at *
 replace n1 := Lib.hid n1
 replace n2 := Lib.hid n2
 replace n3 := Lib.hid n3
 clear h1 h2
 go_enter Tryz.func76, Tryz.ntmps76
 go_upto_region 1 with fail
 have HB : Below w.heap.size w (w.alloc (.cells (upA u) 33)) := bel
 have K0 := Blk.new0 w 33 (upA u)
 obtain ⟨W, hW⟩ : ∃ W, w.alloc (.cells (upA u) 33) = W := ⟨_, rfl⟩
 rw [hW] at HB K0 ⊢
 clear hW
 have hgl : w.heap.size ≤ w.heap.size := Nat.le_refl _
 obtain ⟨g, hg⟩ : ∃ g, w.heap.size = g := ⟨_, rfl⟩
 rw [hg] at K0 ⊢
 replace hgl : w.heap.size ≤ g := by omega
 replace K0 := Lib.hid K0
 clear hg
 (obtain ⟨k0, f0, l0, m0⟩ := rl_ K0)
 cases r1 with
 | false =>
  have hwf : ∀ f, Fence.wide.fn f := fun _ => trivial
  refine (wpIn_wide (n := 9)).1 ?_
  refine wpIn_round_held (fun w' => Below W.heap.size W w') (fun j => true) (by kernel_rfl) ?_
  have hS0 : (fun w' => Below W.heap.size W w') W.drew := (Below.refl _ _).drew
  refine S_tk 0 (upV (u)) rfl hS0 (fun w' hw => exec_load rfl (by kernel_rfl) (ldUp (u) (K0.out.below hw))) ?_
  refine S_one 1 (by kernel_rfl) rfl (fun K hK => ?_)
  go_simp
  gi_wp2_with (gi_at_call 85; refine (callsIn_wide.2 (n1.out _)).mono ?_; rintro e Wh1 ⟨rfl, hN⟩)
  have hS1 : (fun w' => Below W.heap.size W w') Wh1 := hS0.trans (hN.mono hS0.size)
  clear hS0
  have hS0 := hS1
  clear hS1
  clear hN
  refine ⟨(fun _ => hS0), ?_⟩
  refine S_tk 2 (.bool false) rfl hS0 (fun w' hw => by go_simp) ?_
  refine S_sk 3 rfl hS0 ?_
  refine S_sk 4 rfl hS0 ?_
  refine S_sk 5 rfl hS0 ?_
  refine S_sk 6 rfl hS0 ?_
  refine S_sk 7 rfl hS0 ?_
  refine S_sk 8 rfl hS0 ?_
  refine S_sk 9 rfl hS0 ?_
  refine S_sk 10 rfl hS0 ?_
  refine S_sk 11 rfl hS0 ?_
  refine S_tk 12 (.bool false) rfl hS0 (fun w' hw => by go_simp) ?_
  refine S_tk 13 (.bool false) rfl hS0 (fun w' hw => by go_simp) ?_
  refine ⟨by kernel_rfl, rfl, ?_⟩
  go_wp2_with fail
  go_ret
  exact ⟨rfl, Below.on hS0 HB⟩
 | true =>
  have hwf : ∀ f, Fence.wide.fn f := fun _ => trivial
  refine (wpIn_wide (n := 9)).1 ?_
  refine wpIn_round_held (fun w' => Below W.heap.size W w') (fun j => true) (by kernel_rfl) ?_
  have hS0 : (fun w' => Below W.heap.size W w') W.drew := (Below.refl _ _).drew
  refine S_tk 0 (upV (u)) rfl hS0 (fun w' hw => exec_load rfl (by kernel_rfl) (ldUp (u) (K0.out.below hw))) ?_
  refine S_one 1 (by kernel_rfl) rfl (fun K hK => ?_)
  go_simp
  gi_wp2_with (gi_at_call 85; refine (callsIn_wide.2 (n1.out _)).mono ?_; rintro e Wh1 ⟨rfl, hN⟩)
  have hS1 : (fun w' => Below W.heap.size W w') Wh1 := hS0.trans (hN.mono hS0.size)
  clear hS0
  have hS0 := hS1
  clear hS1
  clear hN
  refine ⟨(fun _ => hS0), ?_⟩
  refine S_tk 2 (.bool true) rfl hS0 (fun w' hw => by go_simp) ?_
  refine S_tk 3 (.pointer (some ⟨g, 0, none⟩)) rfl hS0 (fun w' hw => by go_simp) ?_
  refine S_tk 4 (.pointer (some ⟨g, 0, none⟩)) rfl hS0 (fun w' hw => by go_simp) ?_
  refine S_tk 5 (.pointer (some ⟨g, 0, none⟩)) rfl hS0 (fun w' hw => by go_simp) ?_
  refine S_tk 6 (.int .u64 (u.seen.b.slot : Int)) rfl hS0 (fun w' hw => exec_load rfl (by kernel_rfl) (run_load_cell (i := 0) (K0.out.below hw) rfl szU64 nrU64)) ?_
  refine S_tk 8 (.pointer (some ⟨g, 24, none⟩)) rfl hS0 (fun w' hw => by go_simp) ?_
  refine S_tk 9 (.int .u64 (u.slot : Int)) rfl hS0 (fun w' hw => exec_load rfl (by kernel_rfl) (run_load_cell (i := 24) (K0.out.below hw) rfl szU64 nrU64)) ?_
  refine S_one 7 (by kernel_rfl) rfl (fun K hK => ?_)
  go_simp
  gi_wp2_with (gi_at_call 66; refine (callsIn_wide.2 (n2.out _)).mono ?_; rintro e Wh2 ⟨rfl, hN⟩; obtain rfl : Wh1 = Wh2 := (by first | exact hN | exact hN.symm))
  refine ⟨(fun _ => hS0), ?_⟩
  refine S_one 10 (by kernel_rfl) rfl (fun K hK => ?_)
  go_simp
  gi_wp2_with (gi_at_call 66; refine (callsIn_wide.2 (n3.out _)).mono ?_; rintro e Wh3 ⟨rfl, hN⟩; obtain rfl : Wh1 = Wh3 := (by first | exact hN | exact hN.symm))
  refine ⟨(fun _ => hS0), ?_⟩
  refine S_tk 11 (.bool b1) rfl hS0 (fun w' hw => by go_simp) ?_
  refine S_tk 12 (.bool b1) rfl hS0 (fun w' hw => by go_simp) ?_
  refine S_tk 13 (.bool b1) rfl hS0 (fun w' hw => by go_simp) ?_
  refine ⟨by kernel_rfl, rfl, ?_⟩
  go_wp2_with fail
  go_ret
  exact ⟨rfl, Below.on hS0 HB⟩
theorem rownFinal_calls (u : Up) (h1 : u.seen.b.slot < 18446744073709551616) (h2 : u.fin.b.slot < 18446744073709551616) (w : World) : Calls Tryz.prog 78 #[upV u] w (Ret w (.bool (decide (period u.fin.b.slot = period u.seen.b.slot)))) := by
 have n2 := fun W => rperiod_q u.seen.b.slot h1 W
 have n3 := fun W => rperiod_q u.fin.b.slot h2 W
 generalize period u.seen.b.slot = ps at *
 generalize period u.fin.b.slot = pf at *
 have e1 : ((pf : Int) == (ps : Int)) = decide (pf = ps) := by rw [Bool.eq_iff_iff]; simp; omega
 generalize decide (pf = ps) = b1 at *
 replace n2 := Lib.hid n2
 replace n3 := Lib.hid n3
 clear h1 h2
 go_enter Tryz.func78, Tryz.ntmps78
 go_upto_region 1 with fail
 have HB : Below w.heap.size w (w.alloc (.cells (upA u) 33)) := bel
 have K0 := Blk.new0 w 33 (upA u)
 obtain ⟨W, hW⟩ : ∃ W, w.alloc (.cells (upA u) 33) = W := ⟨_, rfl⟩
 rw [hW] at HB K0 ⊢
 clear hW
 have hgl : w.heap.size ≤ w.heap.size := Nat.le_refl _
 obtain ⟨g, hg⟩ : ∃ g, w.heap.size = g := ⟨_, rfl⟩
 rw [hg] at K0 ⊢
 replace hgl : w.heap.size ≤ g := by omega
 replace K0 := Lib.hid K0
 clear hg
 (obtain ⟨k0, f0, l0, m0⟩ := rl_ K0)
 have hwf : ∀ f, Fence.wide.fn f := fun _ => trivial
 refine (wpIn_wide (n := 9)).1 ?_
 refine wpIn_round_held (fun w' => Below W.heap.size W w') (fun j => true) (by kernel_rfl) ?_
 have hS0 : (fun w' => Below W.heap.size W w') W.drew := (Below.refl _ _).drew
 refine S_tk 0 (.pointer (some ⟨g, 12, none⟩)) rfl hS0 (fun w' hw => by go_simp) ?_
 refine S_tk 1 (.pointer (some ⟨g, 12, none⟩)) rfl hS0 (fun w' hw => by go_simp) ?_
 refine S_tk 2 (.pointer (some ⟨g, 12, none⟩)) rfl hS0 (fun w' hw => by go_simp) ?_
 refine S_tk 3 (.int .u64 (u.fin.b.slot : Int)) rfl hS0 (fun w' hw => exec_load rfl (by kernel_rfl) (run_load_cell (i := 12) (K0.out.below hw) rfl szU64 nrU64)) ?_
 refine S_tk 5 (.pointer (some ⟨g, 0, none⟩)) rfl hS0 (fun w' hw => by go_simp) ?_
 refine S_tk 6 (.pointer (some ⟨g, 0, none⟩)) rfl hS0 (fun w' hw => by go_simp) ?_
 refine S_tk 7 (.pointer (some ⟨g, 0, none⟩)) rfl hS0 (fun w' hw => by go_simp) ?_
 refine S_tk 8 (.int .u64 (u.seen.b.slot : Int)) rfl hS0 (fun w' hw => exec_load rfl (by kernel_rfl) (run_load_cell (i := 0) (K0.out.below hw) rfl szU64 nrU64)) ?_
 refine S_one 4 (by kernel_rfl) rfl (fun K hK => ?_)
 go_simp
 gi_wp2_with (gi_at_call 66; refine (callsIn_wide.2 (n3.out _)).mono ?_; rintro e Wh1 ⟨rfl, hN⟩; obtain rfl : W.drew = Wh1 := (by first | exact hN | exact hN.symm))
 refine ⟨(fun _ => hS0), ?_⟩
 refine S_one 9 (by kernel_rfl) rfl (fun K hK => ?_)
 go_simp
 gi_wp2_with (gi_at_call 66; refine (callsIn_wide.2 (n2.out _)).mono ?_; rintro e Wh2 ⟨rfl, hN⟩; obtain rfl : W.drew = Wh2 := (by first | exact hN | exact hN.symm))
 refine ⟨(fun _ => hS0), ?_⟩
 refine S_tk 10 (.bool b1) rfl hS0 (fun w' hw => by go_simp) ?_
 refine S_tk 11 (.bool b1) rfl hS0 (fun w' hw => by go_simp) ?_
 refine ⟨by kernel_rfl, rfl, ?_⟩
 go_wp2_with fail
 go_ret
 exact ⟨rfl, Below.on hS0 HB⟩
def UuW (w : World) (g : Nat) (a b : Up) (wx : World) : Prop := Blk wx g 33 (upA a) ∧ Blk wx (g + 1) 33 (upA b) ∧ Below w.heap.size w wx
theorem rbetter_calls (a b : Up) (w : World) (ha : LtIn w a.fin) (hb : LtIn w b.fin) (hab : a.bits < 18446744073709551616) (hbb : b.bits < 18446744073709551616) (h1 : a.seen.b.slot < 18446744073709551616) (h2 : a.slot < 18446744073709551616) (h3 : a.fin.b.slot < 18446744073709551616) (h4 : b.seen.b.slot < 18446744073709551616) (h5 : b.slot < 18446744073709551616) (h6 : b.fin.b.slot < 18446744073709551616) : Calls Tryz.prog 28 #[upV a, upV b] w (Ret w (.bool (rbetterP a b))) := by
 have nta := fun W => rtwo_calls a hab W
 have ntb := fun W => rtwo_calls b hbb W
 have nx := fun W => rsigners_calls a.bits hab W
 have ny := fun W => rsigners_calls b.bits hbb W
 have nna := fun W => rownNext_calls a h1 h2 W
 have nnb := fun W => rownNext_calls b h4 h5 W
 have nfa := fun W (hB : Below w.heap.size w W) => risFinal_calls a W (ha.below hB)
 have nfb := fun W (hB : Below w.heap.size w W) => risFinal_calls b W (hb.below hB)
 have noa := fun W => rownFinal_calls a h1 h3 W
 have nob := fun W => rownFinal_calls b h4 h6 W
 obtain ⟨R, hv⟩ : ∃ R, R = rbetterP a b := ⟨_, rfl⟩
 rw [← hv]
 unfold rbetterP at hv
 generalize twoP a = ta at *
 generalize twoP b = tb at *
 generalize onesP a.bits = x at *
 generalize onesP b.bits = y at *
 generalize ownNextP a = na at *
 generalize ownNextP b = nb at *
 generalize isFinalP a = fa at *
 generalize isFinalP b = fb at *
 generalize decide (period a.fin.b.slot = period a.seen.b.slot) = oa at *
 generalize decide (period b.fin.b.slot = period b.seen.b.slot) = ob at *
 replace hv := Lib.hid hv
 replace nta := Lib.hid nta
 replace ntb := Lib.hid ntb
 replace nx := Lib.hid nx
 replace ny := Lib.hid ny
 replace nna := Lib.hid nna
 replace nnb := Lib.hid nnb
 replace nfa := Lib.hid nfa
 replace nfb := Lib.hid nfb
 replace noa := Lib.hid noa
 replace nob := Lib.hid nob
 clear ha hb hab hbb h1 h2 h3 h4 h5 h6
 go_enter Tryz.func28, Tryz.ntmps28
 go_upto_region 1 with fail
 have HB : Below w.heap.size w ((w.alloc (.cells (upA a) 33)).alloc (.cells (upA b) 33)) := bel
 have K0 := (Blk.new0 w 33 (upA a)).alloc (.cells (upA b) 33)
 have K1 := Blk.new1 w (.cells (upA a) 33) 33 (upA b)
 obtain ⟨W, hW⟩ : ∃ W, ((w.alloc (.cells (upA a) 33)).alloc (.cells (upA b) 33)) = W := ⟨_, rfl⟩
 rw [hW] at HB K0 K1 ⊢
 clear hW
 have hgl : w.heap.size ≤ w.heap.size := Nat.le_refl _
 obtain ⟨g, hg⟩ : ∃ g, w.heap.size = g := ⟨_, rfl⟩
 rw [hg] at K0 K1 ⊢
 replace hgl : w.heap.size ≤ g := by omega
 replace K0 := Lib.hid K0
 replace K1 := Lib.hid K1
 clear hg
 (obtain ⟨k0, f0, l0, m0⟩ := rl_ K0; obtain ⟨k1, f1, l1, m1⟩ := rl_ K1)
 go_wp2_with fail
 refine (nx.out _).mono ?_
 rintro e w' ⟨rfl, rfl⟩
 go_wp2_with fail
 refine (ny.out _).mono ?_
 rintro e w' ⟨rfl, rfl⟩
 go_upto_region 3 with fail
 obtain ⟨q3, hq3⟩ : ∃ q, (ta != tb) = q := ⟨_, rfl⟩
 have dq3 : (ta == tb) = !q3 := by rw [← hq3]; cases ta <;> cases tb <;> rfl
 go_cut [17] (fun s17 wx => s17 = .bool q3 ∧ UuW w g a b wx)
 case first =>
  as_aux_lemma =>
   have hwf : ∀ f, Fence.wide.fn f := fun _ => trivial
   refine (wpIn_wide (n := 9)).1 ?_
   refine wpIn_round_held (fun w' => Below W.heap.size W w') (fun j => true) (by kernel_rfl) ?_
   have hS0 : (fun w' => Below W.heap.size W w') W.drew := (Below.refl _ _).drew
   have KA100 := Lib.hid (K0.out.drew)
   have KA101 := Lib.hid (K1.out.drew)
   have HBt := HB.drew
   refine S_tk 0 (upV (a)) rfl hS0 (fun w' hw => exec_load rfl (by kernel_rfl) (ldUp (a) (K0.out.below hw))) ?_
   refine S_tk 2 (upV (b)) rfl hS0 (fun w' hw => exec_load rfl (by kernel_rfl) (ldUp (b) (K1.out.below hw))) ?_
   refine S_one 1 (by kernel_rfl) rfl (fun K hK => ?_)
   go_simp
   gi_wp2_with (gi_at_call 75; refine (callsIn_wide.2 (nta.out _)).mono ?_; rintro e Wh1 ⟨rfl, hN⟩)
   replace KA100 := Lib.hid (KA100.out.below hN)
   replace KA101 := Lib.hid (KA101.out.below hN)
   replace HBt := Below.on hN HBt
   have hS1 : (fun w' => Below W.heap.size W w') Wh1 := hS0.trans (hN.mono hS0.size)
   clear hS0
   have hS0 := hS1
   clear hS1
   clear hN
   refine ⟨(fun _ => hS0), ?_⟩
   refine S_one 3 (by kernel_rfl) rfl (fun K hK => ?_)
   go_simp
   gi_wp2_with (gi_at_call 75; refine (callsIn_wide.2 (ntb.out _)).mono ?_; rintro e Wh2 ⟨rfl, hN⟩)
   replace KA100 := Lib.hid (KA100.out.below hN)
   replace KA101 := Lib.hid (KA101.out.below hN)
   replace HBt := Below.on hN HBt
   have hS1 : (fun w' => Below W.heap.size W w') Wh2 := hS0.trans (hN.mono hS0.size)
   clear hS0
   have hS0 := hS1
   clear hS1
   clear hN
   refine ⟨(fun _ => hS0), ?_⟩
   refine S_tk 4 (.bool q3) rfl hS0 (fun w' hw => by go_simp) ?_
   refine ⟨by kernel_rfl, rfl, ?_⟩
   obtain ⟨WN, hWN⟩ : ∃ WN, Wh2 = WN := ⟨_, rfl⟩
   rw [hWN] at KA100 KA101 HBt ⊢
   clear hWN hwf hS0 HB
   have HB := HBt
   clear HBt
   clear K0 k0 f0 l0 m0
   clear K1 k1 f1 l1 m1
   have K0 := KA100
   clear KA100
   have K1 := KA101
   clear KA101
   (obtain ⟨k0, f0, l0, m0⟩ := rl_ K0; obtain ⟨k1, f1, l1, m1⟩ := rl_ K1)
   go_wp2_with fail
   go_meet
   case rel => exact ⟨rfl, K0.out, K1.out, HB⟩
 obtain ⟨rfl, hW⟩ := hcut
 have j0 := Lib.hid hW.1
 have j1 := Lib.hid hW.2.1
 have HBn := hW.2.2
 clear hW k0 f0 l0 m0 k1 f1 l1 m1 K0 K1 HB
 have K0 := j0; have K1 := j1; have HB := HBn
 clear j0 j1 HBn
 (obtain ⟨k0, f0, l0, m0⟩ := rl_ K0; obtain ⟨k1, f1, l1, m1⟩ := rl_ K1)
 clear dq3
 by_cases h3 : ta = tb
 rotate_left
 ·as_aux_lemma =>
   obtain rfl : q3 = true := by rw [← hq3]; simpa using h3
   have hR : R = ta := by rw [hv.out, if_pos h3]
   replace hR := Lib.hid hR
   clear hv h3 hq3
   go_wp2_with (first | (with_reducible refine wlr (ldUp _ K0.out) rfl ?_) | (with_reducible refine wlg (ldUp _ K0.out) (by with_unfolding_all rfl) rfl ?_) | (with_reducible refine wlr (ldUp _ K1.out) rfl ?_) | (with_reducible refine wlg (ldUp _ K1.out) (by with_unfolding_all rfl) rfl ?_))
   (refine (nta.out _).mono ?_; rintro e w9 ⟨rfl, hN⟩; replace K0 := Lib.hid (K0.out.below hN); replace K1 := Lib.hid (K1.out.below hN); replace HB : Below w.heap.size w w9 := Below.on hN HB; clear hN k0 f0 l0 m0 k1 f1 l1 m1; obtain ⟨k0, f0, l0, m0⟩ := rl_ K0; obtain ⟨k1, f1, l1, m1⟩ := rl_ K1)
   go_wp2_with fail
   go_ret
   exact ⟨by rw [hR.out]; rfl, HB⟩
 obtain rfl : q3 = false := by rw [← hq3]; simpa using h3
 have hv2 := hv.out
 rw [ifn h3] at hv2
 replace hv := Lib.hid hv2
 clear hv2 h3 hq3
 go_upto_region 5 with fail
 have e5 : ((x : Int) != (y : Int)) = decide (x ≠ y) := by rw [Bool.eq_iff_iff]; simp; omega
 have e14 : decide ((y : Int) < (x : Int)) = decide (y < x) := decide_eq_decide.2 (by omega)
 replace e14 := Lib.hid e14
 obtain ⟨q5, hq5⟩ : ∃ q, decide (x ≠ y) = q := ⟨_, rfl⟩
 rw [hq5] at e5
 have hv2 : R = if (!ta && q5) = true then decide (y < x) else _ := hv.out.trans (ifc2 (by rw [← hq5]; simp))
 replace hv := Lib.hid hv2
 clear hv2
 go_cut [27] (fun s27 wx => s27 = .bool (!ta && q5) ∧ UuW w g a b wx)
 case first =>
  as_aux_lemma =>
   clear hv hq5
   go_wp2_with (first | (with_reducible refine wlr (ldUp _ K0.out) rfl ?_) | (with_reducible refine wlg (ldUp _ K0.out) (by with_unfolding_all rfl) rfl ?_) | (with_reducible refine wlr (ldUp _ K1.out) rfl ?_) | (with_reducible refine wlg (ldUp _ K1.out) (by with_unfolding_all rfl) rfl ?_))
   (refine (nta.out _).mono ?_; rintro e w5 ⟨rfl, hN⟩; replace K0 := Lib.hid (K0.out.below hN); replace K1 := Lib.hid (K1.out.below hN); replace HB : Below w.heap.size w w5 := Below.on hN HB; clear hN k0 f0 l0 m0 k1 f1 l1 m1; obtain ⟨k0, f0, l0, m0⟩ := rl_ K0; obtain ⟨k1, f1, l1, m1⟩ := rl_ K1)
   cases ta
   all_goals
    go_wp2_with fail
    go_meet
    case rel => exact ⟨by simp, K0.out, K1.out, HB⟩
 obtain ⟨rfl, hW⟩ := hcut
 have j0 := Lib.hid hW.1
 have j1 := Lib.hid hW.2.1
 have HBn := hW.2.2
 clear hW k0 f0 l0 m0 k1 f1 l1 m1 K0 K1 HB
 have K0 := j0; have K1 := j1; have HB := HBn
 clear j0 j1 HBn
 (obtain ⟨k0, f0, l0, m0⟩ := rl_ K0; obtain ⟨k1, f1, l1, m1⟩ := rl_ K1)
 by_cases h5 : (!ta && q5) = true
 ·as_aux_lemma =>
   have hR : R = decide (y < x) := by rw [hv.out, if_pos h5]
   replace hR := Lib.hid hR
   rw [h5]
   clear hv h5 e5 hq5
   go_wp2_with fail
   go_ret
   exact ⟨by rw [hR.out, ← e14.out]; rfl, HB⟩
 have hv2 := hv.out
 rw [if_neg h5] at hv2
 have h6 : (!ta && q5) = false := by simpa using h5
 rw [h6]
 replace hv := Lib.hid hv2
 clear hv2 h5 h6 e5
 go_upto_region 7 with fail
 obtain ⟨q7, hq7⟩ : ∃ q, (na != nb) = q := ⟨_, rfl⟩
 have dq7 : (na == nb) = !q7 := by rw [← hq7]; cases na <;> cases nb <;> rfl
 go_cut [35] (fun s35 wx => s35 = .bool q7 ∧ UuW w g a b wx)
 case first =>
  as_aux_lemma =>
   have hwf : ∀ f, Fence.wide.fn f := fun _ => trivial
   refine (wpIn_wide (n := 9)).1 ?_
   refine wpIn_round_held (fun w' => Below wc.heap.size wc w') (fun j => true) (by kernel_rfl) ?_
   have hS0 : (fun w' => Below wc.heap.size wc w') wc.drew := (Below.refl _ _).drew
   have KA100 := Lib.hid (K0.out.drew)
   have KA101 := Lib.hid (K1.out.drew)
   have HBt := HB.drew
   refine S_tk 0 (upV (a)) rfl hS0 (fun w' hw => exec_load rfl (by kernel_rfl) (ldUp (a) (K0.out.below hw))) ?_
   refine S_tk 2 (upV (b)) rfl hS0 (fun w' hw => exec_load rfl (by kernel_rfl) (ldUp (b) (K1.out.below hw))) ?_
   refine S_one 1 (by kernel_rfl) rfl (fun K hK => ?_)
   go_simp
   gi_wp2_with (gi_at_call 76; refine (callsIn_wide.2 (nna.out _)).mono ?_; rintro e wch1 ⟨rfl, hN⟩)
   replace KA100 := Lib.hid (KA100.out.below hN)
   replace KA101 := Lib.hid (KA101.out.below hN)
   replace HBt := Below.on hN HBt
   have hS1 : (fun w' => Below wc.heap.size wc w') wch1 := hS0.trans (hN.mono hS0.size)
   clear hS0
   have hS0 := hS1
   clear hS1
   clear hN
   refine ⟨(fun _ => hS0), ?_⟩
   refine S_one 3 (by kernel_rfl) rfl (fun K hK => ?_)
   go_simp
   gi_wp2_with (gi_at_call 76; refine (callsIn_wide.2 (nnb.out _)).mono ?_; rintro e wch2 ⟨rfl, hN⟩)
   replace KA100 := Lib.hid (KA100.out.below hN)
   replace KA101 := Lib.hid (KA101.out.below hN)
   replace HBt := Below.on hN HBt
   have hS1 : (fun w' => Below wc.heap.size wc w') wch2 := hS0.trans (hN.mono hS0.size)
   clear hS0
   have hS0 := hS1
   clear hS1
   clear hN
   refine ⟨(fun _ => hS0), ?_⟩
   refine S_tk 4 (.bool q7) rfl hS0 (fun w' hw => by go_simp) ?_
   refine ⟨by kernel_rfl, rfl, ?_⟩
   obtain ⟨WN, hWN⟩ : ∃ WN, wch2 = WN := ⟨_, rfl⟩
   rw [hWN] at KA100 KA101 HBt ⊢
   clear hWN hwf hS0 HB
   have HB := HBt
   clear HBt
   clear K0 k0 f0 l0 m0
   clear K1 k1 f1 l1 m1
   have K0 := KA100
   clear KA100
   have K1 := KA101
   clear KA101
   (obtain ⟨k0, f0, l0, m0⟩ := rl_ K0; obtain ⟨k1, f1, l1, m1⟩ := rl_ K1)
   go_wp2_with fail
   go_meet
   case rel => exact ⟨rfl, K0.out, K1.out, HB⟩
 obtain ⟨rfl, hW⟩ := hcut
 have j0 := Lib.hid hW.1
 have j1 := Lib.hid hW.2.1
 have HBn := hW.2.2
 clear hW k0 f0 l0 m0 k1 f1 l1 m1 K0 K1 HB
 have K0 := j0; have K1 := j1; have HB := HBn
 clear j0 j1 HBn
 (obtain ⟨k0, f0, l0, m0⟩ := rl_ K0; obtain ⟨k1, f1, l1, m1⟩ := rl_ K1)
 clear dq7
 by_cases h7 : na = nb
 rotate_left
 ·as_aux_lemma =>
   obtain rfl : q7 = true := by rw [← hq7]; simpa using h7
   have hR : R = na := by rw [hv.out, if_pos h7]
   replace hR := Lib.hid hR
   clear hv h7 hq7
   go_wp2_with (first | (with_reducible refine wlr (ldUp _ K0.out) rfl ?_) | (with_reducible refine wlg (ldUp _ K0.out) (by with_unfolding_all rfl) rfl ?_) | (with_reducible refine wlr (ldUp _ K1.out) rfl ?_) | (with_reducible refine wlg (ldUp _ K1.out) (by with_unfolding_all rfl) rfl ?_))
   (refine (nna.out _).mono ?_; rintro e w9 ⟨rfl, hN⟩; replace K0 := Lib.hid (K0.out.below hN); replace K1 := Lib.hid (K1.out.below hN); replace HB : Below w.heap.size w w9 := Below.on hN HB; clear hN k0 f0 l0 m0 k1 f1 l1 m1; obtain ⟨k0, f0, l0, m0⟩ := rl_ K0; obtain ⟨k1, f1, l1, m1⟩ := rl_ K1)
   go_wp2_with fail
   go_ret
   exact ⟨by rw [hR.out]; rfl, HB⟩
 obtain rfl : q7 = false := by rw [← hq7]; simpa using h7
 have hv2 := hv.out
 rw [ifn h7] at hv2
 replace hv := Lib.hid hv2
 clear hv2 h7 hq7
 go_upto_region 9 with fail
 obtain ⟨q9, hq9⟩ : ∃ q, (fa != fb) = q := ⟨_, rfl⟩
 have dq9 : (fa == fb) = !q9 := by rw [← hq9]; cases fa <;> cases fb <;> rfl
 go_cut [42] (fun s42 wx => s42 = .bool q9 ∧ UuW w g a b wx)
 case first =>
  as_aux_lemma =>
   have hwf : ∀ f, Fence.wide.fn f := fun _ => trivial
   refine (wpIn_wide (n := 9)).1 ?_
   refine wpIn_round_held (fun w' => Below wc.heap.size wc w') (fun j => true) (by kernel_rfl) ?_
   have hS0 : (fun w' => Below wc.heap.size wc w') wc.drew := (Below.refl _ _).drew
   have KA100 := Lib.hid (K0.out.drew)
   have KA101 := Lib.hid (K1.out.drew)
   have HBt := HB.drew
   refine S_tk 0 (upV (a)) rfl hS0 (fun w' hw => exec_load rfl (by kernel_rfl) (ldUp (a) (K0.out.below hw))) ?_
   refine S_tk 2 (upV (b)) rfl hS0 (fun w' hw => exec_load rfl (by kernel_rfl) (ldUp (b) (K1.out.below hw))) ?_
   refine S_one 1 (by kernel_rfl) rfl (fun K hK => ?_)
   go_simp
   gi_wp2_with (gi_at_call 77; refine (callsIn_wide.2 (nfa.out _ (Below.on hS0 HB))).mono ?_; rintro e wch1 ⟨rfl, hN⟩)
   replace KA100 := Lib.hid (KA100.out.below hN)
   replace KA101 := Lib.hid (KA101.out.below hN)
   replace HBt := Below.on hN HBt
   have hS1 : (fun w' => Below wc.heap.size wc w') wch1 := hS0.trans (hN.mono hS0.size)
   clear hS0
   have hS0 := hS1
   clear hS1
   clear hN
   refine ⟨(fun _ => hS0), ?_⟩
   refine S_one 3 (by kernel_rfl) rfl (fun K hK => ?_)
   go_simp
   gi_wp2_with (gi_at_call 77; refine (callsIn_wide.2 (nfb.out _ (Below.on hS0 HB))).mono ?_; rintro e wch2 ⟨rfl, hN⟩)
   replace KA100 := Lib.hid (KA100.out.below hN)
   replace KA101 := Lib.hid (KA101.out.below hN)
   replace HBt := Below.on hN HBt
   have hS1 : (fun w' => Below wc.heap.size wc w') wch2 := hS0.trans (hN.mono hS0.size)
   clear hS0
   have hS0 := hS1
   clear hS1
   clear hN
   refine ⟨(fun _ => hS0), ?_⟩
   refine S_tk 4 (.bool q9) rfl hS0 (fun w' hw => by go_simp) ?_
   refine ⟨by kernel_rfl, rfl, ?_⟩
   obtain ⟨WN, hWN⟩ : ∃ WN, wch2 = WN := ⟨_, rfl⟩
   rw [hWN] at KA100 KA101 HBt ⊢
   clear hWN hwf hS0 HB
   have HB := HBt
   clear HBt
   clear K0 k0 f0 l0 m0
   clear K1 k1 f1 l1 m1
   have K0 := KA100
   clear KA100
   have K1 := KA101
   clear KA101
   (obtain ⟨k0, f0, l0, m0⟩ := rl_ K0; obtain ⟨k1, f1, l1, m1⟩ := rl_ K1)
   go_wp2_with fail
   go_meet
   case rel => exact ⟨rfl, K0.out, K1.out, HB⟩
 obtain ⟨rfl, hW⟩ := hcut
 have j0 := Lib.hid hW.1
 have j1 := Lib.hid hW.2.1
 have HBn := hW.2.2
 clear hW k0 f0 l0 m0 k1 f1 l1 m1 K0 K1 HB
 have K0 := j0; have K1 := j1; have HB := HBn
 clear j0 j1 HBn
 (obtain ⟨k0, f0, l0, m0⟩ := rl_ K0; obtain ⟨k1, f1, l1, m1⟩ := rl_ K1)
 clear dq9
 by_cases h9 : fa = fb
 rotate_left
 ·as_aux_lemma =>
   obtain rfl : q9 = true := by rw [← hq9]; simpa using h9
   have hR : R = fa := by rw [hv.out, if_pos h9]
   replace hR := Lib.hid hR
   clear hv h9 hq9
   go_wp2_with (first | (with_reducible refine wlr (ldUp _ K0.out) rfl ?_) | (with_reducible refine wlg (ldUp _ K0.out) (by with_unfolding_all rfl) rfl ?_) | (with_reducible refine wlr (ldUp _ K1.out) rfl ?_) | (with_reducible refine wlg (ldUp _ K1.out) (by with_unfolding_all rfl) rfl ?_))
   (refine (nfa.out _ HB).mono ?_; rintro e w9 ⟨rfl, hN⟩; replace K0 := Lib.hid (K0.out.below hN); replace K1 := Lib.hid (K1.out.below hN); replace HB : Below w.heap.size w w9 := Below.on hN HB; clear hN k0 f0 l0 m0 k1 f1 l1 m1; obtain ⟨k0, f0, l0, m0⟩ := rl_ K0; obtain ⟨k1, f1, l1, m1⟩ := rl_ K1)
   go_wp2_with fail
   go_ret
   exact ⟨by rw [hR.out]; rfl, HB⟩
 obtain rfl : q9 = false := by rw [← hq9]; simpa using h9
 have hv2 := hv.out
 rw [ifn h9] at hv2
 replace hv := Lib.hid hv2
 clear hv2 h9 hq9
 go_upto_region 11 with fail
 obtain ⟨q11, hq11⟩ : ∃ q, (oa != ob) = q := ⟨_, rfl⟩
 have dq11 : (oa == ob) = !q11 := by rw [← hq11]; cases oa <;> cases ob <;> rfl
 go_cut [53] (fun s53 wx => s53 = .bool (fa && q11) ∧ UuW w g a b wx)
 case first =>
  cases fa with
  | false =>
   as_aux_lemma =>
    have hwf : ∀ f, Fence.wide.fn f := fun _ => trivial
    refine (wpIn_wide (n := 9)).1 ?_
    refine wpIn_round_held (fun w' => Below wc.heap.size wc w') (fun j => true) (by kernel_rfl) ?_
    have hS0 : (fun w' => Below wc.heap.size wc w') wc.drew := (Below.refl _ _).drew
    have KA100 := Lib.hid (K0.out.drew)
    have KA101 := Lib.hid (K1.out.drew)
    have HBt := HB.drew
    refine S_tk 0 (upV (a)) rfl hS0 (fun w' hw => exec_load rfl (by kernel_rfl) (ldUp (a) (K0.out.below hw))) ?_
    refine S_one 1 (by kernel_rfl) rfl (fun K hK => ?_)
    go_simp
    gi_wp2_with (gi_at_call 77; refine (callsIn_wide.2 (nfa.out _ (Below.on hS0 HB))).mono ?_; rintro e wch1 ⟨rfl, hN⟩)
    replace KA100 := Lib.hid (KA100.out.below hN)
    replace KA101 := Lib.hid (KA101.out.below hN)
    replace HBt := Below.on hN HBt
    have hS1 : (fun w' => Below wc.heap.size wc w') wch1 := hS0.trans (hN.mono hS0.size)
    clear hS0
    have hS0 := hS1
    clear hS1
    clear hN
    refine ⟨(fun _ => hS0), ?_⟩
    refine S_tk 2 (.bool false) rfl hS0 (fun w' hw => by go_simp) ?_
    refine S_sk 3 rfl hS0 ?_
    refine S_sk 4 rfl hS0 ?_
    refine S_sk 5 rfl hS0 ?_
    refine S_sk 6 rfl hS0 ?_
    refine S_sk 7 rfl hS0 ?_
    refine S_tk 8 (.bool false) rfl hS0 (fun w' hw => by go_simp) ?_
    refine ⟨by kernel_rfl, rfl, ?_⟩
    obtain ⟨WN, hWN⟩ : ∃ WN, wch1 = WN := ⟨_, rfl⟩
    rw [hWN] at KA100 KA101 HBt ⊢
    clear hWN hwf hS0 HB
    have HB := HBt
    clear HBt
    clear K0 k0 f0 l0 m0
    clear K1 k1 f1 l1 m1
    have K0 := KA100
    clear KA100
    have K1 := KA101
    clear KA101
    (obtain ⟨k0, f0, l0, m0⟩ := rl_ K0; obtain ⟨k1, f1, l1, m1⟩ := rl_ K1)
    go_wp2_with fail
    go_meet
    case rel => exact ⟨rfl, K0.out, K1.out, HB⟩
  | true =>
   as_aux_lemma =>
    have hwf : ∀ f, Fence.wide.fn f := fun _ => trivial
    refine (wpIn_wide (n := 9)).1 ?_
    refine wpIn_round_held (fun w' => Below wc.heap.size wc w') (fun j => true) (by kernel_rfl) ?_
    have hS0 : (fun w' => Below wc.heap.size wc w') wc.drew := (Below.refl _ _).drew
    have KA100 := Lib.hid (K0.out.drew)
    have KA101 := Lib.hid (K1.out.drew)
    have HBt := HB.drew
    refine S_tk 0 (upV (a)) rfl hS0 (fun w' hw => exec_load rfl (by kernel_rfl) (ldUp (a) (K0.out.below hw))) ?_
    refine S_one 1 (by kernel_rfl) rfl (fun K hK => ?_)
    go_simp
    gi_wp2_with (gi_at_call 77; refine (callsIn_wide.2 (nfa.out _ (Below.on hS0 HB))).mono ?_; rintro e wch1 ⟨rfl, hN⟩)
    replace KA100 := Lib.hid (KA100.out.below hN)
    replace KA101 := Lib.hid (KA101.out.below hN)
    replace HBt := Below.on hN HBt
    have hS1 : (fun w' => Below wc.heap.size wc w') wch1 := hS0.trans (hN.mono hS0.size)
    clear hS0
    have hS0 := hS1
    clear hS1
    clear hN
    refine ⟨(fun _ => hS0), ?_⟩
    refine S_tk 2 (.bool true) rfl hS0 (fun w' hw => by go_simp) ?_
    refine S_tk 3 (upV (a)) rfl hS0 (fun w' hw => exec_load rfl (by kernel_rfl) (ldUp (a) (K0.out.below hw))) ?_
    refine S_tk 5 (upV (b)) rfl hS0 (fun w' hw => exec_load rfl (by kernel_rfl) (ldUp (b) (K1.out.below hw))) ?_
    refine S_one 4 (by kernel_rfl) rfl (fun K hK => ?_)
    go_simp
    gi_wp2_with (gi_at_call 78; refine (callsIn_wide.2 (noa.out _)).mono ?_; rintro e wch2 ⟨rfl, hN⟩)
    replace KA100 := Lib.hid (KA100.out.below hN)
    replace KA101 := Lib.hid (KA101.out.below hN)
    replace HBt := Below.on hN HBt
    have hS1 : (fun w' => Below wc.heap.size wc w') wch2 := hS0.trans (hN.mono hS0.size)
    clear hS0
    have hS0 := hS1
    clear hS1
    clear hN
    refine ⟨(fun _ => hS0), ?_⟩
    refine S_one 6 (by kernel_rfl) rfl (fun K hK => ?_)
    go_simp
    gi_wp2_with (gi_at_call 78; refine (callsIn_wide.2 (nob.out _)).mono ?_; rintro e wch3 ⟨rfl, hN⟩)
    replace KA100 := Lib.hid (KA100.out.below hN)
    replace KA101 := Lib.hid (KA101.out.below hN)
    replace HBt := Below.on hN HBt
    have hS1 : (fun w' => Below wc.heap.size wc w') wch3 := hS0.trans (hN.mono hS0.size)
    clear hS0
    have hS0 := hS1
    clear hS1
    clear hN
    refine ⟨(fun _ => hS0), ?_⟩
    refine S_tk 7 (.bool q11) rfl hS0 (fun w' hw => by go_simp) ?_
    refine S_tk 8 (.bool q11) rfl hS0 (fun w' hw => by go_simp) ?_
    refine ⟨by kernel_rfl, rfl, ?_⟩
    obtain ⟨WN, hWN⟩ : ∃ WN, wch3 = WN := ⟨_, rfl⟩
    rw [hWN] at KA100 KA101 HBt ⊢
    clear hWN hwf hS0 HB
    have HB := HBt
    clear HBt
    clear K0 k0 f0 l0 m0
    clear K1 k1 f1 l1 m1
    have K0 := KA100
    clear KA100
    have K1 := KA101
    clear KA101
    (obtain ⟨k0, f0, l0, m0⟩ := rl_ K0; obtain ⟨k1, f1, l1, m1⟩ := rl_ K1)
    go_wp2_with fail
    go_meet
    case rel => exact ⟨rfl, K0.out, K1.out, HB⟩
 obtain ⟨rfl, hW⟩ := hcut
 have j0 := Lib.hid hW.1
 have j1 := Lib.hid hW.2.1
 have HBn := hW.2.2
 clear hW k0 f0 l0 m0 k1 f1 l1 m1 K0 K1 HB
 have K0 := j0; have K1 := j1; have HB := HBn
 clear j0 j1 HBn
 (obtain ⟨k0, f0, l0, m0⟩ := rl_ K0; obtain ⟨k1, f1, l1, m1⟩ := rl_ K1)
 clear dq11
 by_cases h11 : fa = true ∧ oa ≠ ob
 ·as_aux_lemma =>
   have hR : R = oa := by rw [hv.out, if_pos h11]
   obtain ⟨rfl, h12⟩ := h11
   obtain rfl : q11 = true := by rw [← hq11]; simpa using h12
   replace hR := Lib.hid hR
   clear hv h12 hq11
   go_wp2_with (first | (with_reducible refine wlr (ldUp _ K0.out) rfl ?_) | (with_reducible refine wlg (ldUp _ K0.out) (by with_unfolding_all rfl) rfl ?_) | (with_reducible refine wlr (ldUp _ K1.out) rfl ?_) | (with_reducible refine wlg (ldUp _ K1.out) (by with_unfolding_all rfl) rfl ?_))
   (refine (noa.out _).mono ?_; rintro e w9 ⟨rfl, hN⟩; replace K0 := Lib.hid (K0.out.below hN); replace K1 := Lib.hid (K1.out.below hN); replace HB : Below w.heap.size w w9 := Below.on hN HB; clear hN k0 f0 l0 m0 k1 f1 l1 m1; obtain ⟨k0, f0, l0, m0⟩ := rl_ K0; obtain ⟨k1, f1, l1, m1⟩ := rl_ K1)
   go_wp2_with fail
   go_ret
   exact ⟨by rw [hR.out]; rfl, HB⟩
 have e12 : (fa && q11) = false := by rw [← hq11]; cases fa <;> simp_all
 have hv2 := hv.out
 rw [if_neg h11] at hv2
 rw [e12]
 replace hv := Lib.hid hv2
 clear hv2 h11 e12 hq11
 go_upto_region 13 with fail
 by_cases h13 : x = y
 ·as_aux_lemma =>
   have e13 : ((x : Int) != (y : Int)) = false := by simp; omega
   have hv2 := hv.out
   rw [ifn h13] at hv2
   replace hv := Lib.hid hv2
   clear hv2 h13 hq5
   have e17 : ((a.seen.b.slot : Int) != (b.seen.b.slot : Int)) = decide (a.seen.b.slot ≠ b.seen.b.slot) := by rw [Bool.eq_iff_iff]; simp; omega
   by_cases h17 : a.seen.b.slot = b.seen.b.slot
   ·have e18 : ((a.seen.b.slot : Int) != (b.seen.b.slot : Int)) = false := by rw [e17]; simpa using h17
    have e19 : decide ((a.slot : Int) < (b.slot : Int)) = decide (a.slot < b.slot) := decide_eq_decide.2 (by omega)
    have hR : R = decide (a.slot < b.slot) := by rw [hv.out]; simp [h17]
    replace hR := Lib.hid hR
    replace e19 := Lib.hid e19
    clear e17 h17 hv
    go_wp2_with fail
    go_ret
    exact ⟨by rw [hR.out, ← e19.out]; rfl, HB⟩
   ·have e18 : ((a.seen.b.slot : Int) != (b.seen.b.slot : Int)) = true := by rw [e17]; simpa using h17
    have e19 : decide ((a.seen.b.slot : Int) < (b.seen.b.slot : Int)) = decide (a.seen.b.slot < b.seen.b.slot) := decide_eq_decide.2 (by omega)
    have hR : R = decide (a.seen.b.slot < b.seen.b.slot) := by rw [hv.out, if_pos h17]
    replace hR := Lib.hid hR
    replace e19 := Lib.hid e19
    clear e17 h17 hv
    go_wp2_with fail
    go_ret
    exact ⟨by rw [hR.out, ← e19.out]; rfl, HB⟩
 ·as_aux_lemma =>
   have e13 : ((x : Int) != (y : Int)) = true := by simp; omega
   have hR : R = decide (y < x) := by rw [hv.out, if_pos h13]
   replace hR := Lib.hid hR
   clear hv h13 hq5
   go_wp2_with fail
   go_ret
   exact ⟨by rw [hR.out, ← e14.out]; rfl, HB⟩
end Go.Proofs.YtegaaccioppfjaaGreatDoor
end
