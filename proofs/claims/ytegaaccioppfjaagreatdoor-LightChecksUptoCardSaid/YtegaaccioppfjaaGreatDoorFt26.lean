/- Plain laws and walks, each by its own conditions. -/
import Derived.Test.YtegaaccioppfjaaGreatDoorFt24
import Derived.Test.YtegaaccioppfjaaGreatDoorFt25
import Derived.Test.YtegaaccioppfjaaGreatDoorFt23
import Derived.Test.YtegaaccioppfjaaGreatDoorFt22
set_option linter.unusedSimpArgs false
set_option linter.unusedVariables false
set_option maxRecDepth 100000
set_option maxHeartbeats 16000000
section
namespace Go.Proofs.YtegaaccioppfjaaGreatDoor
open BigFrame Go.RowKit Go.Phx Go.Shelf
attribute [local go_sem] Oper.semAt_some

theorem put_size (a : Act) (d : Option Tmp) (v : Value) : (a.put d v).tmps.size = a.tmps.size := by
 cases d <;> simp [Act.put]
theorem eval_put {a : Act} {n : Tmp} {v : Value} (h : n < a.tmps.size) : (a.put (some n) v).eval (.tmp n) = v := by
 simp [Act.put, Act.eval, h]
theorem exec_quo (m q : Int) (hq : IntKind.i64.wrap (Int.tdiv m 2) = q) {o : Oper} {a : Act} {w : World} (ho : o.op = .binOp .quo 3 (.tmp 67) (.const (.int .i64 2)) 3) (hx : a.eval (.tmp 67) = .int .i64 m) : (execOp a.eval o).run Tryz.prog w = .ok (.value (.int .i64 q)) w := by
 have hc : a.eval (.const (.int .i64 2)) = .int .i64 2 := rfl
 unfold execOp
 simp only [ho, hx, hc]
 clear ho hx hc
 go_simp
theorem lgapply_calls (s : Sr) (u : Up) (now : Nat) (w : World) (hk : HasK w) (hs : SrIn w s) (hu : UpIn w u) (hn : now < 18446744073709551616) : Calls Tryz.prog 29 #[srV s, upV u, .int .u64 now] w (Ret w (.tuple #[srV (applyS s u now), .int .i64 (checkE s u now)])) := by
 have n1 := fun W (hB : Below w.heap.size w W) => lgcheck_calls s u now W (hk.on hB) (hs.below hB) (hu.below hB) hn
 have n2 := fun W => signers_calls u W
 have n3 := fun W => better_calls u s.best hu.1.1.1 hu.2.2.2.2.2.2.2 hu.2.2.2.1.1.1 hs.2.2.2.2.1.1.1.1 hs.2.2.2.2.1.2.2.2.2.2.2.2 hs.2.2.2.2.1.2.2.2.1.1.1 W
 have n4 := fun W => known_calls s.next W
 have n5 := fun W => hasNext_calls u W
 have n6 := fun W => isFinal_calls u W
 have n7 := fun W => period_q u.fin.b.slot hu.2.2.2.1.1.1 W
 have n9 := fun W => period_q u.seen.b.slot hu.1.1.1 W
 have n8 := fun W => two_calls u W
 have hA : applyS s u now = if checkE s u now = 0 then applyP s u else s := rfl
 have hon := ones_le u.bits
 have hla := hs.2.2.2.2.2.2.1
 have hth := hs.2.2.2.2.2.2.2.1
 have hsf := hs.1.1.1
 have huf := hu.2.2.2.1.1.1
 clear hs hu hn hk
 generalize checkE s u now = e at *
 generalize applyS s u now = S at *
 by_cases he : e = 0
 rotate_left
 ·rw [if_neg he] at hA
  have e3 : (e == 0) = false := by simpa using he
  have e4 : (e != 0) = true := by simpa using he
  replace hA := Lib.hid hA
  replace n1 := Lib.hid n1
  clear n2 n3 n4 n5 n6 n7 n8 n9 hon hla hth hsf huf he
  go_enter Tryz.func29, Tryz.ntmps29
  go_upto_region 1 with fail
  have HB : Below w.heap.size w (((w.alloc (.cells (srA s) 35)).alloc (.cells (upA u) 33)).alloc (.cells (srA Sr.zero) 35)) := bel
  have K0 := ((Blk.new0 w 35 (srA s)).alloc (.cells (upA u) 33)).alloc (.cells (srA Sr.zero) 35)
  have K1 := (Blk.new1 w (.cells (srA s) 35) 33 (upA u)).alloc (.cells (srA Sr.zero) 35)
  have K2 := Blk.new2 w (.cells (srA s) 35) (.cells (upA u) 33) 35 (srA Sr.zero)
  obtain ⟨W, hW⟩ : ∃ W, (((w.alloc (.cells (srA s) 35)).alloc (.cells (upA u) 33)).alloc (.cells (srA Sr.zero) 35)) = W := ⟨_, rfl⟩
  rw [hW] at HB K0 K1 K2 ⊢
  clear hW
  have hgl : w.heap.size ≤ w.heap.size := Nat.le_refl _
  obtain ⟨g, hg⟩ : ∃ g, w.heap.size = g := ⟨_, rfl⟩
  rw [hg] at K0 K1 K2 ⊢
  replace hgl : w.heap.size ≤ g := by omega
  replace K0 := Lib.hid K0
  replace K1 := Lib.hid K1
  replace K2 := Lib.hid K2
  clear hg
  (obtain ⟨k0, f0, l0, m0⟩ := rl_ K0; obtain ⟨k1, f1, l1, m1⟩ := rl_ K1; obtain ⟨k2, f2, l2, m2⟩ := rl_ K2)
  go_wp2_with (first | (with_reducible refine wlr (ldSr _ K0.out) rfl ?_) | (with_reducible refine wlg (ldSr _ K0.out) (by with_unfolding_all rfl) rfl ?_) | (with_reducible refine wlr (ldUp _ K1.out) rfl ?_) | (with_reducible refine wlg (ldUp _ K1.out) (by with_unfolding_all rfl) rfl ?_))
  (refine (n1.out _ HB).mono ?_; rintro e w2 ⟨rfl, hN⟩; replace K0 := hn_ K0 hN; replace K1 := hn_ K1 hN; replace K2 := hn_ K2 hN; replace HB : Below w.heap.size w w2 := Below.on hN HB; clear hN k0 f0 l0 m0 k1 f1 l1 m1 k2 f2 l2 m2; obtain ⟨k0, f0, l0, m0⟩ := rl_ K0; obtain ⟨k1, f1, l1, m1⟩ := rl_ K1; obtain ⟨k2, f2, l2, m2⟩ := rl_ K2)
  go_upto_region 3 with fail
  (go_wp2_with (first | (with_reducible refine wlr (ldSr _ K0.out) rfl ?_) | (with_reducible refine wlg (ldSr _ K0.out) (by with_unfolding_all rfl) rfl ?_) | (with_reducible refine wsh (stSr _ K2.out (s)) rfl rfl ?_)); generalize hWN : setRow _ _ _ _ = WN; replace K2 := Lib.hid (show Blk WN _ _ _ by rw [← hWN]; exact Blk.row K2.out.lt); replace K0 := Lib.hid (show Blk WN _ _ _ by rw [← hWN]; exact Blk.rowOver (by omega) K0.out); replace K1 := Lib.hid (show Blk WN _ _ _ by rw [← hWN]; exact Blk.rowOver (by omega) K1.out); replace HB : Below w.heap.size w WN := (by rw [← hWN]; exact Below.row HB (by omega) HB.size); clear hWN k2 f2 l2 m2 k0 f0 l0 m0 k1 f1 l1 m1; obtain ⟨k2, f2, l2, m2⟩ := rl_ K2; obtain ⟨k0, f0, l0, m0⟩ := rl_ K0; obtain ⟨k1, f1, l1, m1⟩ := rl_ K1; unfold Halted)
  go_wp2_with fail
  exact bodyPost_ret (results_cell2 rfl rfl (ldSr _ K2.out)) rfl ⟨by rw [hA.out]; rfl, HB⟩
 subst he
 rw [if_pos rfl] at hA
 -- the four stores in turn
 obtain ⟨t1, ht1⟩ : ∃ t, bestP s u = t := ⟨_, rfl⟩
 obtain ⟨t2, ht2⟩ : ∃ t, thisP t1 u = t := ⟨_, rfl⟩
 obtain ⟨t3, ht3⟩ : ∃ t, newP t2 u = t := ⟨_, rfl⟩
 have hA2 : S = if goesP s u then clearP (takeP t3 u) else t3 := by rw [hA, ← ht3, ← ht2, ← ht1]; rfl
 obtain ⟨b1, b2, b3, b4, b5⟩ := best_keeps s u
 rw [ht1] at b1 b2 b3 b4 b5
 have hv1 : t1 = if (!s.has || betterP u s.best) = true then { s with best := u, has := true } else s := by rw [← ht1]; rfl
 have hv2 : t2 = { t1 with this := max t1.this (onesP u.bits : Int) } := by rw [← ht2]; rfl
 have c1 : t2.fin = s.fin := by rw [hv2, ← b1]
 have c2 : t2.next = s.next := by rw [hv2, ← b3]
 have c4 : t2.last = s.last := by rw [hv2, ← b4]
 have c5 : t2.this = max s.this (onesP u.bits : Int) := by rw [hv2, ← b5]
 obtain ⟨d1, d2⟩ := new_keeps t2 u
 rw [ht3, c1] at d1
 rw [ht3, c2] at d2
 have hv3 : t3 = if Int.tdiv (max t2.last t2.this) 2 < (onesP u.bits : Int) ∧ t2.new.b.slot < u.seen.b.slot then { t2 with new := u.seen } else t2 := by rw [← ht3]; rfl
 have hgo : goesP s u = (twoP u && ((!knownP s.next && (hasNextP u && ownFinP u)) || decide (t3.fin.b.slot < u.fin.b.slot))) := by
  rw [d1]
  rfl
 have hof : ownFinP u = (isFinalP u && decide (period u.fin.b.slot = period u.seen.b.slot)) := rfl
 have nt := fun W => lgtake_calls t3 u (by rw [d1]; exact hsf) huf W
 clear hA ht1 ht2 ht3 b1 b2 b3 b4 c1 c2 d1
 generalize goesP s u = go at *
 generalize clearP (takeP t3 u) = tk at *
 generalize betterP u s.best = bt at *
 generalize hasNextP u = hx at *
 generalize isFinalP u = fi at *
 generalize ownFinP u = of at *
 generalize twoP u = tw at *
 generalize period u.fin.b.slot = pf at *
 generalize period u.seen.b.slot = ps at *
 have ew : ((pf : Int) == (ps : Int)) = decide (pf = ps) := by rw [Bool.eq_iff_iff]; simp; omega
 generalize decide (pf = ps) = ow at *
 generalize knownP s.next = kn at *
 generalize onesP u.bits = n at *
 rw [← b5] at c5
 obtain ⟨m, hm⟩ : ∃ m, max t2.last t2.this = m := ⟨_, rfl⟩
 have hmb : -9223372036854775808 ≤ m ∧ m ≤ 9223372036854775807 := by rw [← hm, c4, c5, b5]; omega
 rw [hm] at hv3
 obtain ⟨q, hq⟩ : ∃ q, Int.tdiv m 2 = q := ⟨_, rfl⟩
 have hqb : -9223372036854775808 ≤ q ∧ q ≤ 9223372036854775807 := by
  have hab : q.natAbs = m.natAbs / 2 := by rw [← hq]; exact Int.natAbs_tdiv m 2
  omega
 rw [hq] at hv3
 have hq1 : IntKind.i64.wrap (Int.tdiv m 2) = q := by rw [hq]; exact IntWalk.i64_in _ hqb
 have hq2 : wrap64 (Int.tdiv m 2) = q := by rw [hq]; exact IntWalk.wrap64_in _ hqb
 replace hA2 := Lib.hid hA2
 replace hv1 := Lib.hid hv1
 replace hv2 := Lib.hid hv2
 replace hv3 := Lib.hid hv3
 replace hgo := Lib.hid hgo
 replace hof := Lib.hid hof
 replace n1 := Lib.hid n1
 replace n2 := Lib.hid n2
 replace n3 := Lib.hid n3
 replace n4 := Lib.hid n4
 replace n5 := Lib.hid n5
 replace n6 := Lib.hid n6
 replace n7 := Lib.hid n7
 replace n8 := Lib.hid n8
 replace n9 := Lib.hid n9
 replace nt := Lib.hid nt
 replace d2 := Lib.hid d2
 replace hq := Lib.hid hq
 clear c4 c5 b5 hla hth hsf huf hon hmb hqb
 go_enter Tryz.func29, Tryz.ntmps29
 go_upto_region 1 with fail
 have HB : Below w.heap.size w (((w.alloc (.cells (srA s) 35)).alloc (.cells (upA u) 33)).alloc (.cells (srA Sr.zero) 35)) := bel
 have K0 := ((Blk.new0 w 35 (srA s)).alloc (.cells (upA u) 33)).alloc (.cells (srA Sr.zero) 35)
 have K1 := (Blk.new1 w (.cells (srA s) 35) 33 (upA u)).alloc (.cells (srA Sr.zero) 35)
 have K2 := Blk.new2 w (.cells (srA s) 35) (.cells (upA u) 33) 35 (srA Sr.zero)
 obtain ⟨W, hW⟩ : ∃ W, (((w.alloc (.cells (srA s) 35)).alloc (.cells (upA u) 33)).alloc (.cells (srA Sr.zero) 35)) = W := ⟨_, rfl⟩
 rw [hW] at HB K0 K1 K2 ⊢
 clear hW
 have hgl : w.heap.size ≤ w.heap.size := Nat.le_refl _
 obtain ⟨g, hg⟩ : ∃ g, w.heap.size = g := ⟨_, rfl⟩
 rw [hg] at K0 K1 K2 ⊢
 replace hgl : w.heap.size ≤ g := by omega
 replace K0 := Lib.hid K0
 replace K1 := Lib.hid K1
 replace K2 := Lib.hid K2
 clear hg
 (obtain ⟨k0, f0, l0, m0⟩ := rl_ K0; obtain ⟨k1, f1, l1, m1⟩ := rl_ K1; obtain ⟨k2, f2, l2, m2⟩ := rl_ K2)
 go_wp2_with (first | (with_reducible refine wlr (ldSr _ K0.out) rfl ?_) | (with_reducible refine wlg (ldSr _ K0.out) (by with_unfolding_all rfl) rfl ?_) | (with_reducible refine wlr (ldUp _ K1.out) rfl ?_) | (with_reducible refine wlg (ldUp _ K1.out) (by with_unfolding_all rfl) rfl ?_))
 (refine (n1.out _ HB).mono ?_; rintro e w2 ⟨rfl, hN⟩; replace K0 := hn_ K0 hN; replace K1 := hn_ K1 hN; replace K2 := hn_ K2 hN; replace HB : Below w.heap.size w w2 := Below.on hN HB; clear hN k0 f0 l0 m0 k1 f1 l1 m1 k2 f2 l2 m2; obtain ⟨k0, f0, l0, m0⟩ := rl_ K0; obtain ⟨k1, f1, l1, m1⟩ := rl_ K1; obtain ⟨k2, f2, l2, m2⟩ := rl_ K2)
 go_upto_region 4 with fail
 -- the first one with a next committee
 go_cut [9] (fun s9 wx => s9 = .bool (!kn && (hx && of)) ∧ TkW w g s u wx)
 case first =>
  as_aux_lemma =>
   cases kn with
   | true =>
    have hwf : ∀ f, Fence.wide.fn f := fun _ => trivial
    refine (wpIn_wide (n := 9)).1 ?_
    refine wpIn_round_held (fun w' => Below w2.heap.size w2 w') (fun j => true) (by kernel_rfl) ?_
    have hS0 : (fun w' => Below w2.heap.size w2 w') w2.drew := (Below.refl _ _).drew
    have KA100 := Lib.hid (K0.out.drew)
    have KA101 := Lib.hid (K1.out.drew)
    have KA102 := Lib.hid (K2.out.drew)
    have HBt := HB.drew
    refine S_tg 0 (.pointer (some ⟨g, 20, none⟩)) rfl hS0 ?_
    refine S_tk 1 (cmV (s.next)) rfl hS0 (fun w' hw => exec_load rfl (by kernel_rfl) (ldSr_next (s) (K0.out.below hw))) ?_
    refine S_one 2 (by kernel_rfl) rfl (fun K hK => ?_)
    go_simp
    gi_wp2_with (gi_at_call 79; refine (callsIn_wide.2 (n4.out _)).mono ?_; rintro e w2h1 ⟨rfl, hN⟩)
    replace KA100 := hn_ KA100 hN
    replace KA101 := hn_ KA101 hN
    replace KA102 := hn_ KA102 hN
    replace HBt := Below.on hN HBt
    replace hS0 := hS0.trans (hN.mono hS0.size)
    clear hN
    refine ⟨(fun _ => hS0), ?_⟩
    refine S_tg 3 (.bool false) rfl hS0 ?_
    simp only [Act.put, List.getElem_toArray, List.getElem_cons_succ, List.getElem_cons_zero, List.setIfInBounds_toArray, List.set_cons_succ, List.set_cons_zero]
    refine S_tg 4 (.bool false) rfl hS0 ?_
    refine S_sk 5 rfl hS0 ?_
    refine S_sk 6 rfl hS0 ?_
    simp only [Act.put, List.getElem_toArray, List.getElem_cons_succ, List.getElem_cons_zero, List.setIfInBounds_toArray, List.set_cons_succ, List.set_cons_zero]
    refine S_tg 7 (.bool false) rfl hS0 ?_
    refine S_tg 8 (.bool false) rfl hS0 ?_
    refine S_sk 9 rfl hS0 ?_
    simp only [Act.put, List.getElem_toArray, List.getElem_cons_succ, List.getElem_cons_zero, List.setIfInBounds_toArray, List.set_cons_succ, List.set_cons_zero]
    refine S_sk 10 rfl hS0 ?_
    refine S_tg 11 (.bool false) rfl hS0 ?_
    refine S_tg 12 (.bool false) rfl hS0 ?_
    simp only [Act.put, List.getElem_toArray, List.getElem_cons_succ, List.getElem_cons_zero, List.setIfInBounds_toArray, List.set_cons_succ, List.set_cons_zero]
    refine S_sk 13 rfl hS0 ?_
    refine S_sk 14 rfl hS0 ?_
    refine S_sk 15 rfl hS0 ?_
    simp only [Act.put, List.getElem_toArray, List.getElem_cons_succ, List.getElem_cons_zero, List.setIfInBounds_toArray, List.set_cons_succ, List.set_cons_zero]
    refine S_sk 16 rfl hS0 ?_
    refine S_sk 17 rfl hS0 ?_
    refine S_sk 18 rfl hS0 ?_
    simp only [Act.put, List.getElem_toArray, List.getElem_cons_succ, List.getElem_cons_zero, List.setIfInBounds_toArray, List.set_cons_succ, List.set_cons_zero]
    refine S_sk 19 rfl hS0 ?_
    refine S_sk 20 rfl hS0 ?_
    refine S_sk 21 rfl hS0 ?_
    simp only [Act.put, List.getElem_toArray, List.getElem_cons_succ, List.getElem_cons_zero, List.setIfInBounds_toArray, List.set_cons_succ, List.set_cons_zero]
    refine S_sk 22 rfl hS0 ?_
    refine S_sk 23 rfl hS0 ?_
    refine S_tg 24 (.bool false) rfl hS0 ?_
    simp only [Act.put, List.getElem_toArray, List.getElem_cons_succ, List.getElem_cons_zero, List.setIfInBounds_toArray, List.set_cons_succ, List.set_cons_zero]
    refine S_tg 25 (.bool false) rfl hS0 ?_
    refine ⟨by kernel_rfl, rfl, ?_⟩
    obtain ⟨WN, hWN⟩ : ∃ WN, w2h1 = WN := ⟨_, rfl⟩
    rw [hWN] at KA100 KA101 KA102 HBt ⊢
    clear hWN hwf hS0 HB
    have HB := HBt
    clear HBt
    clear K0 k0 f0 l0 m0
    clear K1 k1 f1 l1 m1
    clear K2 k2 f2 l2 m2
    have K0 := KA100
    clear KA100
    have K1 := KA101
    clear KA101
    have K2 := KA102
    clear KA102
    (obtain ⟨k0, f0, l0, m0⟩ := rl_ K0; obtain ⟨k1, f1, l1, m1⟩ := rl_ K1; obtain ⟨k2, f2, l2, m2⟩ := rl_ K2)
    go_wp2_with fail
    go_meet
    case rel => exact ⟨rfl, K0.out, K1.out, K2.out, HB⟩
   | false =>
    cases hx with
    | false =>
     have hwf : ∀ f, Fence.wide.fn f := fun _ => trivial
     refine (wpIn_wide (n := 9)).1 ?_
     refine wpIn_round_held (fun w' => Below w2.heap.size w2 w') (fun j => true) (by kernel_rfl) ?_
     have hS0 : (fun w' => Below w2.heap.size w2 w') w2.drew := (Below.refl _ _).drew
     have KA100 := Lib.hid (K0.out.drew)
     have KA101 := Lib.hid (K1.out.drew)
     have KA102 := Lib.hid (K2.out.drew)
     have HBt := HB.drew
     refine S_tg 0 (.pointer (some ⟨g, 20, none⟩)) rfl hS0 ?_
     refine S_tk 1 (cmV (s.next)) rfl hS0 (fun w' hw => exec_load rfl (by kernel_rfl) (ldSr_next (s) (K0.out.below hw))) ?_
     refine S_one 2 (by kernel_rfl) rfl (fun K hK => ?_)
     go_simp
     gi_wp2_with (gi_at_call 79; refine (callsIn_wide.2 (n4.out _)).mono ?_; rintro e w2h1 ⟨rfl, hN⟩)
     replace KA100 := hn_ KA100 hN
     replace KA101 := hn_ KA101 hN
     replace KA102 := hn_ KA102 hN
     replace HBt := Below.on hN HBt
     replace hS0 := hS0.trans (hN.mono hS0.size)
     clear hN
     refine ⟨(fun _ => hS0), ?_⟩
     refine S_tg 3 (.bool true) rfl hS0 ?_
     simp only [Act.put, List.getElem_toArray, List.getElem_cons_succ, List.getElem_cons_zero, List.setIfInBounds_toArray, List.set_cons_succ, List.set_cons_zero]
     refine S_tg 4 (.bool true) rfl hS0 ?_
     refine S_tk 5 (upV (u)) rfl hS0 (fun w' hw => exec_load rfl (by kernel_rfl) (ldUp (u) (K1.out.below hw))) ?_
     refine S_one 6 (by kernel_rfl) rfl (fun K hK => ?_)
     go_simp
     gi_wp2_with (gi_at_call 80; refine (callsIn_wide.2 (n5.out _)).mono ?_; rintro e w2h2 ⟨rfl, hN⟩)
     replace KA100 := hn_ KA100 hN
     replace KA101 := hn_ KA101 hN
     replace KA102 := hn_ KA102 hN
     replace HBt := Below.on hN HBt
     replace hS0 := hS0.trans (hN.mono hS0.size)
     clear hN
     refine ⟨(fun _ => hS0), ?_⟩
     refine S_tg 7 (.bool false) rfl hS0 ?_
     simp only [Act.put, List.getElem_toArray, List.getElem_cons_succ, List.getElem_cons_zero, List.setIfInBounds_toArray, List.set_cons_succ, List.set_cons_zero]
     refine S_tg 8 (.bool false) rfl hS0 ?_
     refine S_sk 9 rfl hS0 ?_
     refine S_sk 10 rfl hS0 ?_
     simp only [Act.put, List.getElem_toArray, List.getElem_cons_succ, List.getElem_cons_zero, List.setIfInBounds_toArray, List.set_cons_succ, List.set_cons_zero]
     refine S_tg 11 (.bool false) rfl hS0 ?_
     refine S_tg 12 (.bool false) rfl hS0 ?_
     refine S_sk 13 rfl hS0 ?_
     simp only [Act.put, List.getElem_toArray, List.getElem_cons_succ, List.getElem_cons_zero, List.setIfInBounds_toArray, List.set_cons_succ, List.set_cons_zero]
     refine S_sk 14 rfl hS0 ?_
     refine S_sk 15 rfl hS0 ?_
     refine S_sk 16 rfl hS0 ?_
     simp only [Act.put, List.getElem_toArray, List.getElem_cons_succ, List.getElem_cons_zero, List.setIfInBounds_toArray, List.set_cons_succ, List.set_cons_zero]
     refine S_sk 17 rfl hS0 ?_
     refine S_sk 18 rfl hS0 ?_
     refine S_sk 19 rfl hS0 ?_
     simp only [Act.put, List.getElem_toArray, List.getElem_cons_succ, List.getElem_cons_zero, List.setIfInBounds_toArray, List.set_cons_succ, List.set_cons_zero]
     refine S_sk 20 rfl hS0 ?_
     refine S_sk 21 rfl hS0 ?_
     refine S_sk 22 rfl hS0 ?_
     simp only [Act.put, List.getElem_toArray, List.getElem_cons_succ, List.getElem_cons_zero, List.setIfInBounds_toArray, List.set_cons_succ, List.set_cons_zero]
     refine S_sk 23 rfl hS0 ?_
     refine S_tg 24 (.bool false) rfl hS0 ?_
     refine S_tg 25 (.bool false) rfl hS0 ?_
     simp only [Act.put, List.getElem_toArray, List.getElem_cons_succ, List.getElem_cons_zero, List.setIfInBounds_toArray, List.set_cons_succ, List.set_cons_zero]
     refine ⟨by kernel_rfl, rfl, ?_⟩
     obtain ⟨WN, hWN⟩ : ∃ WN, w2h2 = WN := ⟨_, rfl⟩
     rw [hWN] at KA100 KA101 KA102 HBt ⊢
     clear hWN hwf hS0 HB
     have HB := HBt
     clear HBt
     clear K0 k0 f0 l0 m0
     clear K1 k1 f1 l1 m1
     clear K2 k2 f2 l2 m2
     have K0 := KA100
     clear KA100
     have K1 := KA101
     clear KA101
     have K2 := KA102
     clear KA102
     (obtain ⟨k0, f0, l0, m0⟩ := rl_ K0; obtain ⟨k1, f1, l1, m1⟩ := rl_ K1; obtain ⟨k2, f2, l2, m2⟩ := rl_ K2)
     go_wp2_with fail
     go_meet
     case rel => exact ⟨rfl, K0.out, K1.out, K2.out, HB⟩
    | true =>
     cases fi with
     | false =>
      have hwf : ∀ f, Fence.wide.fn f := fun _ => trivial
      refine (wpIn_wide (n := 9)).1 ?_
      refine wpIn_round_held (fun w' => Below w2.heap.size w2 w') (fun j => true) (by kernel_rfl) ?_
      have hS0 : (fun w' => Below w2.heap.size w2 w') w2.drew := (Below.refl _ _).drew
      have KA100 := Lib.hid (K0.out.drew)
      have KA101 := Lib.hid (K1.out.drew)
      have KA102 := Lib.hid (K2.out.drew)
      have HBt := HB.drew
      refine S_tg 0 (.pointer (some ⟨g, 20, none⟩)) rfl hS0 ?_
      refine S_tk 1 (cmV (s.next)) rfl hS0 (fun w' hw => exec_load rfl (by kernel_rfl) (ldSr_next (s) (K0.out.below hw))) ?_
      refine S_one 2 (by kernel_rfl) rfl (fun K hK => ?_)
      go_simp
      gi_wp2_with (gi_at_call 79; refine (callsIn_wide.2 (n4.out _)).mono ?_; rintro e w2h1 ⟨rfl, hN⟩)
      replace KA100 := hn_ KA100 hN
      replace KA101 := hn_ KA101 hN
      replace KA102 := hn_ KA102 hN
      replace HBt := Below.on hN HBt
      replace hS0 := hS0.trans (hN.mono hS0.size)
      clear hN
      refine ⟨(fun _ => hS0), ?_⟩
      refine S_tg 3 (.bool true) rfl hS0 ?_
      simp only [Act.put, List.getElem_toArray, List.getElem_cons_succ, List.getElem_cons_zero, List.setIfInBounds_toArray, List.set_cons_succ, List.set_cons_zero]
      refine S_tg 4 (.bool true) rfl hS0 ?_
      refine S_tk 5 (upV (u)) rfl hS0 (fun w' hw => exec_load rfl (by kernel_rfl) (ldUp (u) (K1.out.below hw))) ?_
      refine S_one 6 (by kernel_rfl) rfl (fun K hK => ?_)
      go_simp
      gi_wp2_with (gi_at_call 80; refine (callsIn_wide.2 (n5.out _)).mono ?_; rintro e w2h2 ⟨rfl, hN⟩)
      replace KA100 := hn_ KA100 hN
      replace KA101 := hn_ KA101 hN
      replace KA102 := hn_ KA102 hN
      replace HBt := Below.on hN HBt
      replace hS0 := hS0.trans (hN.mono hS0.size)
      clear hN
      refine ⟨(fun _ => hS0), ?_⟩
      refine S_tg 7 (.bool true) rfl hS0 ?_
      simp only [Act.put, List.getElem_toArray, List.getElem_cons_succ, List.getElem_cons_zero, List.setIfInBounds_toArray, List.set_cons_succ, List.set_cons_zero]
      refine S_tg 8 (.bool true) rfl hS0 ?_
      refine S_tk 9 (upV (u)) rfl hS0 (fun w' hw => exec_load rfl (by kernel_rfl) (ldUp (u) (K1.out.below hw))) ?_
      refine S_one 10 (by kernel_rfl) rfl (fun K hK => ?_)
      go_simp
      gi_wp2_with (gi_at_call 81; refine (callsIn_wide.2 (n6.out _)).mono ?_; rintro e w2h3 ⟨rfl, hN⟩)
      replace KA100 := hn_ KA100 hN
      replace KA101 := hn_ KA101 hN
      replace KA102 := hn_ KA102 hN
      replace HBt := Below.on hN HBt
      replace hS0 := hS0.trans (hN.mono hS0.size)
      clear hN
      refine ⟨(fun _ => hS0), ?_⟩
      refine S_tg 11 (.bool false) rfl hS0 ?_
      simp only [Act.put, List.getElem_toArray, List.getElem_cons_succ, List.getElem_cons_zero, List.setIfInBounds_toArray, List.set_cons_succ, List.set_cons_zero]
      refine S_tg 12 (.bool false) rfl hS0 ?_
      refine S_sk 13 rfl hS0 ?_
      refine S_sk 14 rfl hS0 ?_
      simp only [Act.put, List.getElem_toArray, List.getElem_cons_succ, List.getElem_cons_zero, List.setIfInBounds_toArray, List.set_cons_succ, List.set_cons_zero]
      refine S_sk 15 rfl hS0 ?_
      refine S_sk 16 rfl hS0 ?_
      refine S_sk 17 rfl hS0 ?_
      simp only [Act.put, List.getElem_toArray, List.getElem_cons_succ, List.getElem_cons_zero, List.setIfInBounds_toArray, List.set_cons_succ, List.set_cons_zero]
      refine S_sk 18 rfl hS0 ?_
      refine S_sk 19 rfl hS0 ?_
      refine S_sk 20 rfl hS0 ?_
      simp only [Act.put, List.getElem_toArray, List.getElem_cons_succ, List.getElem_cons_zero, List.setIfInBounds_toArray, List.set_cons_succ, List.set_cons_zero]
      refine S_sk 21 rfl hS0 ?_
      refine S_sk 22 rfl hS0 ?_
      refine S_sk 23 rfl hS0 ?_
      simp only [Act.put, List.getElem_toArray, List.getElem_cons_succ, List.getElem_cons_zero, List.setIfInBounds_toArray, List.set_cons_succ, List.set_cons_zero]
      refine S_tg 24 (.bool false) rfl hS0 ?_
      refine S_tg 25 (.bool false) rfl hS0 ?_
      refine ⟨by kernel_rfl, rfl, ?_⟩
      obtain ⟨WN, hWN⟩ : ∃ WN, w2h3 = WN := ⟨_, rfl⟩
      rw [hWN] at KA100 KA101 KA102 HBt ⊢
      clear hWN hwf hS0 HB
      have HB := HBt
      clear HBt
      clear K0 k0 f0 l0 m0
      clear K1 k1 f1 l1 m1
      clear K2 k2 f2 l2 m2
      have K0 := KA100
      clear KA100
      have K1 := KA101
      clear KA101
      have K2 := KA102
      clear KA102
      (obtain ⟨k0, f0, l0, m0⟩ := rl_ K0; obtain ⟨k1, f1, l1, m1⟩ := rl_ K1; obtain ⟨k2, f2, l2, m2⟩ := rl_ K2)
      go_wp2_with fail
      go_meet
      case rel => exact ⟨by rw [hof.out]; rfl, K0.out, K1.out, K2.out, HB⟩
     | true =>
      have hwf : ∀ f, Fence.wide.fn f := fun _ => trivial
      refine (wpIn_wide (n := 9)).1 ?_
      refine wpIn_round_held (fun w' => Below w2.heap.size w2 w') (fun j => true) (by kernel_rfl) ?_
      have hS0 : (fun w' => Below w2.heap.size w2 w') w2.drew := (Below.refl _ _).drew
      have KA100 := Lib.hid (K0.out.drew)
      have KA101 := Lib.hid (K1.out.drew)
      have KA102 := Lib.hid (K2.out.drew)
      have HBt := HB.drew
      refine S_tg 0 (.pointer (some ⟨g, 20, none⟩)) rfl hS0 ?_
      refine S_tk 1 (cmV (s.next)) rfl hS0 (fun w' hw => exec_load rfl (by kernel_rfl) (ldSr_next (s) (K0.out.below hw))) ?_
      refine S_one 2 (by kernel_rfl) rfl (fun K hK => ?_)
      go_simp
      gi_wp2_with (gi_at_call 79; refine (callsIn_wide.2 (n4.out _)).mono ?_; rintro e w2h1 ⟨rfl, hN⟩)
      replace KA100 := hn_ KA100 hN
      replace KA101 := hn_ KA101 hN
      replace KA102 := hn_ KA102 hN
      replace HBt := Below.on hN HBt
      replace hS0 := hS0.trans (hN.mono hS0.size)
      clear hN
      refine ⟨(fun _ => hS0), ?_⟩
      refine S_tg 3 (.bool true) rfl hS0 ?_
      simp only [Act.put, List.getElem_toArray, List.getElem_cons_succ, List.getElem_cons_zero, List.setIfInBounds_toArray, List.set_cons_succ, List.set_cons_zero]
      refine S_tg 4 (.bool true) rfl hS0 ?_
      refine S_tk 5 (upV (u)) rfl hS0 (fun w' hw => exec_load rfl (by kernel_rfl) (ldUp (u) (K1.out.below hw))) ?_
      refine S_one 6 (by kernel_rfl) rfl (fun K hK => ?_)
      go_simp
      gi_wp2_with (gi_at_call 80; refine (callsIn_wide.2 (n5.out _)).mono ?_; rintro e w2h2 ⟨rfl, hN⟩)
      replace KA100 := hn_ KA100 hN
      replace KA101 := hn_ KA101 hN
      replace KA102 := hn_ KA102 hN
      replace HBt := Below.on hN HBt
      replace hS0 := hS0.trans (hN.mono hS0.size)
      clear hN
      refine ⟨(fun _ => hS0), ?_⟩
      refine S_tg 7 (.bool true) rfl hS0 ?_
      simp only [Act.put, List.getElem_toArray, List.getElem_cons_succ, List.getElem_cons_zero, List.setIfInBounds_toArray, List.set_cons_succ, List.set_cons_zero]
      refine S_tg 8 (.bool true) rfl hS0 ?_
      refine S_tk 9 (upV (u)) rfl hS0 (fun w' hw => exec_load rfl (by kernel_rfl) (ldUp (u) (K1.out.below hw))) ?_
      refine S_one 10 (by kernel_rfl) rfl (fun K hK => ?_)
      go_simp
      gi_wp2_with (gi_at_call 81; refine (callsIn_wide.2 (n6.out _)).mono ?_; rintro e w2h3 ⟨rfl, hN⟩)
      replace KA100 := hn_ KA100 hN
      replace KA101 := hn_ KA101 hN
      replace KA102 := hn_ KA102 hN
      replace HBt := Below.on hN HBt
      replace hS0 := hS0.trans (hN.mono hS0.size)
      clear hN
      refine ⟨(fun _ => hS0), ?_⟩
      refine S_tg 11 (.bool true) rfl hS0 ?_
      simp only [Act.put, List.getElem_toArray, List.getElem_cons_succ, List.getElem_cons_zero, List.setIfInBounds_toArray, List.set_cons_succ, List.set_cons_zero]
      refine S_tg 12 (.bool true) rfl hS0 ?_
      refine S_tg 13 (.pointer (some ⟨(g + 1), 12, none⟩)) rfl hS0 ?_
      refine S_tg 14 (.pointer (some ⟨(g + 1), 12, none⟩)) rfl hS0 ?_
      simp only [Act.put, List.getElem_toArray, List.getElem_cons_succ, List.getElem_cons_zero, List.setIfInBounds_toArray, List.set_cons_succ, List.set_cons_zero]
      refine S_tg 15 (.pointer (some ⟨(g + 1), 12, none⟩)) rfl hS0 ?_
      refine S_tk 16 (.int .u64 (u.fin.b.slot : Int)) rfl hS0 (fun w' hw => exec_load rfl (by kernel_rfl) (run_load_cell (i := 12) (K1.out.below hw) rfl szU64 nrU64)) ?_
      refine S_tg 18 (.pointer (some ⟨(g + 1), 0, none⟩)) rfl hS0 ?_
      simp only [Act.put, List.getElem_toArray, List.getElem_cons_succ, List.getElem_cons_zero, List.setIfInBounds_toArray, List.set_cons_succ, List.set_cons_zero]
      refine S_tg 19 (.pointer (some ⟨(g + 1), 0, none⟩)) rfl hS0 ?_
      refine S_tg 20 (.pointer (some ⟨(g + 1), 0, none⟩)) rfl hS0 ?_
      refine S_tk 21 (.int .u64 (u.seen.b.slot : Int)) rfl hS0 (fun w' hw => exec_load rfl (by kernel_rfl) (run_load_cell (i := 0) (K1.out.below hw) rfl szU64 nrU64)) ?_
      simp only [Act.put, List.getElem_toArray, List.getElem_cons_succ, List.getElem_cons_zero, List.setIfInBounds_toArray, List.set_cons_succ, List.set_cons_zero]
      refine S_one 17 (by kernel_rfl) rfl (fun K hK => ?_)
      go_simp
      gi_wp2_with (gi_at_call 82; refine (callsIn_wide.2 (n7.out _)).mono ?_; rintro e w2h4 ⟨rfl, hN⟩; obtain rfl : w2h3 = w2h4 := (by first | exact hN | exact hN.symm))
      refine ⟨(fun _ => hS0), ?_⟩
      refine S_one 22 (by kernel_rfl) rfl (fun K hK => ?_)
      go_simp
      gi_wp2_with (gi_at_call 82; refine (callsIn_wide.2 (n9.out _)).mono ?_; rintro e w2h5 ⟨rfl, hN⟩; obtain rfl : w2h3 = w2h5 := (by first | exact hN | exact hN.symm))
      refine ⟨(fun _ => hS0), ?_⟩
      refine S_tg 23 (.bool ow) rfl hS0 ?_
      refine S_tg 24 (.bool ow) rfl hS0 ?_
      refine S_tg 25 (.bool ow) rfl hS0 ?_
      simp only [Act.put, List.getElem_toArray, List.getElem_cons_succ, List.getElem_cons_zero, List.setIfInBounds_toArray, List.set_cons_succ, List.set_cons_zero]
      refine ⟨by kernel_rfl, rfl, ?_⟩
      obtain ⟨WN, hWN⟩ : ∃ WN, w2h3 = WN := ⟨_, rfl⟩
      rw [hWN] at KA100 KA101 KA102 HBt ⊢
      clear hWN hwf hS0 HB
      have HB := HBt
      clear HBt
      clear K0 k0 f0 l0 m0
      clear K1 k1 f1 l1 m1
      clear K2 k2 f2 l2 m2
      have K0 := KA100
      clear KA100
      have K1 := KA101
      clear KA101
      have K2 := KA102
      clear KA102
      (obtain ⟨k0, f0, l0, m0⟩ := rl_ K0; obtain ⟨k1, f1, l1, m1⟩ := rl_ K1; obtain ⟨k2, f2, l2, m2⟩ := rl_ K2)
      go_wp2_with fail
      go_meet
      case rel => exact ⟨by rw [hof.out]; simp, K0.out, K1.out, K2.out, HB⟩
 obtain ⟨rfl, hcut⟩ := hcut
 obtain ⟨j0, j1, j2, HBn⟩ := hcut
 replace j0 := Lib.hid j0
 replace j1 := Lib.hid j1
 replace j2 := Lib.hid j2
 clear k0 f0 l0 m0 k1 f1 l1 m1 k2 f2 l2 m2 K0 K1 K2 HB
 have K0 := j0; have K1 := j1; have K2 := j2; have HB := HBn
 clear j0 j1 j2 HBn
 (obtain ⟨k0, f0, l0, m0⟩ := rl_ K0; obtain ⟨k1, f1, l1, m1⟩ := rl_ K1; obtain ⟨k2, f2, l2, m2⟩ := rl_ K2)
 clear n1 n4 n5 n6 n7 n9 hof ew
 have hgo2 := hgo.out
 generalize (!kn && (hx && of)) = fst at *
 replace hgo := Lib.hid hgo2
 clear hgo2
 go_upto_region 5 with fail
 -- the best update
 go_cut [51] (fun s51 wx => s51 = .bool (!s.has || bt) ∧ TkW w g s u wx)
 case first =>
  as_aux_lemma =>
   cases hh : s.has with
   | false =>
    go_wp2_with fail
    go_meet
    case rel => exact ⟨by rw [hh]; rfl, K0.out, K1.out, K2.out, HB⟩
   | true =>
    go_wp2_with (first | (with_reducible refine wlr (ldUp _ K1.out) rfl ?_) | (with_reducible refine wlg (ldUp _ K1.out) (by with_unfolding_all rfl) rfl ?_) | (with_reducible refine wlr (ldSr_best _ K0.out) rfl ?_) | (with_reducible refine wlg (ldSr_best _ K0.out) (by with_unfolding_all rfl) rfl ?_))
    (refine (n3.out _).mono ?_; rintro e w3 ⟨rfl, hN⟩; replace K0 := hn_ K0 hN; replace K1 := hn_ K1 hN; replace K2 := hn_ K2 hN; replace HB : Below w.heap.size w w3 := Below.on hN HB; clear hN k0 f0 l0 m0 k1 f1 l1 m1 k2 f2 l2 m2; obtain ⟨k0, f0, l0, m0⟩ := rl_ K0; obtain ⟨k1, f1, l1, m1⟩ := rl_ K1; obtain ⟨k2, f2, l2, m2⟩ := rl_ K2)
    go_wp2_with fail
    go_meet
    case rel => exact ⟨by rw [hh]; rfl, K0.out, K1.out, K2.out, HB⟩
 obtain ⟨rfl, hcut⟩ := hcut
 obtain ⟨j0, j1, j2, HBn⟩ := hcut
 replace j0 := Lib.hid j0
 replace j1 := Lib.hid j1
 replace j2 := Lib.hid j2
 clear k0 f0 l0 m0 k1 f1 l1 m1 k2 f2 l2 m2 K0 K1 K2 HB
 have K0 := j0; have K1 := j1; have K2 := j2; have HB := HBn
 clear j0 j1 j2 HBn
 (obtain ⟨k0, f0, l0, m0⟩ := rl_ K0; obtain ⟨k1, f1, l1, m1⟩ := rl_ K1; obtain ⟨k2, f2, l2, m2⟩ := rl_ K2)
 clear n3
 have hv4 := hv1.out
 generalize (!s.has || bt) = q1 at *
 replace hv1 := Lib.hid hv4
 clear hv4
 go_upto_if 51 with fail
 go_cut [] (fun wx => TkW w g t1 u wx)
 case first =>
  as_aux_lemma =>
   cases q1 with
   | false =>
    have hv4 := hv1.out
    rw [if_neg (by decide)] at hv4
    go_wp2_with fail
    go_meet
    case rel => exact TkW.mk hv4.symm K0.out K1.out K2.out HB
   | true =>
    have hv4 := hv1.out
    rw [if_pos rfl] at hv4
    replace hv4 := Lib.hid hv4
    (go_wp2_with (first | (with_reducible refine wlr (ldUp _ K1.out) rfl ?_) | (with_reducible refine wlg (ldUp _ K1.out) (by with_unfolding_all rfl) rfl ?_) | (with_reducible refine wsh (stSr_best _ K0.out (u)) rfl rfl ?_)); generalize hWN : setRow _ _ _ _ = WN; replace K0 := Lib.hid (show Blk WN _ _ _ by rw [← hWN]; exact Blk.row K0.out.lt); replace K1 := Lib.hid (show Blk WN _ _ _ by rw [← hWN]; exact Blk.rowOver (by omega) K1.out); replace K2 := Lib.hid (show Blk WN _ _ _ by rw [← hWN]; exact Blk.rowOver (by omega) K2.out); replace HB : Below w.heap.size w WN := (by rw [← hWN]; exact Below.row HB (by omega) HB.size); clear hWN k0 f0 l0 m0 k1 f1 l1 m1 k2 f2 l2 m2; obtain ⟨k0, f0, l0, m0⟩ := rl_ K0; obtain ⟨k1, f1, l1, m1⟩ := rl_ K1; obtain ⟨k2, f2, l2, m2⟩ := rl_ K2; unfold Halted)
    (go_wp2_with (first | (with_reducible refine wsh (stcSr_has _ K0.out (true)) rfl rfl ?_)); generalize hWN : setRow _ _ _ _ = WN; replace K0 := Lib.hid (show Blk WN _ _ _ by rw [← hWN]; exact Blk.row K0.out.lt); replace K1 := Lib.hid (show Blk WN _ _ _ by rw [← hWN]; exact Blk.rowOver (by omega) K1.out); replace K2 := Lib.hid (show Blk WN _ _ _ by rw [← hWN]; exact Blk.rowOver (by omega) K2.out); replace HB : Below w.heap.size w WN := (by rw [← hWN]; exact Below.row HB (by omega) HB.size); clear hWN k0 f0 l0 m0 k1 f1 l1 m1 k2 f2 l2 m2; obtain ⟨k0, f0, l0, m0⟩ := rl_ K0; obtain ⟨k1, f1, l1, m1⟩ := rl_ K1; obtain ⟨k2, f2, l2, m2⟩ := rl_ K2; unfold Halted)
    go_wp2_with fail
    go_meet
    case rel => exact TkW.mk hv4.out.symm K0.out K1.out K2.out HB
 obtain ⟨j0, j1, j2, HBn⟩ := hcut
 replace j0 := Lib.hid j0
 replace j1 := Lib.hid j1
 replace j2 := Lib.hid j2
 clear k0 f0 l0 m0 k1 f1 l1 m1 k2 f2 l2 m2 K0 K1 K2 HB
 have K0 := j0; have K1 := j1; have K2 := j2; have HB := HBn
 clear j0 j1 j2 HBn
 (obtain ⟨k0, f0, l0, m0⟩ := rl_ K0; obtain ⟨k1, f1, l1, m1⟩ := rl_ K1; obtain ⟨k2, f2, l2, m2⟩ := rl_ K2)
 clear hv1
 -- how many sign
 go_upto_region 7 with fail
 go_cut [] (fun wx => TkW w g t2 u wx)
 case first =>
  as_aux_lemma =>
   have hwf : ∀ f, Fence.wide.fn f := fun _ => trivial
   refine (wpIn_wide (n := 9)).1 ?_
   refine wpIn_round_held (fun w' => Below wc.heap.size wc w') (fun j => !decide (j ∈ [6])) (by kernel_rfl) ?_
   have hS0 : (fun w' => Below wc.heap.size wc w') wc.drew := (Below.refl _ _).drew
   have KA100 := Lib.hid (K0.out.drew)
   have KA101 := Lib.hid (K1.out.drew)
   have KA102 := Lib.hid (K2.out.drew)
   have HBt := HB.drew
   refine S_tg 0 (.pointer (some ⟨g, 49, none⟩)) rfl hS0 ?_
   refine S_tk 1 (.int .i64 t1.this) rfl hS0 (fun w' hw => exec_load rfl (by kernel_rfl) (run_load_cell (i := 49) (K0.out.below hw) rfl szInt nrInt)) ?_
   refine S_tk 2 (upV (u)) rfl hS0 (fun w' hw => exec_load rfl (by kernel_rfl) (ldUp (u) (K1.out.below hw))) ?_
   refine S_one 3 (by kernel_rfl) rfl (fun K hK => ?_)
   go_simp
   gi_wp2_with (gi_at_call 56; refine (callsIn_wide.2 (n2.out _)).mono ?_; rintro e wch1 ⟨rfl, hN⟩)
   replace KA100 := hn_ KA100 hN
   replace KA101 := hn_ KA101 hN
   replace KA102 := hn_ KA102 hN
   replace HBt := Below.on hN HBt
   replace hS0 := hS0.trans (hN.mono hS0.size)
   clear hN
   refine ⟨(fun _ => hS0), ?_⟩
   refine S_tg 4 (.int .i64 (max t1.this (n : Int))) rfl hS0 ?_
   refine S_tg 5 (.pointer (some ⟨g, 49, none⟩)) rfl hS0 ?_
   refine S_store 6 (fun _ => trivial) (by kernel_rfl) (by kernel_rfl) rfl (by kernel_rfl) (setRow wch1 (g) 35 (srA { t1 with this := max t1.this (n : Int) })) (exec_store _ _ rfl (by kernel_rfl) (by kernel_rfl) (stcSr_this _ KA100.out (max t1.this (n : Int)))) (fun h => absurd h (by decide)) ?_
   replace KA101 := Lib.hid (Blk.rowOver (g' := g) (t' := 35) (cs' := srA { t1 with this := max t1.this (n : Int) }) (by first | assumption | omega) KA101.out)
   replace KA102 := Lib.hid (Blk.rowOver (g' := g) (t' := 35) (cs' := srA { t1 with this := max t1.this (n : Int) }) (by first | assumption | omega) KA102.out)
   replace KA100 := Lib.hid (Blk.row (t := 35) (cs := srA { t1 with this := max t1.this (n : Int) }) KA100.out.lt)
   replace HBt := Below.row HBt (g := g) (t := 35) (cs := srA { t1 with this := max t1.this (n : Int) }) (by omega) HBt.size
   refine ⟨by kernel_rfl, rfl, ?_⟩
   obtain ⟨WN, hWN⟩ : ∃ WN, (setRow wch1 (g) 35 (srA { t1 with this := max t1.this (n : Int) })) = WN := ⟨_, rfl⟩
   rw [hWN] at KA100 KA101 KA102 HBt ⊢
   clear hWN hwf hS0 HB
   have HB := HBt
   clear HBt
   clear K0 k0 f0 l0 m0
   clear K1 k1 f1 l1 m1
   clear K2 k2 f2 l2 m2
   have K0 := KA100
   clear KA100
   have K1 := KA101
   clear KA101
   have K2 := KA102
   clear KA102
   (obtain ⟨k0, f0, l0, m0⟩ := rl_ K0; obtain ⟨k1, f1, l1, m1⟩ := rl_ K1; obtain ⟨k2, f2, l2, m2⟩ := rl_ K2)
   go_wp2_with fail
   go_meet
   case rel => exact TkW.mk hv2.out.symm K0.out K1.out K2.out HB
 obtain ⟨j0, j1, j2, HBn⟩ := hcut
 replace j0 := Lib.hid j0
 replace j1 := Lib.hid j1
 replace j2 := Lib.hid j2
 clear k0 f0 l0 m0 k1 f1 l1 m1 k2 f2 l2 m2 K0 K1 K2 HB
 have K0 := j0; have K1 := j1; have K2 := j2; have HB := HBn
 clear j0 j1 j2 HBn
 (obtain ⟨k0, f0, l0, m0⟩ := rl_ K0; obtain ⟨k1, f1, l1, m1⟩ := rl_ K1; obtain ⟨k2, f2, l2, m2⟩ := rl_ K2)
 clear hv2
 go_upto_region 8 with fail
 go_cut [80] (fun s80 wx => s80 = .bool (decide (q < (n : Int)) && decide (t2.new.b.slot < u.seen.b.slot)) ∧ TkW w g t2 u wx)
 case first =>
  as_aux_lemma =>
   have e9 : decide ((t2.new.b.slot : Int) < (u.seen.b.slot : Int)) = decide (t2.new.b.slot < u.seen.b.slot) := decide_eq_decide.2 (by omega)
   by_cases h9 : q < (n : Int)
   ·have h9b : decide (q < (n : Int)) = true := decide_eq_true h9
    obtain ⟨b9, hb9⟩ : ∃ b, decide (t2.new.b.slot < u.seen.b.slot) = b := ⟨_, rfl⟩
    clear e9
    have hwf : ∀ f, Fence.wide.fn f := fun _ => trivial
    refine (wpIn_wide (n := 9)).1 ?_
    refine wpIn_round_held (fun w' => Below wc.heap.size wc w') (fun j => true) (by kernel_rfl) ?_
    have hS0 : (fun w' => Below wc.heap.size wc w') wc.drew := (Below.refl _ _).drew
    have KA100 := Lib.hid (K0.out.drew)
    have KA101 := Lib.hid (K1.out.drew)
    have KA102 := Lib.hid (K2.out.drew)
    have HBt := HB.drew
    refine S_tk 0 (upV (u)) rfl hS0 (fun w' hw => exec_load rfl (by kernel_rfl) (ldUp (u) (K1.out.below hw))) ?_
    refine S_tg 2 (.pointer (some ⟨g, 48, none⟩)) rfl hS0 ?_
    refine S_tk 3 (.int .i64 t2.last) rfl hS0 (fun w' hw => exec_load rfl (by kernel_rfl) (run_load_cell (i := 48) (K0.out.below hw) rfl szInt nrInt)) ?_
    simp only [Act.put, List.getElem_toArray, List.getElem_cons_succ, List.getElem_cons_zero, List.setIfInBounds_toArray, List.set_cons_succ, List.set_cons_zero]
    refine S_tg 4 (.pointer (some ⟨g, 49, none⟩)) rfl hS0 ?_
    refine S_tk 5 (.int .i64 t2.this) rfl hS0 (fun w' hw => exec_load rfl (by kernel_rfl) (run_load_cell (i := 49) (K0.out.below hw) rfl szInt nrInt)) ?_
    refine S_tg 6 (.int .i64 m) rfl hS0 ?_
    simp only [Act.put, List.getElem_toArray, List.getElem_cons_succ, List.getElem_cons_zero, List.setIfInBounds_toArray, List.set_cons_succ, List.set_cons_zero]
    refine S_tk 7 (.int .i64 q) rfl hS0 (fun w' hw => by first | exact exec_quo m q hq1 rfl (eval_put (by simp only [put_size]; exact of_decide_eq_true rfl)) | exact exec_quo m q hq1 rfl rfl) ?_
    refine S_one 1 (by kernel_rfl) rfl (fun K hK => ?_)
    go_simp
    gi_wp2_with (gi_at_call 56; refine (callsIn_wide.2 (n2.out _)).mono ?_; rintro e wch1 ⟨rfl, hN⟩)
    replace KA100 := hn_ KA100 hN
    replace KA101 := hn_ KA101 hN
    replace KA102 := hn_ KA102 hN
    replace HBt := Below.on hN HBt
    replace hS0 := hS0.trans (hN.mono hS0.size)
    clear hN
    refine ⟨(fun _ => hS0), ?_⟩
    refine S_tg 8 (.bool true) rfl hS0 ?_
    refine S_tg 9 (.bool true) rfl hS0 ?_
    simp only [Act.put, List.getElem_toArray, List.getElem_cons_succ, List.getElem_cons_zero, List.setIfInBounds_toArray, List.set_cons_succ, List.set_cons_zero]
    refine S_tg 10 (.pointer (some ⟨(g + 1), 0, none⟩)) rfl hS0 ?_
    refine S_tg 11 (.pointer (some ⟨(g + 1), 0, none⟩)) rfl hS0 ?_
    refine S_tg 12 (.pointer (some ⟨(g + 1), 0, none⟩)) rfl hS0 ?_
    simp only [Act.put, List.getElem_toArray, List.getElem_cons_succ, List.getElem_cons_zero, List.setIfInBounds_toArray, List.set_cons_succ, List.set_cons_zero]
    refine S_tk 13 (.int .u64 (u.seen.b.slot : Int)) rfl hS0 (fun w' hw => exec_load rfl (by kernel_rfl) (run_load_cell (i := 0) (K1.out.below hw) rfl szU64 nrU64)) ?_
    refine S_tg 14 (.pointer (some ⟨g, 9, none⟩)) rfl hS0 ?_
    refine S_tg 15 (.pointer (some ⟨g, 9, none⟩)) rfl hS0 ?_
    simp only [Act.put, List.getElem_toArray, List.getElem_cons_succ, List.getElem_cons_zero, List.setIfInBounds_toArray, List.set_cons_succ, List.set_cons_zero]
    refine S_tg 16 (.pointer (some ⟨g, 9, none⟩)) rfl hS0 ?_
    refine S_tk 17 (.int .u64 (t2.new.b.slot : Int)) rfl hS0 (fun w' hw => exec_load rfl (by kernel_rfl) (run_load_cell (i := 9) (K0.out.below hw) rfl szU64 nrU64)) ?_
    refine S_tg 18 (.bool b9) rfl hS0 ?_
    simp only [Act.put, List.getElem_toArray, List.getElem_cons_succ, List.getElem_cons_zero, List.setIfInBounds_toArray, List.set_cons_succ, List.set_cons_zero]
    refine S_tg 19 (.bool b9) rfl hS0 ?_
    refine ⟨by kernel_rfl, rfl, ?_⟩
    obtain ⟨WN, hWN⟩ : ∃ WN, wch1 = WN := ⟨_, rfl⟩
    rw [hWN] at KA100 KA101 KA102 HBt ⊢
    clear hWN hwf hS0 HB
    have HB := HBt
    clear HBt
    clear K0 k0 f0 l0 m0
    clear K1 k1 f1 l1 m1
    clear K2 k2 f2 l2 m2
    have K0 := KA100
    clear KA100
    have K1 := KA101
    clear KA101
    have K2 := KA102
    clear KA102
    (obtain ⟨k0, f0, l0, m0⟩ := rl_ K0; obtain ⟨k1, f1, l1, m1⟩ := rl_ K1; obtain ⟨k2, f2, l2, m2⟩ := rl_ K2)
    go_wp2_with fail
    go_meet
    case rel => exact ⟨by rw [h9b, hb9]; rfl, K0.out, K1.out, K2.out, HB⟩
   ·have h9b : decide (q < (n : Int)) = false := decide_eq_false h9
    have hwf : ∀ f, Fence.wide.fn f := fun _ => trivial
    refine (wpIn_wide (n := 9)).1 ?_
    refine wpIn_round_held (fun w' => Below wc.heap.size wc w') (fun j => true) (by kernel_rfl) ?_
    have hS0 : (fun w' => Below wc.heap.size wc w') wc.drew := (Below.refl _ _).drew
    have KA100 := Lib.hid (K0.out.drew)
    have KA101 := Lib.hid (K1.out.drew)
    have KA102 := Lib.hid (K2.out.drew)
    have HBt := HB.drew
    refine S_tk 0 (upV (u)) rfl hS0 (fun w' hw => exec_load rfl (by kernel_rfl) (ldUp (u) (K1.out.below hw))) ?_
    refine S_tg 2 (.pointer (some ⟨g, 48, none⟩)) rfl hS0 ?_
    refine S_tk 3 (.int .i64 t2.last) rfl hS0 (fun w' hw => exec_load rfl (by kernel_rfl) (run_load_cell (i := 48) (K0.out.below hw) rfl szInt nrInt)) ?_
    simp only [Act.put, List.getElem_toArray, List.getElem_cons_succ, List.getElem_cons_zero, List.setIfInBounds_toArray, List.set_cons_succ, List.set_cons_zero]
    refine S_tg 4 (.pointer (some ⟨g, 49, none⟩)) rfl hS0 ?_
    refine S_tk 5 (.int .i64 t2.this) rfl hS0 (fun w' hw => exec_load rfl (by kernel_rfl) (run_load_cell (i := 49) (K0.out.below hw) rfl szInt nrInt)) ?_
    refine S_tg 6 (.int .i64 m) rfl hS0 ?_
    simp only [Act.put, List.getElem_toArray, List.getElem_cons_succ, List.getElem_cons_zero, List.setIfInBounds_toArray, List.set_cons_succ, List.set_cons_zero]
    refine S_tk 7 (.int .i64 q) rfl hS0 (fun w' hw => by first | exact exec_quo m q hq1 rfl (eval_put (by simp only [put_size]; exact of_decide_eq_true rfl)) | exact exec_quo m q hq1 rfl rfl) ?_
    refine S_one 1 (by kernel_rfl) rfl (fun K hK => ?_)
    go_simp
    gi_wp2_with (gi_at_call 56; refine (callsIn_wide.2 (n2.out _)).mono ?_; rintro e wch1 ⟨rfl, hN⟩)
    replace KA100 := hn_ KA100 hN
    replace KA101 := hn_ KA101 hN
    replace KA102 := hn_ KA102 hN
    replace HBt := Below.on hN HBt
    replace hS0 := hS0.trans (hN.mono hS0.size)
    clear hN
    refine ⟨(fun _ => hS0), ?_⟩
    refine S_tg 8 (.bool false) rfl hS0 ?_
    refine S_tg 9 (.bool false) rfl hS0 ?_
    simp only [Act.put, List.getElem_toArray, List.getElem_cons_succ, List.getElem_cons_zero, List.setIfInBounds_toArray, List.set_cons_succ, List.set_cons_zero]
    refine S_sk 10 rfl hS0 ?_
    refine S_sk 11 rfl hS0 ?_
    refine S_sk 12 rfl hS0 ?_
    simp only [Act.put, List.getElem_toArray, List.getElem_cons_succ, List.getElem_cons_zero, List.setIfInBounds_toArray, List.set_cons_succ, List.set_cons_zero]
    refine S_sk 13 rfl hS0 ?_
    refine S_sk 14 rfl hS0 ?_
    refine S_sk 15 rfl hS0 ?_
    simp only [Act.put, List.getElem_toArray, List.getElem_cons_succ, List.getElem_cons_zero, List.setIfInBounds_toArray, List.set_cons_succ, List.set_cons_zero]
    refine S_sk 16 rfl hS0 ?_
    refine S_sk 17 rfl hS0 ?_
    refine S_sk 18 rfl hS0 ?_
    simp only [Act.put, List.getElem_toArray, List.getElem_cons_succ, List.getElem_cons_zero, List.setIfInBounds_toArray, List.set_cons_succ, List.set_cons_zero]
    refine S_tg 19 (.bool false) rfl hS0 ?_
    refine ⟨by kernel_rfl, rfl, ?_⟩
    obtain ⟨WN, hWN⟩ : ∃ WN, wch1 = WN := ⟨_, rfl⟩
    rw [hWN] at KA100 KA101 KA102 HBt ⊢
    clear hWN hwf hS0 HB
    have HB := HBt
    clear HBt
    clear K0 k0 f0 l0 m0
    clear K1 k1 f1 l1 m1
    clear K2 k2 f2 l2 m2
    have K0 := KA100
    clear KA100
    have K1 := KA101
    clear KA101
    have K2 := KA102
    clear KA102
    (obtain ⟨k0, f0, l0, m0⟩ := rl_ K0; obtain ⟨k1, f1, l1, m1⟩ := rl_ K1; obtain ⟨k2, f2, l2, m2⟩ := rl_ K2)
    go_wp2_with fail
    go_meet
    case rel => exact ⟨by rw [h9b]; rfl, K0.out, K1.out, K2.out, HB⟩
 obtain ⟨rfl, hcut⟩ := hcut
 obtain ⟨j0, j1, j2, HBn⟩ := hcut
 replace j0 := Lib.hid j0
 replace j1 := Lib.hid j1
 replace j2 := Lib.hid j2
 clear k0 f0 l0 m0 k1 f1 l1 m1 k2 f2 l2 m2 K0 K1 K2 HB
 have K0 := j0; have K1 := j1; have K2 := j2; have HB := HBn
 clear j0 j1 j2 HBn
 (obtain ⟨k0, f0, l0, m0⟩ := rl_ K0; obtain ⟨k1, f1, l1, m1⟩ := rl_ K1; obtain ⟨k2, f2, l2, m2⟩ := rl_ K2)
 have hv4 : t3 = if (decide (q < (n : Int)) && decide (t2.new.b.slot < u.seen.b.slot)) = true then { t2 with new := u.seen } else t2 := hv3.out.trans (ifc9 (by simp))
 clear hv3 hq1 hq2 hq hm
 generalize (decide (q < (n : Int)) && decide (t2.new.b.slot < u.seen.b.slot)) = q2 at *
 replace hv4 := Lib.hid hv4
 go_upto_if 80 with fail
 go_cut [] (fun wx => TkW w g t3 u wx)
 case first =>
  as_aux_lemma =>
   cases q2 with
   | false =>
    have hv5 := hv4.out
    rw [if_neg (by decide)] at hv5
    go_wp2_with fail
    go_meet
    case rel => exact TkW.mk hv5.symm K0.out K1.out K2.out HB
   | true =>
    have hv5 := hv4.out
    rw [if_pos rfl] at hv5
    replace hv5 := Lib.hid hv5
    (go_wp2_with (first | (with_reducible refine wsh (stSr_new _ K0.out (u.seen)) rfl rfl ?_)); generalize hWN : setRow _ _ _ _ = WN; replace K0 := Lib.hid (show Blk WN _ _ _ by rw [← hWN]; exact Blk.row K0.out.lt); replace K1 := Lib.hid (show Blk WN _ _ _ by rw [← hWN]; exact Blk.rowOver (by omega) K1.out); replace K2 := Lib.hid (show Blk WN _ _ _ by rw [← hWN]; exact Blk.rowOver (by omega) K2.out); replace HB : Below w.heap.size w WN := (by rw [← hWN]; exact Below.row HB (by omega) HB.size); clear hWN k0 f0 l0 m0 k1 f1 l1 m1 k2 f2 l2 m2; obtain ⟨k0, f0, l0, m0⟩ := rl_ K0; obtain ⟨k1, f1, l1, m1⟩ := rl_ K1; obtain ⟨k2, f2, l2, m2⟩ := rl_ K2; unfold Halted)
    go_wp2_with fail
    go_meet
    case rel => exact TkW.mk hv5.out.symm K0.out K1.out K2.out HB
 obtain ⟨j0, j1, j2, HBn⟩ := hcut
 replace j0 := Lib.hid j0
 replace j1 := Lib.hid j1
 replace j2 := Lib.hid j2
 clear k0 f0 l0 m0 k1 f1 l1 m1 k2 f2 l2 m2 K0 K1 K2 HB
 have K0 := j0; have K1 := j1; have K2 := j2; have HB := HBn
 clear j0 j1 j2 HBn
 (obtain ⟨k0, f0, l0, m0⟩ := rl_ K0; obtain ⟨k1, f1, l1, m1⟩ := rl_ K1; obtain ⟨k2, f2, l2, m2⟩ := rl_ K2)
 clear hv4
 go_upto_region 10 with fail
 go_cut [99] (fun s99 wx => s99 = .bool go ∧ TkW w g t3 u wx)
 case first =>
  as_aux_lemma =>
   have e9 : decide ((t3.fin.b.slot : Int) < (u.fin.b.slot : Int)) = decide (t3.fin.b.slot < u.fin.b.slot) := decide_eq_decide.2 (by omega)
   go_wp2_with (first | (with_reducible refine wlr (ldUp _ K1.out) rfl ?_) | (with_reducible refine wlg (ldUp _ K1.out) (by with_unfolding_all rfl) rfl ?_))
   (refine (n8.out _).mono ?_; rintro e w8 ⟨rfl, hN⟩; replace K0 := hn_ K0 hN; replace K1 := hn_ K1 hN; replace K2 := hn_ K2 hN; replace HB : Below w.heap.size w w8 := Below.on hN HB; clear hN k0 f0 l0 m0 k1 f1 l1 m1 k2 f2 l2 m2; obtain ⟨k0, f0, l0, m0⟩ := rl_ K0; obtain ⟨k1, f1, l1, m1⟩ := rl_ K1; obtain ⟨k2, f2, l2, m2⟩ := rl_ K2)
   cases tw with
   | false =>
    go_wp2_with fail
    go_meet
    case rel => exact ⟨by rw [hgo.out]; rfl, K0.out, K1.out, K2.out, HB⟩
   | true =>
    cases fst with
    | true =>
     have hg3 : go = true := by rw [hgo.out]; rfl
     replace hg3 := Lib.hid hg3
     clear e9
     go_wp2_with fail
     go_meet
     case rel => exact ⟨by rw [hg3.out], K0.out, K1.out, K2.out, HB⟩
    | false =>
     have hg3 : go = decide (t3.fin.b.slot < u.fin.b.slot) := by rw [hgo.out]; rfl
     rw [← hg3] at e9
     replace hg3 := Lib.hid hg3
     go_wp2_with fail
     go_meet
     case rel => exact ⟨by first | rfl | rw [hg3.out] | (rw [← e9]), K0.out, K1.out, K2.out, HB⟩
 obtain ⟨rfl, hcut⟩ := hcut
 obtain ⟨j0, j1, j2, HBn⟩ := hcut
 replace j0 := Lib.hid j0
 replace j1 := Lib.hid j1
 replace j2 := Lib.hid j2
 clear k0 f0 l0 m0 k1 f1 l1 m1 k2 f2 l2 m2 K0 K1 K2 HB
 have K0 := j0; have K1 := j1; have K2 := j2; have HB := HBn
 clear j0 j1 j2 HBn
 (obtain ⟨k0, f0, l0, m0⟩ := rl_ K0; obtain ⟨k1, f1, l1, m1⟩ := rl_ K1; obtain ⟨k2, f2, l2, m2⟩ := rl_ K2)
 clear hgo n8
 cases go with
 | false =>
  have hS : S = t3 := hA2.out
  replace hS := Lib.hid hS
  clear hA2
  (go_wp2_with (first | (with_reducible refine wlr (ldSr _ K0.out) rfl ?_) | (with_reducible refine wlg (ldSr _ K0.out) (by with_unfolding_all rfl) rfl ?_) | (with_reducible refine wsh (stSr _ K2.out (t3)) rfl rfl ?_)); generalize hWN : setRow _ _ _ _ = WN; replace K2 := Lib.hid (show Blk WN _ _ _ by rw [← hWN]; exact Blk.row K2.out.lt); replace K0 := Lib.hid (show Blk WN _ _ _ by rw [← hWN]; exact Blk.rowOver (by omega) K0.out); replace K1 := Lib.hid (show Blk WN _ _ _ by rw [← hWN]; exact Blk.rowOver (by omega) K1.out); replace HB : Below w.heap.size w WN := (by rw [← hWN]; exact Below.row HB (by omega) HB.size); clear hWN k2 f2 l2 m2 k0 f0 l0 m0 k1 f1 l1 m1; obtain ⟨k2, f2, l2, m2⟩ := rl_ K2; obtain ⟨k0, f0, l0, m0⟩ := rl_ K0; obtain ⟨k1, f1, l1, m1⟩ := rl_ K1; unfold Halted)
  go_wp2_with fail
  exact bodyPost_ret (results_cell2 rfl rfl (ldSr _ K2.out)) rfl ⟨by rw [hS.out]; rfl, HB⟩
 | true =>
  have hS : S = tk := hA2.out
  replace hS := Lib.hid hS
  clear hA2
  go_wp2_with (first | (with_reducible refine wlr (ldSr _ K0.out) rfl ?_) | (with_reducible refine wlg (ldSr _ K0.out) (by with_unfolding_all rfl) rfl ?_) | (with_reducible refine wlr (ldUp _ K1.out) rfl ?_) | (with_reducible refine wlg (ldUp _ K1.out) (by with_unfolding_all rfl) rfl ?_))
  (refine (nt.out _).mono ?_; rintro e w9 ⟨rfl, hN⟩; replace K0 := hn_ K0 hN; replace K1 := hn_ K1 hN; replace K2 := hn_ K2 hN; replace HB : Below w.heap.size w w9 := Below.on hN HB; clear hN k0 f0 l0 m0 k1 f1 l1 m1 k2 f2 l2 m2; obtain ⟨k0, f0, l0, m0⟩ := rl_ K0; obtain ⟨k1, f1, l1, m1⟩ := rl_ K1; obtain ⟨k2, f2, l2, m2⟩ := rl_ K2)
  (go_wp2_with (first | (with_reducible refine wsh (stSr _ K0.out (tk)) rfl rfl ?_)); generalize hWN : setRow _ _ _ _ = WN; replace K0 := Lib.hid (show Blk WN _ _ _ by rw [← hWN]; exact Blk.row K0.out.lt); replace K1 := Lib.hid (show Blk WN _ _ _ by rw [← hWN]; exact Blk.rowOver (by omega) K1.out); replace K2 := Lib.hid (show Blk WN _ _ _ by rw [← hWN]; exact Blk.rowOver (by omega) K2.out); replace HB : Below w.heap.size w WN := (by rw [← hWN]; exact Below.row HB (by omega) HB.size); clear hWN k0 f0 l0 m0 k1 f1 l1 m1 k2 f2 l2 m2; obtain ⟨k0, f0, l0, m0⟩ := rl_ K0; obtain ⟨k1, f1, l1, m1⟩ := rl_ K1; obtain ⟨k2, f2, l2, m2⟩ := rl_ K2; unfold Halted)
  (go_wp2_with (first | (with_reducible refine wlr (ldSr _ K0.out) rfl ?_) | (with_reducible refine wlg (ldSr _ K0.out) (by with_unfolding_all rfl) rfl ?_) | (with_reducible refine wsh (stSr _ K2.out (tk)) rfl rfl ?_)); generalize hWN : setRow _ _ _ _ = WN; replace K2 := Lib.hid (show Blk WN _ _ _ by rw [← hWN]; exact Blk.row K2.out.lt); replace K0 := Lib.hid (show Blk WN _ _ _ by rw [← hWN]; exact Blk.rowOver (by omega) K0.out); replace K1 := Lib.hid (show Blk WN _ _ _ by rw [← hWN]; exact Blk.rowOver (by omega) K1.out); replace HB : Below w.heap.size w WN := (by rw [← hWN]; exact Below.row HB (by omega) HB.size); clear hWN k2 f2 l2 m2 k0 f0 l0 m0 k1 f1 l1 m1; obtain ⟨k2, f2, l2, m2⟩ := rl_ K2; obtain ⟨k0, f0, l0, m0⟩ := rl_ K0; obtain ⟨k1, f1, l1, m1⟩ := rl_ K1; unfold Halted)
  go_wp2_with fail
  exact bodyPost_ret (results_cell2 rfl rfl (ldSr _ K2.out)) rfl ⟨by rw [hS.out]; rfl, HB⟩
theorem rtext_calls (h : Hd) (slot : Nat) (w : World) (hh : HdIn w h) (hs : slot < 18446744073709551616) : Calls Tryz.prog 34 #[hdV h, .int .u64 slot] w (Ret w (.string (bs (textP h slot)))) := by
 have n1 := fun W (hB : Below w.heap.size w W) => rhroot_calls h W (hh.below hB)
 obtain ⟨q, hq⟩ : ∃ q, (max slot 1 - 1) / 128 = q := ⟨_, rfl⟩
 have hq2 : q < 18446744073709551616 := by omega
 obtain ⟨f, hf⟩ : ∃ f, min 2 q = f := ⟨_, rfl⟩
 have e3 : min (q : Int) 2 = (f : Int) := by omega
 have hf2 : f ≤ 2 := by omega
 have ht : textP h slot = sha (hdRoot h ++ numP (7 + f)) := by
  unfold textP forkP
  rw [hq, hf]
 rw [ht]
 have n2 : ∀ W, Calls Tryz.prog 91 #[.int .u64 (7 + (f : Int))] W (Ret W (.string (bs (numP (7 + f))))) := fun W => by
  have := rnumber_calls (7 + f) (by omega) W
  simpa using this
 have hl1 := hdRoot_len h
 have hl2 := numP_len (7 + f)
 have n3 := fun W => rsum_calls (hdRoot h ++ numP (7 + f)) (by rw [List.length_append]; omega) W
 generalize hdRoot h = r at *
 generalize hdE h = z at *
 generalize numP (7 + f) = y at *
 have K0 := Lib.hid (Blk.new0 w 24 (hdA h))
 replace n1 := Lib.hid n1
 replace n2 := Lib.hid n2
 replace n3 := Lib.hid n3
 have hl3 : y.length ≤ 32 := by omega
 clear ht hh hl2
 by_cases h0 : 0 < slot
 ·have e1 : (0 : Int) < (slot : Int) := by omega
  have e2 : ((slot : Int) - 1) / 128 = (q : Int) := by omega
  have e4 : 1 ≤ slot := h0
  clear hq hf h0
  go_enter Tryz.func34, Tryz.ntmps34
  go_wp2_with fail
  refine (n1.out _ bel).mono ?_
  rintro e w1 ⟨rfl, h1⟩
  have hB1 : Below w.heap.size w w1 := Below.on h1 bel
  clear h1
  go_wp2_with fail
  refine (n2.out _).mono ?_
  rintro e w2 ⟨rfl, h2⟩
  have hB2 := Below.on h2 hB1
  clear h2 hB1
  go_wp2_with fail
  refine (n3.out _).mono ?_
  rintro e w3 ⟨rfl, h3⟩
  go_wp2_with fail
  go_ret
  exact ⟨rfl, Below.on h3 hB2⟩
 ·obtain rfl : slot = 0 := by omega
  have e5 : min (0 : Int) 2 = (f : Int) := by omega
  clear hq hf h0 e3
  go_enter Tryz.func34, Tryz.ntmps34
  go_wp2_with fail
  refine (n1.out _ bel).mono ?_
  rintro e w1 ⟨rfl, h1⟩
  have hB1 : Below w.heap.size w w1 := Below.on h1 bel
  clear h1
  go_wp2_with fail
  refine (n2.out _).mono ?_
  rintro e w2 ⟨rfl, h2⟩
  have hB2 := Below.on h2 hB1
  clear h2 hB1
  go_wp2_with fail
  refine (n3.out _).mono ?_
  rintro e w3 ⟨rfl, h3⟩
  go_wp2_with fail
  go_ret
  exact ⟨rfl, Below.on h3 hB2⟩
theorem rlgslots_calls (s : Sr) (u : Up) (now : Nat) (hs : s.fin.b.slot < 18446744073709551616) (hu1 : u.seen.b.slot < 18446744073709551616) (hu2 : u.slot < 18446744073709551616) (hn : now < 18446744073709551616) (w : World) (hu : LtIn w u.fin) : Calls Tryz.prog 64 #[srV s, upV u, .int .u64 now] w (Ret w (.int .i64 (slotsE s u now))) := by
 have n1 := fun W (hB : Below w.heap.size w W) => risFinal_calls u W (hu.below hB)
 have hz := @not_final u
 have n3 := fun W => rknown_calls s.next W
 have n4 := fun W => rhasNext_calls u W
 have n5 := fun W => rperiod_q s.fin.b.slot hs W
 have n6 := fun W => rperiod_q u.seen.b.slot hu1 W
 have n7 := fun W => rperiod_q u.slot hu2 W
 have hE : slotsE s u now = if now < u.slot ∨ u.slot ≤ u.seen.b.slot ∨ u.seen.b.slot < finSlot u then 142 else if period u.slot ≠ period s.fin.b.slot ∧ laterP s u = false then 143 else if u.seen.b.slot ≤ s.fin.b.slot ∧ firstP s u = false then 144 else 0 := rfl
 have hF : firstP s u = (!knownP s.next && (hasNextP u && decide (period u.seen.b.slot = period s.fin.b.slot))) := rfl
 have hL : laterP s u = (knownP s.next && decide (period u.slot = period s.fin.b.slot + 1)) := rfl
 have hpl : period s.fin.b.slot < 18446744073709551615 := by unfold period; omega
 rw [fin_slot] at hE
 generalize slotsE s u now = E at *
 generalize firstP s u = F at *
 generalize laterP s u = L at *
 generalize isFinalP u = r1 at *
 generalize knownP s.next = kn at *
 generalize hasNextP u = hn' at *
 generalize period s.fin.b.slot = pf at *
 generalize period u.seen.b.slot = ps at *
 generalize period u.slot = pu at *
 have e1 : ((ps : Int) == (pf : Int)) = decide (ps = pf) := by rw [Bool.eq_iff_iff]; simp; omega
 have e2 : ((pu : Int) == (pf : Int) + 1) = decide (pu = pf + 1) := by rw [Bool.eq_iff_iff]; simp; omega
 generalize decide (ps = pf) = b1 at *
 generalize decide (pu = pf + 1) = b2 at *
 replace hE := Lib.hid hE
 replace hF := Lib.hid hF
 replace hL := Lib.hid hL
 replace n3 := Lib.hid n3
 replace n4 := Lib.hid n4
 replace n5 := Lib.hid n5
 replace n6 := Lib.hid n6
 replace n7 := Lib.hid n7
 replace n1 := Lib.hid n1
 replace hz := Lib.hid hz
 go_enter Tryz.func64, Tryz.ntmps64
 go_upto_region 1 with fail
 have HB : Below w.heap.size w ((w.alloc (.cells (srA s) 35)).alloc (.cells (upA u) 33)) := bel
 have K0 := (Blk.new0 w 35 (srA s)).alloc (.cells (upA u) 33)
 have K1 := Blk.new1 w (.cells (srA s) 35) 33 (upA u)
 obtain ⟨W, hW⟩ : ∃ W, ((w.alloc (.cells (srA s) 35)).alloc (.cells (upA u) 33)) = W := ⟨_, rfl⟩
 rw [hW] at HB K0 K1 ⊢
 clear hW
 have hgl : w.heap.size ≤ w.heap.size := Nat.le_refl _
 obtain ⟨g, hg⟩ : ∃ g, w.heap.size = g := ⟨_, rfl⟩
 rw [hg] at K0 K1 ⊢
 replace hgl : w.heap.size ≤ g := by omega
 replace K0 := Lib.hid K0
 replace K1 := Lib.hid K1
 clear hg
 (obtain ⟨k0, f0, l0, m0⟩ := rl_ K0; obtain ⟨k1, f1, l1, m1⟩ := rl_ K1)
 go_wp2_with (first | (with_reducible refine wlr (ldUp _ K1.out) rfl ?_) | (with_reducible refine wlg (ldUp _ K1.out) (by with_unfolding_all rfl) rfl ?_))
 (refine (n1.out _ HB).mono ?_; rintro e w1 ⟨rfl, hN⟩; replace K0 := hn_ K0 hN; replace K1 := hn_ K1 hN; replace HB : Below w.heap.size w w1 := Below.on hN HB; clear hN k0 f0 l0 m0 k1 f1 l1 m1; obtain ⟨k0, f0, l0, m0⟩ := rl_ K0; obtain ⟨k1, f1, l1, m1⟩ := rl_ K1)
 go_upto_if 12 with fail
 go_cut [7] (fun s7 wx => s7 = .int .u64 (u.fin.b.slot : Int) ∧ SuW w g s u wx)
 case first =>
  cases r1 with
  | false =>
   have hz2 := hz.out rfl
   go_wp2_with fail
   go_meet
   case rel => exact ⟨by rw [hz2]; rfl, K0.out, K1.out, HB⟩
  | true =>
   go_wp2_with fail
   go_meet
   case rel => exact ⟨rfl, K0.out, K1.out, HB⟩
 case rest =>
  obtain ⟨rfl, hW⟩ := hcut
  have j0 := Lib.hid hW.1
  have j1 := Lib.hid hW.2.1
  have HBn := hW.2.2
  clear hW k0 f0 l0 m0 k1 f1 l1 m1 K0 K1 HB
  have K0 := j0; have K1 := j1; have HB := HBn
  clear j0 j1 HBn
  (obtain ⟨k0, f0, l0, m0⟩ := rl_ K0; obtain ⟨k1, f1, l1, m1⟩ := rl_ K1)
  clear n1 hz hu
  by_cases h1 : now < u.slot
  ·have h1i : (now : Int) < (u.slot : Int) := by omega
   have hv : E = 142 := by rw [hE.out, if_pos (by omega)]
   replace hv := Lib.hid hv
   clear h1 hE
   go_wp2_with fail
   go_ret
   exact ⟨by rw [hv.out]; rfl, HB⟩
  ·have h1i : ¬ (now : Int) < (u.slot : Int) := by omega
   by_cases h2 : u.slot ≤ u.seen.b.slot
   ·have h2i : (u.slot : Int) ≤ (u.seen.b.slot : Int) := by omega
    have hv : E = 142 := by rw [hE.out, if_pos (by omega)]
    replace hv := Lib.hid hv
    clear h1 h2 hE
    go_wp2_with fail
    go_ret
    exact ⟨by rw [hv.out]; rfl, HB⟩
   ·have h2i : ¬ (u.slot : Int) ≤ (u.seen.b.slot : Int) := by omega
    by_cases h3 : u.seen.b.slot < u.fin.b.slot
    ·have h3i : (u.seen.b.slot : Int) < (u.fin.b.slot : Int) := by omega
     have hv : E = 142 := by rw [hE.out, if_pos (by omega)]
     replace hv := Lib.hid hv
     clear h1 h2 h3 hE
     go_wp2_with fail
     go_ret
     exact ⟨by rw [hv.out]; rfl, HB⟩
    ·have h3i : ¬ (u.seen.b.slot : Int) < (u.fin.b.slot : Int) := by omega
     have hE2 := hE.out
     rw [if_neg (by omega)] at hE2
     replace hE2 := Lib.hid hE2
     clear h1 h2 h3 hE
     go_wp2_with fail
     refine (n5.out _).mono ?_
     rintro e w5 ⟨rfl, rfl⟩
     go_wp2_with fail
     refine (n7.out _).mono ?_
     rintro e w6 ⟨rfl, rfl⟩
     by_cases h4 : pu = pf
     ·have h4i : ((pu : Int) != (pf : Int)) = false := by simp; omega
      have hE3 := hE2.out
      rw [if_neg (fun h => h.1 h4)] at hE3
      replace hE3 := Lib.hid hE3
      clear hE2 h4
      by_cases h5 : u.seen.b.slot ≤ s.fin.b.slot
      ·have h5i : (u.seen.b.slot : Int) ≤ (s.fin.b.slot : Int) := by omega
       have hE4 := hE3.out
       rw [hF.out] at hE4
       cases kn with
       | true =>
        have hv : E = 144 := by rw [hE4, if_pos ⟨h5, rfl⟩]
        replace hv := Lib.hid hv
        clear hE3 hE4 h5 hF
        go_wp2_with fail
        (refine (n3.out _).mono ?_; rintro e w7 ⟨rfl, hN⟩; replace K0 := hn_ K0 hN; replace K1 := hn_ K1 hN; replace HB : Below w.heap.size w w7 := Below.on hN HB; clear hN k0 f0 l0 m0 k1 f1 l1 m1; obtain ⟨k0, f0, l0, m0⟩ := rl_ K0; obtain ⟨k1, f1, l1, m1⟩ := rl_ K1)
        go_wp2_with fail
        go_ret
        exact ⟨by rw [hv.out]; rfl, HB⟩
       | false =>
        cases hn' with
        | false =>
         have hv : E = 144 := by rw [hE4, if_pos ⟨h5, rfl⟩]
         replace hv := Lib.hid hv
         clear hE3 hE4 h5 hF
         go_wp2_with fail
         (refine (n3.out _).mono ?_; rintro e w7 ⟨rfl, hN⟩; replace K0 := hn_ K0 hN; replace K1 := hn_ K1 hN; replace HB : Below w.heap.size w w7 := Below.on hN HB; clear hN k0 f0 l0 m0 k1 f1 l1 m1; obtain ⟨k0, f0, l0, m0⟩ := rl_ K0; obtain ⟨k1, f1, l1, m1⟩ := rl_ K1)
         go_wp2_with (first | (with_reducible refine wlr (ldUp _ K1.out) rfl ?_) | (with_reducible refine wlg (ldUp _ K1.out) (by with_unfolding_all rfl) rfl ?_))
         (refine (n4.out _).mono ?_; rintro e w8 ⟨rfl, hN⟩; replace K0 := hn_ K0 hN; replace K1 := hn_ K1 hN; replace HB : Below w.heap.size w w8 := Below.on hN HB; clear hN k0 f0 l0 m0 k1 f1 l1 m1; obtain ⟨k0, f0, l0, m0⟩ := rl_ K0; obtain ⟨k1, f1, l1, m1⟩ := rl_ K1)
         go_wp2_with fail
         go_ret
         exact ⟨by rw [hv.out]; rfl, HB⟩
        | true =>
         cases b1 with
         | false =>
          have hv : E = 144 := by rw [hE4, if_pos ⟨h5, rfl⟩]
          replace hv := Lib.hid hv
          clear hE3 hE4 h5 hF
          go_wp2_with fail
          (refine (n3.out _).mono ?_; rintro e w7 ⟨rfl, hN⟩; replace K0 := hn_ K0 hN; replace K1 := hn_ K1 hN; replace HB : Below w.heap.size w w7 := Below.on hN HB; clear hN k0 f0 l0 m0 k1 f1 l1 m1; obtain ⟨k0, f0, l0, m0⟩ := rl_ K0; obtain ⟨k1, f1, l1, m1⟩ := rl_ K1)
          go_wp2_with (first | (with_reducible refine wlr (ldUp _ K1.out) rfl ?_) | (with_reducible refine wlg (ldUp _ K1.out) (by with_unfolding_all rfl) rfl ?_))
          (refine (n4.out _).mono ?_; rintro e w8 ⟨rfl, hN⟩; replace K0 := hn_ K0 hN; replace K1 := hn_ K1 hN; replace HB : Below w.heap.size w w8 := Below.on hN HB; clear hN k0 f0 l0 m0 k1 f1 l1 m1; obtain ⟨k0, f0, l0, m0⟩ := rl_ K0; obtain ⟨k1, f1, l1, m1⟩ := rl_ K1)
          go_wp2_with fail
          refine (n6.out _).mono ?_
          rintro e w9 ⟨rfl, rfl⟩
          go_wp2_with fail
          go_ret
          exact ⟨by rw [hv.out]; rfl, HB⟩
         | true =>
          have hv : E = 0 := by rw [hE4, if_neg (fun h => by cases h.2)]
          replace hv := Lib.hid hv
          clear hE3 hE4 h5 hF
          go_wp2_with fail
          (refine (n3.out _).mono ?_; rintro e w7 ⟨rfl, hN⟩; replace K0 := hn_ K0 hN; replace K1 := hn_ K1 hN; replace HB : Below w.heap.size w w7 := Below.on hN HB; clear hN k0 f0 l0 m0 k1 f1 l1 m1; obtain ⟨k0, f0, l0, m0⟩ := rl_ K0; obtain ⟨k1, f1, l1, m1⟩ := rl_ K1)
          go_wp2_with (first | (with_reducible refine wlr (ldUp _ K1.out) rfl ?_) | (with_reducible refine wlg (ldUp _ K1.out) (by with_unfolding_all rfl) rfl ?_))
          (refine (n4.out _).mono ?_; rintro e w8 ⟨rfl, hN⟩; replace K0 := hn_ K0 hN; replace K1 := hn_ K1 hN; replace HB : Below w.heap.size w w8 := Below.on hN HB; clear hN k0 f0 l0 m0 k1 f1 l1 m1; obtain ⟨k0, f0, l0, m0⟩ := rl_ K0; obtain ⟨k1, f1, l1, m1⟩ := rl_ K1)
          go_wp2_with fail
          refine (n6.out _).mono ?_
          rintro e w9 ⟨rfl, rfl⟩
          go_wp2_with fail
          go_ret
          exact ⟨by rw [hv.out]; rfl, HB⟩
      ·have h5i : ¬ (u.seen.b.slot : Int) ≤ (s.fin.b.slot : Int) := by omega
       have hv : E = 0 := by rw [hE3.out, if_neg (fun h => h5 h.1)]
       replace hv := Lib.hid hv
       clear hE3 hF
       go_wp2_with fail
       go_ret
       exact ⟨by rw [hv.out]; rfl, HB⟩
     ·have h4i : ((pu : Int) != (pf : Int)) = true := by simp; omega
      have hE3 := hE2.out
      rw [hL.out] at hE3
      cases kn with
      | false =>
       have hv : E = 143 := by rw [hE3, if_pos ⟨h4, rfl⟩]
       replace hv := Lib.hid hv
       clear hE2 hE3 h4 hF
       go_wp2_with fail
       (refine (n3.out _).mono ?_; rintro e w7 ⟨rfl, hN⟩; replace K0 := hn_ K0 hN; replace K1 := hn_ K1 hN; replace HB : Below w.heap.size w w7 := Below.on hN HB; clear hN k0 f0 l0 m0 k1 f1 l1 m1; obtain ⟨k0, f0, l0, m0⟩ := rl_ K0; obtain ⟨k1, f1, l1, m1⟩ := rl_ K1)
       go_wp2_with fail
       go_ret
       exact ⟨by rw [hv.out]; rfl, HB⟩
      | true =>
       cases b2 with
       | false =>
        have hv : E = 143 := by rw [hE3, if_pos ⟨h4, rfl⟩]
        replace hv := Lib.hid hv
        clear hE2 hE3 h4 hF
        go_wp2_with fail
        (refine (n3.out _).mono ?_; rintro e w7 ⟨rfl, hN⟩; replace K0 := hn_ K0 hN; replace K1 := hn_ K1 hN; replace HB : Below w.heap.size w w7 := Below.on hN HB; clear hN k0 f0 l0 m0 k1 f1 l1 m1; obtain ⟨k0, f0, l0, m0⟩ := rl_ K0; obtain ⟨k1, f1, l1, m1⟩ := rl_ K1)
        go_wp2_with fail
        go_ret
        exact ⟨by rw [hv.out]; rfl, HB⟩
       | true =>
        rw [if_neg (fun h => by cases h.2)] at hE3
        replace hE3 := Lib.hid hE3
        clear hE2 h4
        go_wp2_with fail
        (refine (n3.out _).mono ?_; rintro e w7 ⟨rfl, hN⟩; replace K0 := hn_ K0 hN; replace K1 := hn_ K1 hN; replace HB : Below w.heap.size w w7 := Below.on hN HB; clear hN k0 f0 l0 m0 k1 f1 l1 m1; obtain ⟨k0, f0, l0, m0⟩ := rl_ K0; obtain ⟨k1, f1, l1, m1⟩ := rl_ K1)
        by_cases h5 : u.seen.b.slot ≤ s.fin.b.slot
        ·have h5i : (u.seen.b.slot : Int) ≤ (s.fin.b.slot : Int) := by omega
         have hE4 := hE3.out
         rw [hF.out] at hE4
         have hv : E = 144 := by rw [hE4, if_pos ⟨h5, rfl⟩]
         replace hv := Lib.hid hv
         clear hE3 hE4 h5 hF
         go_wp2_with fail
         (refine (n3.out _).mono ?_; rintro e w7 ⟨rfl, hN⟩; replace K0 := hn_ K0 hN; replace K1 := hn_ K1 hN; replace HB : Below w.heap.size w w7 := Below.on hN HB; clear hN k0 f0 l0 m0 k1 f1 l1 m1; obtain ⟨k0, f0, l0, m0⟩ := rl_ K0; obtain ⟨k1, f1, l1, m1⟩ := rl_ K1)
         go_wp2_with fail
         go_ret
         exact ⟨by rw [hv.out]; rfl, HB⟩
        ·have h5i : ¬ (u.seen.b.slot : Int) ≤ (s.fin.b.slot : Int) := by omega
         have hv : E = 0 := by rw [hE3.out, if_neg (fun h => h5 h.1)]
         replace hv := Lib.hid hv
         clear hE3 hF
         go_wp2_with fail
         go_ret
         exact ⟨by rw [hv.out]; rfl, HB⟩
theorem rlgkeys_calls (c : Cm) (n : Nat) (hn : n < 18446744073709551616) (w : World) (hc : CmIn w c) : Calls Tryz.prog 32 #[cmV c, .int .u64 n] w (fun e w' => ∃ A cp, e = .returned (.slice A (keysP c.ks.l n).length cp) ∧ Txts w' A (keysP c.ks.l n) ∧ Below w.heap.size w w') := by
 have K0 := Lib.hid (Blk.new0 w 31 (cmA c))
 have HB : Below w.heap.size w (w.alloc (.cells (cmA c) 31)) := bel
 obtain ⟨W, hW⟩ : ∃ W, w.alloc (.cells (cmA c) 31) = W := ⟨_, rfl⟩
 rw [hW] at K0 HB
 obtain ⟨g, hg⟩ : ∃ g, w.heap.size = g := ⟨_, rfl⟩
 rw [hg] at K0
 have T1 := Lib.hid (Txts.below hc.1.1 HB)
 have hal := Lib.hid (keysK_all c.ks.l n)
 (obtain ⟨k0, f0, l0, m0⟩ := rl_ K0)
 go_enter Tryz.func32, Tryz.ntmps32
 go_upto_region 3 with fail
 clear hW hg k0 f0 l0 m0
 go_wp2_with fail
 go_loopw [5, 6] (fun u i wr => ∃ (v : Value) (k : Nat), v = u ∧ k ≤ 16 ∧ k ≤ c.ks.l.length ∧ i = .int .i64 k ∧ LRow W.heap.size wr v (keysK c.ks.l n k) ∧ Below W.heap.size W wr) (fun _ i _ => (16 - intOf i).toNat)
 case atStart => exact ⟨_, 0, rfl, by omega, by omega, rfl, World.ownsRow_nil _ _ _ _, Below.refl _ _⟩
 case round =>
  obtain ⟨v, k, rfl, hk3, hkl, rfl, OWN, HBr⟩ := hrel
  have K2 := Lib.hid (K0.out.below HBr)
  have HBw := Below.on HBr HB
  have hqk := keysK_len c.ks.l n k
  by_cases hlt : k < 16
  ·by_cases hkR : k < c.ks.l.length
   ·have hl1 : (k : Int) < (c.ks.l.length : Int) := by omega
    obtain ⟨b9, o9, hb9, hb2, hcell⟩ := Txts.at (Txts.below T1.out HBr) k hkR
    have hst := keysK_succ c.ks.l n k hkR
    have hm : n / 2 ^ k < 18446744073709551616 := Nat.lt_of_le_of_lt (Nat.div_le_self _ _) hn
    have hsh : (n : Int) / 2 ^ k = ((n / 2 ^ k : Nat) : Int) := by simp
    generalize n / 2 ^ k = m at *
    have hand := and_one m hm
    generalize c.ks.l.getD k [] = y at *
    obtain ⟨q, hq⟩ : ∃ q, keysK c.ks.l n k = q := ⟨_, rfl⟩
    rw [hq] at OWN hst hqk
    replace hq := Lib.hid hq
    replace OWN := Lib.hid OWN
    (obtain ⟨k2, f2, l2, m2⟩ := rl_ K2)
    rcases Nat.mod_two_eq_zero_or_one m with hm2 | hm2
    ·rw [hm2] at hand hst
     rw [if_neg (by omega), List.append_nil] at hst
     replace hst := Lib.hid hst
     clear hm2
     go_wp2_with fail
     go_roundw
     case rel => exact ⟨_, k + 1, rfl, by omega, by omega, by go_num, by rw [hst.out]; exact OWN.out, HBr⟩
     case measure => simp [intOf]; omega
    ·rw [hm2] at hand hst
     rw [if_pos rfl] at hst
     replace hst := Lib.hid hst
     clear hm2
     go_wp2_with (at_builtin; refine wpList_append_txt rfl _ _ rfl W.heap.size v q rfl (OWN.out.on _) y ⟨wr.heap.size, 0, none⟩ rfl (new_cell _ _ _) (by omega) (by have := HBr.size; simp; omega) ?_)
     intro v4 w4 OWN4 hg4 hx4
     have HB4 := below_app (HBr.alloc HBr.size _) (OWN.out.on _) hg4
     go_wp2_with fail
     go_roundw
     case rel => exact ⟨_, k + 1, rfl, by omega, by omega, by go_num, by rw [hst.out]; exact OWN4, HB4⟩
     case measure => simp [intOf]; omega
   ·have hl1 : ¬ (k : Int) < (c.ks.l.length : Int) := by omega
    have hq := hal.out k hk3 (.inr (by omega))
    rw [hq] at OWN
    obtain ⟨A5, c5, rfl, T5⟩ := OWN.txts
    (obtain ⟨k2, f2, l2, m2⟩ := rl_ K2)
    go_wp2_with fail
    go_ret
    first | exact ⟨_, rfl, T5, HBw⟩ | exact ⟨_, ⟨rfl, _, rfl⟩, T5, HBw⟩ | exact ⟨_, ⟨_, rfl⟩, T5, HBw⟩ | exact ⟨_, ⟨rfl, ⟨_, rfl⟩⟩, T5, HBw⟩ | exact ⟨_, rfl, ⟨_, rfl⟩, T5, HBw⟩
  ·obtain rfl : k = 16 := by omega
   have hl1 : ((c.ks.l.length : Int) ≤ 16) ∨ ¬ (c.ks.l.length : Int) ≤ 16 := by omega
   have hq := hal.out 16 hk3 (.inl rfl)
   rw [hq] at OWN
   obtain ⟨A5, c5, rfl, T5⟩ := OWN.txts
   (obtain ⟨k2, f2, l2, m2⟩ := rl_ K2)
   rcases hl1 with hl1 | hl1
   all_goals
    go_wp2_with fail
    go_ret
    first | exact ⟨_, rfl, T5, HBw⟩ | exact ⟨_, ⟨rfl, _, rfl⟩, T5, HBw⟩ | exact ⟨_, ⟨_, rfl⟩, T5, HBw⟩ | exact ⟨_, ⟨rfl, ⟨_, rfl⟩⟩, T5, HBw⟩ | exact ⟨_, rfl, ⟨_, rfl⟩, T5, HBw⟩
end Go.Proofs.YtegaaccioppfjaaGreatDoor
end
