/- Powers: the iterator over a number's bits, the program's power, the reference's. Any two numbers. -/
import Derived.Test.YtpmmjomejackkaaFld1
namespace Go.Proofs.Ytpmmjomejackkaa
open Go.RowKit Go.Phx Go.Shelf
attribute [local go_sem] Oper.semAt_some


theorem bit_and (x : Int) (hx : 0 ≤ x) (hx2 : x ≤ 18446744073709551615) (i : Nat) : (bits BinOp.and IntKind.u64 (x / 2 ^ i) 1 == 1) = bitAt x i := by
  have h1 : 0 ≤ x / 2 ^ i := Int.ediv_nonneg hx (Int.le_of_lt (Int.pow_pos (by decide)))
  have h2 : x / 2 ^ i ≤ x := Int.ediv_le_self _ hx
  rw [and_one_u64 _ h1 (by omega)]
  unfold bitAt
  by_cases h : x / 2 ^ i % 2 = 1 <;> simp [h]

set_option maxRecDepth 100000 in
set_option maxHeartbeats 2000000 in
theorem fdigits1_in (F : Fence) (n : Nat) (h7 : F.fn 79) (hro : F.round = none) (hn : 1 ≤ n) (l Bs : Nat) (x : Int) (hx : 0 ≤ x) (hx2 : x ≤ 18446744073709551615) (J Jx : List Bool → World → Prop)
    (hY : ∀ pre x W, J pre W → pre.length < 64 → YieldAt F (n - 1) Try.prog l #[.bool x] W fun e W' =>
      (e = .returned (.bool true) ∧ J (pre ++ [x]) W' ∧ KeepB Bs W W') ∨ (e = .returned (.bool false) ∧ Jx (pre ++ [x]) W'))
    (W : World) (hBs : W.cell? ⟨Bs, 0, none⟩ = some (.int .u64 x)) (h0 : J [] W) :
    CallsIn F n Try.prog 79 #[.func (.yield l) #[] #[], .pointer (some ⟨Bs, 0, none⟩)] W fun e W' => (∃ v, e = .returned v) ∧
      ((∃ ys, ys = bitsUp x 64 ∧ J ys W') ∨ (∃ pre, (∃ k, k ≤ 64 ∧ pre = bitsUp x k) ∧ Jx pre W')) := by
  have hbit := bit_and x hx hx2
  clear hx2
  refine callsIn_of_wp Try.func79 rfl h7 ?_ hro
  simp only [Try.ntmps79, List.size_toArray, List.length_cons, List.length_nil, Nat.reduceAdd, Nat.reduceSub, Array.replicate_succ, Array.replicate_zero, List.push_toArray, List.append_toArray, List.nil_append, List.cons_append]
  gi_wp2
  gi_loopw [3] (fun i wr => ∃ k : Nat, k ≤ 64 ∧ i = .int .i64 (63 - k) ∧ J (bitsUp x k) wr ∧ KeepB Bs W wr)
    (fun i _ => (intOf i + 1).toNat)
  case atStart => exact ⟨0, Nat.zero_le _, by simp, h0, KeepB.refl _ _⟩
  case round =>
    obtain ⟨k, hk, rfl, hJs, hnx⟩ := hrel
    have hcx : wr.cell? ⟨Bs, 0, none⟩ = some (.int .u64 x) := (hnx.cell 0).trans hBs
    by_cases hlt : k < 64
    · obtain ⟨fn, tmps, assign, body, hy, hR⟩ := hY _ (bitAt x (63 - k)) wr hJs (by rw [bitsUp_length]; exact hlt)
      gi_wp2
      refine hR.mono ?_
      rintro e W3 (⟨rfl, hJ3, hk3⟩ | ⟨rfl, hJx3⟩)
      · gi_wp2
        go_roundw
        case rel => exact ⟨k + 1, by omega, by congr 1; omega, by rw [bitsUp_succ]; exact hJ3, hnx.trans hk3⟩
        case measure => simp [intOf]; omega
      · gi_wp2
        refine bodyPost_ret (results_none rfl _ _ _) rfl ?_
        exact ⟨⟨_, rfl⟩, .inr ⟨_, ⟨k + 1, by omega, (bitsUp_succ _ _).symm⟩, hJx3⟩⟩
    · obtain rfl : k = 64 := by omega
      gi_wp2
      go_end0
      exact ⟨⟨_, rfl⟩, .inl ⟨_, rfl, hJs⟩⟩

theorem bitsUp_prefix (x : Int) (k : Nat) (hk : k ≤ 64) : bitsUp x k <+: bitsUp x 64 := by
  have h : ∀ m, bitsUp x k <+: bitsUp x (k + m) := by
    intro m
    unfold bitsUp
    rw [List.range_add, List.map_append]
    exact List.prefix_append _ _
  have := h (64 - k)
  rwa [show k + (64 - k) = 64 by omega] at this

theorem fdigits_stops (F : Fence) (n : Nat) (h7 : F.fn 79) (hro : F.round = none) (hn : 1 ≤ n) (Bs : Nat) (x : Int) (hx : 0 ≤ x) (hx2 : x ≤ 18446744073709551615) (w : World) (hBs : Bs < w.heap.size)
    (hc : w.cell? ⟨Bs, 0, none⟩ = some (.int .u64 x)) :
    SeqStopsK F n Try.prog 79 #[.pointer (some ⟨Bs, 0, none⟩)] (fun b : Bool => #[Value.bool b]) (KeepB Bs) (fun ys => ys = bitsUp x 64) (fun pre => pre <+: bitsUp x 64) 64 w := fun l J Jx W hW _ _ hY h0 => by
  refine (fdigits1_in F n h7 hro hn l Bs x hx hx2 J Jx hY W ((hW.cell (p := ⟨Bs, 0, none⟩) hBs).trans hc) h0).mono ?_
  rintro e W' ⟨he, ⟨ys, rfl, hj⟩ | ⟨pre, ⟨k, hk, rfl⟩, hj⟩⟩
  · exact ⟨he, .inl ⟨_, rfl, hj⟩⟩
  · exact ⟨he, .inr ⟨_, bitsUp_prefix x k hk, hj⟩⟩

theorem fdigits_in (F : Fence) (n : Nat) (h5 : F.fn 61) (hro : F.round = none) (x : Int) (w : World) :
    CallsIn F n Try.prog 61 #[.int .u64 x] w fun e w' => e = .returned (.func (.func 79) #[] #[.pointer (some ⟨w.heap.size, 0, none⟩)]) ∧ w' = w.alloc (.cells #[.int .u64 x] 22) := by
  refine callsIn_of_wp Try.func61 rfl h5 ?_ hro
  simp only [Try.ntmps61, List.size_toArray, List.length_cons, List.length_nil, Nat.reduceAdd, Nat.reduceSub, Array.replicate_succ, Array.replicate_zero, List.push_toArray, List.append_toArray, List.nil_append, List.cons_append]
  gi_wp2
  go_ret
  exact ⟨rfl, rfl⟩

set_option maxRecDepth 100000 in
set_option maxHeartbeats 2000000 in
theorem pow_calls (a x : Int) (ha : 0 ≤ a) (hx : 0 ≤ x) (hx2 : x ≤ 18446744073709551615) (w : World) :
    Calls Try.prog 24 #[.int .u64 a, .int .u64 x] w (Ret w (.int .u64 (vz (pw (zf a) x.toNat)))) := by
  refine (callsIn_wide (n := 9)).1 ?_
  have hwf : ∀ f, Fence.wide.fn f := fun _ => trivial
  refine callsIn_of_wp_marks Try.func24 rfl trivial ?_ rfl
  simp only [Try.ntmps24, List.size_toArray, List.length_cons, List.length_nil, Nat.reduceAdd, Nat.reduceSub, Array.replicate_succ, Array.replicate_zero, List.push_toArray, List.append_toArray, List.nil_append, List.cons_append]
  gi_wp2_with (gi_at_call 61; refine (fdigits_in Fence.wide _ trivial rfl _ _).mono ?_; rintro e w' ⟨rfl, rfl⟩)
  obtain ⟨W0, hW0⟩ : ∃ W0, ((w.alloc (.cells #[.int .u64 a] 22)).alloc (.cells #[.int .u64 1] 22)).alloc (.cells #[.int .u64 x] 22) = W0 := ⟨_, rfl⟩
  have hs0 : W0.heap.size = w.heap.size + 3 := by rw [← hW0]; simp [go_sem]
  have hB0 : Below w.heap.size w W0 := by rw [← hW0]; exact (((Below.refl _ w).alloc (Nat.le_refl _) _).alloc (by simp) _).alloc (by simp; omega) _
  have ca : W0.cell? ⟨w.heap.size, 0, none⟩ = some (.int .u64 a) := by rw [← hW0]; simp [go_sem]
  have co : W0.cell? ⟨w.heap.size + 1, 0, none⟩ = some (.int .u64 1) := by rw [← hW0]; simp [go_sem]
  have fo : W0.frozen? ⟨w.heap.size + 1, 0, none⟩ = false := by rw [← hW0]; simp [go_sem]
  have cx : W0.cell? ⟨w.heap.size + 1 + 1, 0, none⟩ = some (.int .u64 x) := by rw [← hW0]; simp [go_sem]
  rw [hW0]
  have hf := enters_of Try.func79 (by kernel_rfl) rfl
  clear hW0
  refine wpIn_rangeFunc_ownF rfl (by decide) (gf := 79) (lb := #[.pointer (some ⟨w.heap.size + 1 + 1, 0, none⟩)]) rfl trivial hf
    (fdigits_stops Fence.wide _ trivial rfl (by decide) (w.heap.size + 1 + 1) x hx hx2 W0 (by omega) cx) keepB_t (keepB_b (by omega)) (Below.refl _ _) (fun _ => rfl)
    (fun pre W => (W.cell? ⟨w.heap.size, 0, none⟩ = some (.int .u64 a) ∧ W.cell? ⟨w.heap.size + 1, 0, none⟩ = some (.int .u64 (vz (powBits (zf a) pre))) ∧ W.frozen? ⟨w.heap.size + 1, 0, none⟩ = false) ∧ Below w.heap.size w W)
    (fun _ _ _ => False)
    (OwnFrom.and (Own.from (fun s A B row hs hg hr => ⟨cell_kept hs.1 hg hr, cell_kept hs.2.1 hg hr, (frozen_kept hs.2.1 hg hr).trans hs.2.2⟩) _) (ownFrom_below (Nat.le_refl _) (by omega)))
    (fun _ _ _ _ _ hs _ _ => hs)
    ⟨⟨ca, co, fo⟩, hB0⟩
    (fun y => { tmps := #[.int .u64 a, .int .u64 x, .pointer (some ⟨w.heap.size, 0, none⟩), undef, .int .u64 0, .pointer (some ⟨w.heap.size + 1, 0, none⟩), .bool y, .int .u64 x, .func (.func 79) #[] #[.pointer (some ⟨w.heap.size + 1 + 1, 0, none⟩)], .bool y, undef, undef, undef, undef, undef, undef, undef, undef], defers := [] }) ?assign ?body ?done ?stop
  case assign =>
    intro l x W K hK
    gi_wp2
    exact hK
  case body =>
    rintro l pre y W ⟨⟨hca, hco, hfo⟩, hB⟩ _
    cases y
    · gi_wp2_with (gi_at_call 21; refine (CallsIn.inRound l (callsIn_wide.2 (mul_calls _ _ (vz_nonneg _) (vz_nonneg _) _))).mono ?_; rintro e w' ⟨rfl, rfl⟩)
      exact ⟨KeepsOthers.setCell _ _ _, KeepB.setCell (by simp) _, ⟨by simp [go_sem, hca], by simp [go_sem, hco, powBits_snoc], by simp [go_sem, hfo]⟩, hB.setCell (p := ⟨w.heap.size + 1, 0, none⟩) (by simp) _⟩
    · gi_wp2_with (gi_at_call 21; refine (CallsIn.inRound l (callsIn_wide.2 (mul_calls _ _ (vz_nonneg _) (by first | exact vz_nonneg _ | exact ha) _))).mono ?_; rintro e w' ⟨rfl, rfl⟩)
      exact ⟨(KeepsOthers.setCell _ _ _).trans (KeepsOthers.setCell _ _ _), (KeepB.setCell (by simp) _).trans (KeepB.setCell (by simp) _), ⟨by simp [go_sem, hca], by simp [go_sem, hco, powBits_snoc], by simp [go_sem, hfo]⟩, (hB.setCell (p := ⟨w.heap.size + 1, 0, none⟩) (by simp) _).setCell (p := ⟨w.heap.size + 1, 0, none⟩) (by simp) _⟩
  case done =>
    rintro D ys W hD rfl ⟨⟨_, hco, _⟩, hB⟩ hK
    rw [powBits_all _ _ hx hx2] at hco
    gi_wp2
    refine ⟨by simp, .inl ⟨_, _, rfl, run_takeDeferred hK, ?_⟩⟩
    exact ⟨_, results_tmp rfl _ _ _, rfl, below_shut hB (Nat.le_refl _) (by omega)⟩
  case stop =>
    rintro D c pre W _ _ h _
    exact h.elim

-- the reference, a plain loop
set_option maxRecDepth 100000 in
set_option maxHeartbeats 1000000 in
theorem rpow_calls (a x : Int) (ha : 0 ≤ a) (hx : 0 ≤ x) (hx2 : x ≤ 18446744073709551615) (w : World) :
    Calls Try.prog 30 #[.int .u64 a, .int .u64 x] w fun e w' => e = .returned (.int .u64 (vz (pw (zf a) x.toNat))) ∧ w = w' := by
  have hbit := bit_and x hx hx2
  have hall := Lib.hid (powBits_all (zf a) x hx hx2)
  clear hx2
  go_enter Try.func30, Try.ntmps30
  go_wp2
  go_loop [5, 6] (fun o i => ∃ k : Nat, k ≤ 64 ∧ i = .int .i64 (63 - k) ∧ o = .int .u64 (vz (powBits (zf a) (bitsUp x k)))) (fun _ i => (intOf i + 1).toNat)
  case atStart => exact ⟨0, Nat.zero_le _, by simp, rfl⟩
  case round =>
    obtain ⟨k, hk, rfl, rfl⟩ := hrel
    by_cases hlt : k < 64
    · cases hb : bitAt x (63 - k)
      all_goals
        have HS := Lib.hid (bitsUp_succ x k)
        go_wp2_with (go_at_call 29; refine (rmul_calls _ _ (vz_nonneg _) (by first | exact vz_nonneg _ | exact ha) _).mono ?_; rintro e w' ⟨rfl, rfl⟩)
        go_round
        case rel => exact ⟨k + 1, by omega, by congr 1; omega, by rw [HS.out, powBits_snoc, hb]; rfl⟩
        case measure => simp [intOf]; omega
    · obtain rfl : k = 64 := by omega
      go_wp2
      go_ret
      exact ⟨ret_u64 (congrArg vz hall.out), rfl⟩
end Go.Proofs.Ytpmmjomejackkaa
