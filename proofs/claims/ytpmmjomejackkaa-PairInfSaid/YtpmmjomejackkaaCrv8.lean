/- A number's bits from the highest that is set, by the curve's package. -/
import Derived.Test.YtpmmjomejackkaaFldU
import Derived.Test.YtpmmjomejackkaaPts
set_option linter.unusedSimpArgs false
set_option linter.unusedVariables false
namespace Go.Proofs.Ytpmmjomejackkaa
open Go.RowKit Go.Phx Go.Shelf
attribute [local go_sem] Oper.semAt_some

theorem bitsTop_prefix (x : Int) (k : Nat) (hk : k ≤ 64) : bitsTop x k <+: bitsTop x 64 := by
  have h : ∀ m, bitsTop x k <+: bitsTop x (k + m) := by
    intro m
    induction m with
    | zero => exact List.prefix_rfl
    | succ m ih =>
      by_cases hs : 0 < x / 2 ^ (63 - (k + m))
      · rw [show k + (m + 1) = (k + m) + 1 from rfl, bitsTop_set x _ hs]
        exact ih.trans (List.prefix_append _ _)
      · rw [show k + (m + 1) = (k + m) + 1 from rfl, bitsTop_unset x _ hs]
        exact ih
  have := h (64 - k)
  rwa [show k + (64 - k) = 64 by omega] at this

set_option maxRecDepth 100000 in
set_option maxHeartbeats 4000000 in
theorem cdigits1_in (F : Fence) (n : Nat) (h7 : F.fn 87) (hro : F.round = none) (hn : 1 ≤ n) (l Bs : Nat) (x : Int) (hx : 0 ≤ x) (hx2 : x ≤ 18446744073709551615) (J Jx : List Bool → World → Prop)
    (hY : ∀ pre x W, J pre W → pre.length < 64 → YieldAt F (n - 1) Try.prog l #[.bool x] W fun e W' =>
      (e = .returned (.bool true) ∧ J (pre ++ [x]) W' ∧ KeepB Bs W W') ∨ (e = .returned (.bool false) ∧ Jx (pre ++ [x]) W'))
    (W : World) (hBs : W.cell? ⟨Bs, 0, none⟩ = some (.int .u64 x)) (h0 : J [] W) :
    CallsIn F n Try.prog 87 #[.func (.yield l) #[] #[], .pointer (some ⟨Bs, 0, none⟩)] W fun e W' => (∃ v, e = .returned v) ∧
      ((∃ ys, ys = bitsTop x 64 ∧ J ys W') ∨ (∃ pre, (∃ k, k ≤ 64 ∧ pre = bitsTop x k) ∧ Jx pre W')) := by
  have hbit := bit_and x hx hx2
  clear hx2
  refine callsIn_of_wp Try.func87 rfl h7 ?_ hro
  simp only [Try.ntmps87, List.size_toArray, List.length_cons, List.length_nil, Nat.reduceAdd, Nat.reduceSub, Array.replicate_succ, Array.replicate_zero, List.push_toArray, List.append_toArray, List.nil_append, List.cons_append]
  gi_wp2
  gi_loopw [3] (fun i wr => ∃ k : Nat, k ≤ 64 ∧ i = .int .i64 (63 - k) ∧ J (bitsTop x k) wr ∧ KeepB Bs W wr)
    (fun i _ => (intOf i + 1).toNat)
  case atStart => exact ⟨0, Nat.zero_le _, by simp, h0, KeepB.refl _ _⟩
  case round =>
    obtain ⟨k, hk, rfl, hJs, hnx⟩ := hrel
    have hcx : wr.cell? ⟨Bs, 0, none⟩ = some (.int .u64 x) := (hnx.cell 0).trans hBs
    by_cases hlt : k < 64
    · by_cases hs : 0 < x / 2 ^ (63 - k)
      · have HT := Lib.hid (bitsTop_set x k hs)
        obtain ⟨fn, tmps, assign, body, hy, hR⟩ := hY _ (bitAt x (63 - k)) wr hJs (Nat.lt_of_le_of_lt (bitsTop_length x k) hlt)
        gi_wp2
        refine hR.mono ?_
        rintro e W3 (⟨rfl, hJ3, hk3⟩ | ⟨rfl, hJx3⟩)
        · gi_wp2
          go_roundw
          case rel => exact ⟨k + 1, by omega, by congr 1; omega, by rw [HT.out]; exact hJ3, hnx.trans hk3⟩
          case measure => simp [intOf]; omega
        · gi_wp2
          refine bodyPost_ret (results_none rfl _ _ _) rfl ?_
          exact ⟨⟨_, rfl⟩, .inr ⟨_, ⟨k + 1, by omega, HT.out.symm⟩, hJx3⟩⟩
      · have HT := Lib.hid (bitsTop_unset x k hs)
        gi_wp2
        refine ⟨(fun f h => by cases h), ?_⟩
        gi_wp2
        go_roundw
        case rel => exact ⟨k + 1, by omega, by congr 1; omega, by rw [HT.out]; exact hJs, hnx⟩
        case measure => simp [intOf]; omega
    · obtain rfl : k = 64 := by omega
      gi_wp2
      go_end0
      exact ⟨⟨_, rfl⟩, .inl ⟨_, rfl, hJs⟩⟩

theorem cdigits_stops (F : Fence) (n : Nat) (h7 : F.fn 87) (hro : F.round = none) (hn : 1 ≤ n) (Bs : Nat) (x : Int) (hx : 0 ≤ x) (hx2 : x ≤ 18446744073709551615) (w : World) (hBs : Bs < w.heap.size)
    (hc : w.cell? ⟨Bs, 0, none⟩ = some (.int .u64 x)) :
    SeqStopsK F n Try.prog 87 #[.pointer (some ⟨Bs, 0, none⟩)] (fun b : Bool => #[Value.bool b]) (KeepB Bs) (fun ys => ys = bitsTop x 64) (fun pre => pre <+: bitsTop x 64) 64 w := fun l J Jx W hW _ _ hY h0 => by
  refine (cdigits1_in F n h7 hro hn l Bs x hx hx2 J Jx hY W ((hW.cell (p := ⟨Bs, 0, none⟩) hBs).trans hc) h0).mono ?_
  rintro e W' ⟨he, ⟨ys, rfl, hj⟩ | ⟨pre, ⟨k, hk, rfl⟩, hj⟩⟩
  · exact ⟨he, .inl ⟨_, rfl, hj⟩⟩
  · exact ⟨he, .inr ⟨_, bitsTop_prefix x k hk, hj⟩⟩

theorem cdigits_in (F : Fence) (n : Nat) (h5 : F.fn 80) (hro : F.round = none) (x : Int) (w : World) :
    CallsIn F n Try.prog 80 #[.int .u64 x] w fun e w' => e = .returned (.func (.func 87) #[] #[.pointer (some ⟨w.heap.size, 0, none⟩)]) ∧ w' = w.alloc (.cells #[.int .u64 x] 22) := by
  refine callsIn_of_wp Try.func80 rfl h5 ?_ hro
  simp only [Try.ntmps80, List.size_toArray, List.length_cons, List.length_nil, Nat.reduceAdd, Nat.reduceSub, Array.replicate_succ, Array.replicate_zero, List.push_toArray, List.append_toArray, List.nil_append, List.cons_append]
  gi_wp2
  go_ret
  exact ⟨rfl, rfl⟩
end Go.Proofs.Ytpmmjomejackkaa
