/- What the later texts stand on (Pr3): plain laws and walks, each by its own conditions. -/
import Derived.Test.YtpmmjomejackkaaDoorG16
import Derived.Test.YtpmmjomejackkaaDoorG3
set_option linter.unusedSimpArgs false
set_option linter.unusedVariables false
section
set_option linter.unusedSimpArgs false
set_option linter.unusedVariables false
namespace Go.Proofs.YtpmmjomejackkaaDoor
open BigFrame Go.RowKit Go.Phx Go.Shelf
attribute [local go_sem] Oper.semAt_some fldInf

/-- the first k bits of the order, behind the highest one -/
def obits (k : Nat) : List Bool := (List.range k).map fun j => bitAt 536870717 (27 - j)
theorem obits_succ (k : Nat) : obits (k + 1) = obits k ++ [bitAt 536870717 (27 - k)] := by simp [obits, List.range_succ]
theorem obits_length (k : Nat) : (obits k).length = k := by simp [obits]
theorem obits_prefix (k : Nat) (hk : k ≤ 28) : obits k <+: obits 28 := by
  have h : ∀ m, obits k <+: obits (k + m) := by
    intro m
    induction m with
    | zero => exact List.prefix_rfl
    | succ m ih =>
      rw [show k + (m + 1) = (k + m) + 1 from rfl, obits_succ]
      exact ih.trans (List.prefix_append _ _)
  have := h (28 - k)
  rwa [show k + (28 - k) = 28 by omega] at this
theorem and_one_i64 (y : Nat) (hy : y < 9223372036854775808) : bits .and .i64 (y : Int) 1 = ((y % 2 : Nat) : Int) := by
  have e : (BitVec.ofInt 64 (y : Int)).toNat = y := by
    rw [BitVec.ofInt_natCast, BitVec.toNat_ofNat]
    exact Nat.mod_eq_of_lt (by omega)
  show IntKind.i64.wrap ((BitVec.ofInt 64 (y : Int) &&& BitVec.ofInt 64 ((1 : Nat) : Int)).toNat : Int) = _
  rw [BitVec.toNat_and, e, show (BitVec.ofInt 64 ((1 : Nat) : Int)).toNat = 1 from by decide, nat_mask1, IntKind.wrap_i64]
  omega
theorem obit_and (i : Nat) : (bits BinOp.and IntKind.i64 (536870717 / 2 ^ i) 1 == 1) = bitAt 536870717 i := by
  have h1 : (536870717 : Int) / 2 ^ i = ((536870717 / 2 ^ i : Nat) : Int) := by rw [Int.natCast_ediv, Int.natCast_pow]; rfl
  have h2 : 536870717 / 2 ^ i ≤ 536870717 := Nat.div_le_self _ _
  unfold bitAt
  rw [h1, and_one_i64 _ (by omega)]
  generalize 536870717 / 2 ^ i = y
  by_cases h : y % 2 = 1
  · rw [h, decide_eq_true (by omega)]
    rfl
  · rw [decide_eq_false (by omega), beq_eq_false_iff_ne]
    omega

set_option maxRecDepth 100000 in
theorem len64_order (w : World) : Calls Tryd.prog 165 #[.int .u64 536870717] w fun e w' => e = .returned (.int .i64 29) ∧ w = w' := by
  go_enter Tryd.func165, Tryd.ntmps165
  go_wp2_with fail
  go_ret
  refine ⟨?_, rfl⟩
  kernel_rfl

set_option maxRecDepth 100000 in
set_option maxHeartbeats 4000000 in
theorem pdigits1_in (n : Nat) (hn : 1 ≤ n) (l : Nat) (J Jx : List Bool → World → Prop)
    (hY : ∀ pre x W, J pre W → pre.length < 28 → YieldAt Fence.wide (n - 1) Tryd.prog l #[.bool x] W fun e W' =>
      (e = .returned (.bool true) ∧ J (pre ++ [x]) W' ∧ True) ∨ (e = .returned (.bool false) ∧ Jx (pre ++ [x]) W'))
    (W : World) (h0 : J [] W) :
    CallsIn Fence.wide n Tryd.prog 164 #[.func (.yield l) #[] #[]] W fun e W' => (∃ v, e = .returned v) ∧
      ((∃ ys, ys = obits 28 ∧ J ys W') ∨ (∃ pre, (∃ k, k ≤ 28 ∧ pre = obits k) ∧ Jx pre W')) := by
  have hbit := obit_and
  have hro : Fence.wide.round = none := rfl
  have h7 : ∀ f, Fence.wide.fn f := fun _ => trivial
  refine callsIn_of_wp Tryd.func164 rfl trivial ?_ rfl
  simp only [Tryd.ntmps164, List.size_toArray, List.length_cons, List.length_nil, Nat.reduceAdd, Nat.reduceSub, Array.replicate_succ, Array.replicate_zero, List.push_toArray, List.append_toArray, List.nil_append, List.cons_append]
  gi_wp2_with fail
  refine (callsIn_wide.2 (len64_order _)).mono ?_
  rintro e w' ⟨rfl, rfl⟩
  gi_wp2
  gi_loopw [2] (fun i wr => ∃ k : Nat, k ≤ 28 ∧ i = .int .i64 (27 - k) ∧ J (obits k) wr)
    (fun i _ => (intOf i + 1).toNat)
  case atStart => exact ⟨0, Nat.zero_le _, by simp, h0⟩
  case round =>
    obtain ⟨k, hk, rfl, hJs⟩ := hrel
    by_cases hlt : k < 28
    · have HT := Lib.hid (obits_succ k)
      obtain ⟨fn, tmps, assign, body, hy, hR⟩ := hY _ (bitAt 536870717 (27 - k)) wr hJs (by rw [obits_length]; exact hlt)
      gi_wp2
      refine hR.mono ?_
      rintro e W3 (⟨rfl, hJ3, _⟩ | ⟨rfl, hJx3⟩)
      · gi_wp2
        go_roundw
        case rel => exact ⟨k + 1, by omega, by congr 1; omega, by rw [HT.out]; exact hJ3⟩
        case measure => simp [intOf]; omega
      · gi_wp2
        refine bodyPost_ret (results_none rfl _ _ _) rfl ?_
        exact ⟨⟨_, rfl⟩, .inr ⟨_, ⟨k + 1, by omega, HT.out.symm⟩, hJx3⟩⟩
    · obtain rfl : k = 28 := by omega
      gi_wp2
      go_end0
      exact ⟨⟨_, rfl⟩, .inl ⟨_, rfl, hJs⟩⟩
theorem pdigits_stops (n : Nat) (hn : 1 ≤ n) (w : World) :
    SeqStopsK Fence.wide n Tryd.prog 164 #[] (fun b : Bool => #[Value.bool b]) (fun _ _ => True) (fun ys => ys = obits 28) (fun pre => pre <+: obits 28) 28 w := fun l J Jx W hW _ _ hY h0 => by
  refine (pdigits1_in n hn l J Jx hY W h0).mono ?_
  rintro e W' ⟨he, ⟨ys, rfl, hj⟩ | ⟨pre, ⟨k, hk, rfl⟩, hj⟩⟩
  · exact ⟨he, .inl ⟨_, rfl, hj⟩⟩
  · exact ⟨he, .inr ⟨_, obits_prefix k hk, hj⟩⟩
theorem pdigits_in (n : Nat) (w : World) : CallsIn Fence.wide n Tryd.prog 159 #[] w fun e w' => e = .returned (.func (.func 164) #[] #[]) ∧ w' = w := by
  refine callsIn_of_wp Tryd.func159 rfl trivial ?_ rfl
  simp only [Tryd.ntmps159, List.size_toArray, List.length_cons, List.length_nil, Nat.reduceAdd, Nat.reduceSub, Array.replicate_succ, Array.replicate_zero, List.push_toArray, List.append_toArray, List.nil_append, List.cons_append]
  gi_wp2
  go_ret
  exact ⟨rfl, rfl⟩
end Go.Proofs.YtpmmjomejackkaaDoor
end
