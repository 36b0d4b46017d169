/- Words of 32 bits as the walk meets them; a word turned. -/
import Derived.Test.YtpmmjomejackkaaDoorBlk2
import Derived.Test.YtpmmjomejackkaaDoorShaP
set_option linter.unusedSimpArgs false
set_option linter.unusedVariables false
namespace Go.Proofs.YtpmmjomejackkaaDoor
open BigFrame Go.RowKit Go.Phx Go.Shelf
attribute [local go_sem] Oper.semAt_some

/-- a word as a number -/
def vw (x : Wd) : Int := (x.toNat : Int)
theorem vw_nonneg (x : Wd) : 0 ≤ vw x := Int.natCast_nonneg _
theorem vw_lt (x : Wd) : vw x < 4294967296 := by have := x.isLt; unfold vw; omega
@[go_sem] theorem xor_w (x y : Wd) : bits .xor .u32 (vw x) (vw y) = vw (x ^^^ y) := by
  unfold vw
  rw [u32_xor_nat _ _ x.isLt y.isLt, BitVec.toNat_xor]
@[go_sem] theorem and_w (x y : Wd) : bits .and .u32 (vw x) (vw y) = vw (x &&& y) := by
  unfold vw
  rw [u32_and_nat _ _ x.isLt y.isLt, BitVec.toNat_and]
@[go_sem] theorem or_w (x y : Wd) : bits .or .u32 (vw x) (vw y) = vw (x ||| y) := by
  unfold vw
  rw [u32_or_nat _ _ x.isLt y.isLt, BitVec.toNat_or]
@[go_sem] theorem add_w (x y : Wd) : IntKind.u32.wrap (vw x + vw y) = vw (x + y) := by
  unfold vw
  rw [IntKind.wrap_u32', BitVec.toNat_add]
  omega
theorem shl_w (x : Wd) (n : Nat) (k : Int) (hk : k = 2 ^ n) : IntKind.u32.wrap (vw x * k) = vw (x <<< n) := by
  unfold vw
  rw [IntKind.wrap_u32', BitVec.toNat_shiftLeft, Nat.shiftLeft_eq, hk]
  have e : ((x.toNat : Int)) * 2 ^ n = ((x.toNat * 2 ^ n : Nat) : Int) := by rw [Int.natCast_mul, Int.natCast_pow]; rfl
  rw [e]
  omega
theorem shr_w (x : Wd) (n : Nat) (k : Int) (hk : k = 2 ^ n) : vw x / k = vw (x >>> n) := by
  unfold vw
  rw [BitVec.toNat_ushiftRight, Nat.shiftRight_eq_div_pow, hk, Int.natCast_ediv, Int.natCast_pow]
  rfl
theorem rot_2 (x : Wd) (w : World) : Calls Tryd.prog 134 #[.int .u32 (vw x), .int .i64 (-2)] w fun e w' => e = .returned (.int .u32 (vw (ror x 2))) ∧ w = w' := by
  have h1 := vw_nonneg x
  have h2 := vw_lt x
  have e0 : bits .and .u64 (IntKind.u64.wrap (-2)) 31 = 30 := by decide
  have e1 := shl_w x 30 1073741824 rfl
  have e2 := shr_w x 2 4 rfl
  go_enter Tryd.func134, Tryd.ntmps134
  go_wp2_with fail
  go_ret
  refine ⟨?_, rfl⟩
  unfold ror
  rw [BitVec.or_comm]
  rfl
theorem turn_2 (x : Wd) (w : World) : Calls Tryd.prog 100 #[.int .u32 (vw x), .int .i64 2] w fun e w' => e = .returned (.int .u32 (vw (ror x 2))) ∧ w = w' := by
  go_enter Tryd.func100, Tryd.ntmps100
  go_wp2_with fail
  refine (rot_2 x _).mono ?_
  rintro e w' ⟨rfl, rfl⟩
  go_wp2_with fail
  go_ret
  exact ⟨rfl, rfl⟩
theorem rot_6 (x : Wd) (w : World) : Calls Tryd.prog 134 #[.int .u32 (vw x), .int .i64 (-6)] w fun e w' => e = .returned (.int .u32 (vw (ror x 6))) ∧ w = w' := by
  have h1 := vw_nonneg x
  have h2 := vw_lt x
  have e0 : bits .and .u64 (IntKind.u64.wrap (-6)) 31 = 26 := by decide
  have e1 := shl_w x 26 67108864 rfl
  have e2 := shr_w x 6 64 rfl
  go_enter Tryd.func134, Tryd.ntmps134
  go_wp2_with fail
  go_ret
  refine ⟨?_, rfl⟩
  unfold ror
  rw [BitVec.or_comm]
  rfl
theorem turn_6 (x : Wd) (w : World) : Calls Tryd.prog 100 #[.int .u32 (vw x), .int .i64 6] w fun e w' => e = .returned (.int .u32 (vw (ror x 6))) ∧ w = w' := by
  go_enter Tryd.func100, Tryd.ntmps100
  go_wp2_with fail
  refine (rot_6 x _).mono ?_
  rintro e w' ⟨rfl, rfl⟩
  go_wp2_with fail
  go_ret
  exact ⟨rfl, rfl⟩
theorem rot_7 (x : Wd) (w : World) : Calls Tryd.prog 134 #[.int .u32 (vw x), .int .i64 (-7)] w fun e w' => e = .returned (.int .u32 (vw (ror x 7))) ∧ w = w' := by
  have h1 := vw_nonneg x
  have h2 := vw_lt x
  have e0 : bits .and .u64 (IntKind.u64.wrap (-7)) 31 = 25 := by decide
  have e1 := shl_w x 25 33554432 rfl
  have e2 := shr_w x 7 128 rfl
  go_enter Tryd.func134, Tryd.ntmps134
  go_wp2_with fail
  go_ret
  refine ⟨?_, rfl⟩
  unfold ror
  rw [BitVec.or_comm]
  rfl
theorem turn_7 (x : Wd) (w : World) : Calls Tryd.prog 100 #[.int .u32 (vw x), .int .i64 7] w fun e w' => e = .returned (.int .u32 (vw (ror x 7))) ∧ w = w' := by
  go_enter Tryd.func100, Tryd.ntmps100
  go_wp2_with fail
  refine (rot_7 x _).mono ?_
  rintro e w' ⟨rfl, rfl⟩
  go_wp2_with fail
  go_ret
  exact ⟨rfl, rfl⟩
theorem rot_11 (x : Wd) (w : World) : Calls Tryd.prog 134 #[.int .u32 (vw x), .int .i64 (-11)] w fun e w' => e = .returned (.int .u32 (vw (ror x 11))) ∧ w = w' := by
  have h1 := vw_nonneg x
  have h2 := vw_lt x
  have e0 : bits .and .u64 (IntKind.u64.wrap (-11)) 31 = 21 := by decide
  have e1 := shl_w x 21 2097152 rfl
  have e2 := shr_w x 11 2048 rfl
  go_enter Tryd.func134, Tryd.ntmps134
  go_wp2_with fail
  go_ret
  refine ⟨?_, rfl⟩
  unfold ror
  rw [BitVec.or_comm]
  rfl
theorem turn_11 (x : Wd) (w : World) : Calls Tryd.prog 100 #[.int .u32 (vw x), .int .i64 11] w fun e w' => e = .returned (.int .u32 (vw (ror x 11))) ∧ w = w' := by
  go_enter Tryd.func100, Tryd.ntmps100
  go_wp2_with fail
  refine (rot_11 x _).mono ?_
  rintro e w' ⟨rfl, rfl⟩
  go_wp2_with fail
  go_ret
  exact ⟨rfl, rfl⟩
theorem rot_13 (x : Wd) (w : World) : Calls Tryd.prog 134 #[.int .u32 (vw x), .int .i64 (-13)] w fun e w' => e = .returned (.int .u32 (vw (ror x 13))) ∧ w = w' := by
  have h1 := vw_nonneg x
  have h2 := vw_lt x
  have e0 : bits .and .u64 (IntKind.u64.wrap (-13)) 31 = 19 := by decide
  have e1 := shl_w x 19 524288 rfl
  have e2 := shr_w x 13 8192 rfl
  go_enter Tryd.func134, Tryd.ntmps134
  go_wp2_with fail
  go_ret
  refine ⟨?_, rfl⟩
  unfold ror
  rw [BitVec.or_comm]
  rfl
theorem turn_13 (x : Wd) (w : World) : Calls Tryd.prog 100 #[.int .u32 (vw x), .int .i64 13] w fun e w' => e = .returned (.int .u32 (vw (ror x 13))) ∧ w = w' := by
  go_enter Tryd.func100, Tryd.ntmps100
  go_wp2_with fail
  refine (rot_13 x _).mono ?_
  rintro e w' ⟨rfl, rfl⟩
  go_wp2_with fail
  go_ret
  exact ⟨rfl, rfl⟩
theorem rot_17 (x : Wd) (w : World) : Calls Tryd.prog 134 #[.int .u32 (vw x), .int .i64 (-17)] w fun e w' => e = .returned (.int .u32 (vw (ror x 17))) ∧ w = w' := by
  have h1 := vw_nonneg x
  have h2 := vw_lt x
  have e0 : bits .and .u64 (IntKind.u64.wrap (-17)) 31 = 15 := by decide
  have e1 := shl_w x 15 32768 rfl
  have e2 := shr_w x 17 131072 rfl
  go_enter Tryd.func134, Tryd.ntmps134
  go_wp2_with fail
  go_ret
  refine ⟨?_, rfl⟩
  unfold ror
  rw [BitVec.or_comm]
  rfl
theorem turn_17 (x : Wd) (w : World) : Calls Tryd.prog 100 #[.int .u32 (vw x), .int .i64 17] w fun e w' => e = .returned (.int .u32 (vw (ror x 17))) ∧ w = w' := by
  go_enter Tryd.func100, Tryd.ntmps100
  go_wp2_with fail
  refine (rot_17 x _).mono ?_
  rintro e w' ⟨rfl, rfl⟩
  go_wp2_with fail
  go_ret
  exact ⟨rfl, rfl⟩
theorem rot_18 (x : Wd) (w : World) : Calls Tryd.prog 134 #[.int .u32 (vw x), .int .i64 (-18)] w fun e w' => e = .returned (.int .u32 (vw (ror x 18))) ∧ w = w' := by
  have h1 := vw_nonneg x
  have h2 := vw_lt x
  have e0 : bits .and .u64 (IntKind.u64.wrap (-18)) 31 = 14 := by decide
  have e1 := shl_w x 14 16384 rfl
  have e2 := shr_w x 18 262144 rfl
  go_enter Tryd.func134, Tryd.ntmps134
  go_wp2_with fail
  go_ret
  refine ⟨?_, rfl⟩
  unfold ror
  rw [BitVec.or_comm]
  rfl
theorem turn_18 (x : Wd) (w : World) : Calls Tryd.prog 100 #[.int .u32 (vw x), .int .i64 18] w fun e w' => e = .returned (.int .u32 (vw (ror x 18))) ∧ w = w' := by
  go_enter Tryd.func100, Tryd.ntmps100
  go_wp2_with fail
  refine (rot_18 x _).mono ?_
  rintro e w' ⟨rfl, rfl⟩
  go_wp2_with fail
  go_ret
  exact ⟨rfl, rfl⟩
theorem rot_19 (x : Wd) (w : World) : Calls Tryd.prog 134 #[.int .u32 (vw x), .int .i64 (-19)] w fun e w' => e = .returned (.int .u32 (vw (ror x 19))) ∧ w = w' := by
  have h1 := vw_nonneg x
  have h2 := vw_lt x
  have e0 : bits .and .u64 (IntKind.u64.wrap (-19)) 31 = 13 := by decide
  have e1 := shl_w x 13 8192 rfl
  have e2 := shr_w x 19 524288 rfl
  go_enter Tryd.func134, Tryd.ntmps134
  go_wp2_with fail
  go_ret
  refine ⟨?_, rfl⟩
  unfold ror
  rw [BitVec.or_comm]
  rfl
theorem turn_19 (x : Wd) (w : World) : Calls Tryd.prog 100 #[.int .u32 (vw x), .int .i64 19] w fun e w' => e = .returned (.int .u32 (vw (ror x 19))) ∧ w = w' := by
  go_enter Tryd.func100, Tryd.ntmps100
  go_wp2_with fail
  refine (rot_19 x _).mono ?_
  rintro e w' ⟨rfl, rfl⟩
  go_wp2_with fail
  go_ret
  exact ⟨rfl, rfl⟩
theorem rot_22 (x : Wd) (w : World) : Calls Tryd.prog 134 #[.int .u32 (vw x), .int .i64 (-22)] w fun e w' => e = .returned (.int .u32 (vw (ror x 22))) ∧ w = w' := by
  have h1 := vw_nonneg x
  have h2 := vw_lt x
  have e0 : bits .and .u64 (IntKind.u64.wrap (-22)) 31 = 10 := by decide
  have e1 := shl_w x 10 1024 rfl
  have e2 := shr_w x 22 4194304 rfl
  go_enter Tryd.func134, Tryd.ntmps134
  go_wp2_with fail
  go_ret
  refine ⟨?_, rfl⟩
  unfold ror
  rw [BitVec.or_comm]
  rfl
theorem turn_22 (x : Wd) (w : World) : Calls Tryd.prog 100 #[.int .u32 (vw x), .int .i64 22] w fun e w' => e = .returned (.int .u32 (vw (ror x 22))) ∧ w = w' := by
  go_enter Tryd.func100, Tryd.ntmps100
  go_wp2_with fail
  refine (rot_22 x _).mono ?_
  rintro e w' ⟨rfl, rfl⟩
  go_wp2_with fail
  go_ret
  exact ⟨rfl, rfl⟩
theorem rot_25 (x : Wd) (w : World) : Calls Tryd.prog 134 #[.int .u32 (vw x), .int .i64 (-25)] w fun e w' => e = .returned (.int .u32 (vw (ror x 25))) ∧ w = w' := by
  have h1 := vw_nonneg x
  have h2 := vw_lt x
  have e0 : bits .and .u64 (IntKind.u64.wrap (-25)) 31 = 7 := by decide
  have e1 := shl_w x 7 128 rfl
  have e2 := shr_w x 25 33554432 rfl
  go_enter Tryd.func134, Tryd.ntmps134
  go_wp2_with fail
  go_ret
  refine ⟨?_, rfl⟩
  unfold ror
  rw [BitVec.or_comm]
  rfl
theorem turn_25 (x : Wd) (w : World) : Calls Tryd.prog 100 #[.int .u32 (vw x), .int .i64 25] w fun e w' => e = .returned (.int .u32 (vw (ror x 25))) ∧ w = w' := by
  go_enter Tryd.func100, Tryd.ntmps100
  go_wp2_with fail
  refine (rot_25 x _).mono ?_
  rintro e w' ⟨rfl, rfl⟩
  go_wp2_with fail
  go_ret
  exact ⟨rfl, rfl⟩
theorem turn_of (x : Wd) (n : Int) (h : n = 2 ∨ n = 6 ∨ n = 7 ∨ n = 11 ∨ n = 13 ∨ n = 17 ∨ n = 18 ∨ n = 19 ∨ n = 22 ∨ n = 25) (w : World) : Calls Tryd.prog 100 #[.int .u32 (vw x), .int .i64 n] w fun e w' => e = .returned (.int .u32 (vw (ror x n.toNat))) ∧ w = w' := by
  rcases h with rfl | rfl | rfl | rfl | rfl | rfl | rfl | rfl | rfl | rfl
  · exact turn_2 x w
  · exact turn_6 x w
  · exact turn_7 x w
  · exact turn_11 x w
  · exact turn_13 x w
  · exact turn_17 x w
  · exact turn_18 x w
  · exact turn_19 x w
  · exact turn_22 x w
  · exact turn_25 x w
end Go.Proofs.YtpmmjomejackkaaDoor
