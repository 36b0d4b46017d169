/- The extension's calls as the statements meet them: a result laid out as two numbers; small powers. Any numbers. -/
import Derived.Test.YtpmmjomejackkaaFldT
namespace Go.Proofs.Ytpmmjomejackkaa
open Go.RowKit Go.Phx Go.Shelf

/-- a result of the extension, laid out -/
theorem mul2_x (a b c d : Int) (ha : 0 ≤ a) (hb : 0 ≤ b) (hc : 0 ≤ c) (hd : 0 ≤ d) (w : World) :
    Calls Try.prog 33 #[.agg #[.int .u64 a, .int .u64 b], .agg #[.int .u64 c, .int .u64 d]] w (Ret w (.agg #[.int .u64 (vz (mul2 (zf a, zf b) (zf c, zf d)).1), .int .u64 (vz (mul2 (zf a, zf b) (zf c, zf d)).2)])) := mul2_calls a b c d ha hb hc hd w
theorem rmul2_x (a b c d : Int) (ha : 0 ≤ a) (hb : 0 ≤ b) (hc : 0 ≤ c) (hd : 0 ≤ d) (w : World) :
    Calls Try.prog 35 #[.agg #[.int .u64 a, .int .u64 b], .agg #[.int .u64 c, .int .u64 d]] w (Ret w (.agg #[.int .u64 (vz (mul2 (zf a, zf b) (zf c, zf d)).1), .int .u64 (vz (mul2 (zf a, zf b) (zf c, zf d)).2)])) := rmul2_calls a b c d ha hb hc hd w
theorem pow2_x (a b x : Int) (ha : 0 ≤ a) (hb : 0 ≤ b) (hx : 0 ≤ x) (hx2 : x ≤ 18446744073709551615) (w : World) :
    Calls Try.prog 34 #[.agg #[.int .u64 a, .int .u64 b], .int .u64 x] w (Ret w (.agg #[.int .u64 (vz (pow2 (zf a, zf b) x).1), .int .u64 (vz (pow2 (zf a, zf b) x).2)])) := pow2_calls a b x ha hb hx hx2 w
theorem rpow2_x (a b x : Int) (ha : 0 ≤ a) (hb : 0 ≤ b) (hx : 0 ≤ x) (hx2 : x ≤ 18446744073709551615) (w : World) :
    Calls Try.prog 36 #[.agg #[.int .u64 a, .int .u64 b], .int .u64 x] w (Ret w (.agg #[.int .u64 (vz (pow2 (zf a, zf b) x).1), .int .u64 (vz (pow2 (zf a, zf b) x).2)])) := rpow2_calls a b x ha hb hx hx2 w
theorem inv2_x (a b : Int) (ha : 0 ≤ a) (hb : 0 ≤ b) (w : World) :
    Calls Try.prog 37 #[.agg #[.int .u64 a, .int .u64 b]] w (Ret w (.agg #[.int .u64 (vz (inv2 (zf a, zf b)).1), .int .u64 (vz (inv2 (zf a, zf b)).2)])) := inv2_calls a b ha hb w
theorem rinv2_x (a b : Int) (ha : 0 ≤ a) (hb : 0 ≤ b) (w : World) :
    Calls Try.prog 38 #[.agg #[.int .u64 a, .int .u64 b]] w (Ret w (.agg #[.int .u64 (vz (inv2 (zf a, zf b)).1), .int .u64 (vz (inv2 (zf a, zf b)).2)])) := rinv2_calls a b ha hb w

/-! ### small powers of the extension -/
theorem foldl_skip (a : F2) (k : Nat) : (List.replicate k false).foldl (fun o b => if b then mul2 (mul2 o o) a else mul2 o o) (1, 0) = ((1, 0) : F2) := by
  induction k with
  | zero => rfl
  | succ k ih =>
    rw [List.replicate_succ, List.foldl_cons]
    simp only [Bool.false_eq_true, if_false, mul2_one_l]
    exact ih
theorem pow2_small (a : F2) (n : Int) (bs : List Bool) (k : Nat) (hn : bitsUp n 64 = List.replicate k false ++ bs) : pow2 a n = bs.foldl (fun o b => if b then mul2 (mul2 o o) a else mul2 o o) (1, 0) := by
  unfold pow2
  rw [hn]
  unfold pow2Bits
  rw [List.foldl_append, foldl_skip]
theorem pow2_0 (a : F2) : pow2 a 0 = (1, 0) := by
  have := pow2_small a 0 [] 64 (by decide +kernel)
  simpa using this
theorem mul2_one_r (x : F2) : mul2 x (1, 0) = x := by
  apply Prod.ext
  · show x.1 * 1 - x.2 * 0 = x.1
    grind -lia -linarith
  · show x.1 * 0 + x.2 * 1 = x.2
    grind -lia -linarith
theorem pow2_1 (a : F2) : pow2 a 1 = a := by
  have h := pow2_small a 1 [true] 63 (by decide +kernel)
  simp only [List.foldl_cons, List.foldl_nil, if_true, mul2_one_l] at h
  exact h
theorem pow2_2 (a : F2) : pow2 a 2 = mul2 a a := by
  have h := pow2_small a 2 [true, false] 62 (by decide +kernel)
  simp only [List.foldl_cons, List.foldl_nil, if_true, Bool.false_eq_true, if_false, mul2_one_l] at h
  exact h
theorem pow2_3 (a : F2) : pow2 a 3 = mul2 (mul2 a a) a := by
  have h := pow2_small a 3 [true, true] 62 (by decide +kernel)
  simp only [List.foldl_cons, List.foldl_nil, if_true, mul2_one_l] at h
  exact h
theorem mul2_comm (x y : F2) : mul2 x y = mul2 y x := by
  apply Prod.ext
  · show x.1 * y.1 - x.2 * y.2 = y.1 * x.1 - y.2 * x.2
    grind -lia -linarith
  · show x.1 * y.2 + x.2 * y.1 = y.1 * x.2 + y.2 * x.1
    grind -lia -linarith
end Go.Proofs.Ytpmmjomejackkaa
