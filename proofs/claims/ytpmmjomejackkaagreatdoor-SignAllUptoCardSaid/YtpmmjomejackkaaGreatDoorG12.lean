/- What the later texts stand on (Sha1, Sha2): plain laws and walks, each by its own conditions. -/
import Derived.Test.YtpmmjomejackkaaGreatDoorG3
section
set_option linter.unusedSimpArgs false
set_option linter.unusedVariables false
namespace Go.Proofs.YtpmmjomejackkaaGreatDoor
open BigFrame Go.RowKit Go.Phx Go.Shelf
attribute [local go_sem] Oper.semAt_some

/-- a word as a number -/
def vw (x : Wd) : Int := (x.toNat : Int)
theorem vw_nonneg (x : Wd) : 0 ≤ vw x := Int.natCast_nonneg _
theorem vw_lt (x : Wd) : vw x < 4294967296 := by have := x.isLt; unfold vw; omega
@[go_sem] theorem xor_w (x y : Wd) : bits .xor .u32 (vw x) (vw y) = vw (x ^^^ y) := by
  unfold vw
  rw [u32_xor_nat _ _ x.isLt y.isLt, BitVec.toNat_xor]
@[go_sem] theorem and_w (x y : Wd) : bits .and .u32 (vw x) (vw y) = vw (x &&& y) := by
  unfold vw
  rw [u32_and_nat _ _ x.isLt y.isLt, BitVec.toNat_and]
@[go_sem] theorem or_w (x y : Wd) : bits .or .u32 (vw x) (vw y) = vw (x ||| y) := by
  unfold vw
  rw [u32_or_nat _ _ x.isLt y.isLt, BitVec.toNat_or]
@[go_sem] theorem add_w (x y : Wd) : IntKind.u32.wrap (vw x + vw y) = vw (x + y) := by
  unfold vw
  rw [IntKind.wrap_u32', BitVec.toNat_add]
  omega
theorem shl_w (x : Wd) (n : Nat) (k : Int) (hk : k = 2 ^ n) : IntKind.u32.wrap (vw x * k) = vw (x <<< n) := by
  unfold vw
  rw [IntKind.wrap_u32', BitVec.toNat_shiftLeft, Nat.shiftLeft_eq, hk]
  have e : ((x.toNat : Int)) * 2 ^ n = ((x.toNat * 2 ^ n : Nat) : Int) := by rw [Int.natCast_mul, Int.natCast_pow]; rfl
  rw [e]
  omega
theorem shr_w (x : Wd) (n : Nat) (k : Int) (hk : k = 2 ^ n) : vw x / k = vw (x >>> n) := by
  unfold vw
  rw [BitVec.toNat_ushiftRight, Nat.shiftRight_eq_div_pow, hk, Int.natCast_ediv, Int.natCast_pow]
  rfl
theorem rot_2 (x : Wd) (w : World) : Calls Tryz.prog 97 #[.int .u32 (vw x), .int .i64 (-2)] w fun e w' => e = .returned (.int .u32 (vw (ror x 2))) ∧ w = w' := by
  have h1 := vw_nonneg x
  have h2 := vw_lt x
  have e0 : bits .and .u64 (IntKind.u64.wrap (-2)) 31 = 30 := by decide
  have e1 := shl_w x 30 1073741824 rfl
  have e2 := shr_w x 2 4 rfl
  go_enter Tryz.func97, Tryz.ntmps97
  go_wp2_with fail
  go_ret
  refine ⟨?_, rfl⟩
  unfold ror
  rw [BitVec.or_comm]
  rfl
theorem turn_2 (x : Wd) (w : World) : Calls Tryz.prog 90 #[.int .u32 (vw x), .int .i64 2] w fun e w' => e = .returned (.int .u32 (vw (ror x 2))) ∧ w = w' := by
  go_enter Tryz.func90, Tryz.ntmps90
  go_wp2_with fail
  refine (rot_2 x _).mono ?_
  rintro e w' ⟨rfl, rfl⟩
  go_wp2_with fail
  go_ret
  exact ⟨rfl, rfl⟩
theorem rot_6 (x : Wd) (w : World) : Calls Tryz.prog 97 #[.int .u32 (vw x), .int .i64 (-6)] w fun e w' => e = .returned (.int .u32 (vw (ror x 6))) ∧ w = w' := by
  have h1 := vw_nonneg x
  have h2 := vw_lt x
  have e0 : bits .and .u64 (IntKind.u64.wrap (-6)) 31 = 26 := by decide
  have e1 := shl_w x 26 67108864 rfl
  have e2 := shr_w x 6 64 rfl
  go_enter Tryz.func97, Tryz.ntmps97
  go_wp2_with fail
  go_ret
  refine ⟨?_, rfl⟩
  unfold ror
  rw [BitVec.or_comm]
  rfl
theorem turn_6 (x : Wd) (w : World) : Calls Tryz.prog 90 #[.int .u32 (vw x), .int .i64 6] w fun e w' => e = .returned (.int .u32 (vw (ror x 6))) ∧ w = w' := by
  go_enter Tryz.func90, Tryz.ntmps90
  go_wp2_with fail
  refine (rot_6 x _).mono ?_
  rintro e w' ⟨rfl, rfl⟩
  go_wp2_with fail
  go_ret
  exact ⟨rfl, rfl⟩
theorem rot_7 (x : Wd) (w : World) : Calls Tryz.prog 97 #[.int .u32 (vw x), .int .i64 (-7)] w fun e w' => e = .returned (.int .u32 (vw (ror x 7))) ∧ w = w' := by
  have h1 := vw_nonneg x
  have h2 := vw_lt x
  have e0 : bits .and .u64 (IntKind.u64.wrap (-7)) 31 = 25 := by decide
  have e1 := shl_w x 25 33554432 rfl
  have e2 := shr_w x 7 128 rfl
  go_enter Tryz.func97, Tryz.ntmps97
  go_wp2_with fail
  go_ret
  refine ⟨?_, rfl⟩
  unfold ror
  rw [BitVec.or_comm]
  rfl
theorem turn_7 (x : Wd) (w : World) : Calls Tryz.prog 90 #[.int .u32 (vw x), .int .i64 7] w fun e w' => e = .returned (.int .u32 (vw (ror x 7))) ∧ w = w' := by
  go_enter Tryz.func90, Tryz.ntmps90
  go_wp2_with fail
  refine (rot_7 x _).mono ?_
  rintro e w' ⟨rfl, rfl⟩
  go_wp2_with fail
  go_ret
  exact ⟨rfl, rfl⟩
theorem rot_11 (x : Wd) (w : World) : Calls Tryz.prog 97 #[.int .u32 (vw x), .int .i64 (-11)] w fun e w' => e = .returned (.int .u32 (vw (ror x 11))) ∧ w = w' := by
  have h1 := vw_nonneg x
  have h2 := vw_lt x
  have e0 : bits .and .u64 (IntKind.u64.wrap (-11)) 31 = 21 := by decide
  have e1 := shl_w x 21 2097152 rfl
  have e2 := shr_w x 11 2048 rfl
  go_enter Tryz.func97, Tryz.ntmps97
  go_wp2_with fail
  go_ret
  refine ⟨?_, rfl⟩
  unfold ror
  rw [BitVec.or_comm]
  rfl
theorem turn_11 (x : Wd) (w : World) : Calls Tryz.prog 90 #[.int .u32 (vw x), .int .i64 11] w fun e w' => e = .returned (.int .u32 (vw (ror x 11))) ∧ w = w' := by
  go_enter Tryz.func90, Tryz.ntmps90
  go_wp2_with fail
  refine (rot_11 x _).mono ?_
  rintro e w' ⟨rfl, rfl⟩
  go_wp2_with fail
  go_ret
  exact ⟨rfl, rfl⟩
theorem rot_13 (x : Wd) (w : World) : Calls Tryz.prog 97 #[.int .u32 (vw x), .int .i64 (-13)] w fun e w' => e = .returned (.int .u32 (vw (ror x 13))) ∧ w = w' := by
  have h1 := vw_nonneg x
  have h2 := vw_lt x
  have e0 : bits .and .u64 (IntKind.u64.wrap (-13)) 31 = 19 := by decide
  have e1 := shl_w x 19 524288 rfl
  have e2 := shr_w x 13 8192 rfl
  go_enter Tryz.func97, Tryz.ntmps97
  go_wp2_with fail
  go_ret
  refine ⟨?_, rfl⟩
  unfold ror
  rw [BitVec.or_comm]
  rfl
theorem turn_13 (x : Wd) (w : World) : Calls Tryz.prog 90 #[.int .u32 (vw x), .int .i64 13] w fun e w' => e = .returned (.int .u32 (vw (ror x 13))) ∧ w = w' := by
  go_enter Tryz.func90, Tryz.ntmps90
  go_wp2_with fail
  refine (rot_13 x _).mono ?_
  rintro e w' ⟨rfl, rfl⟩
  go_wp2_with fail
  go_ret
  exact ⟨rfl, rfl⟩
theorem rot_17 (x : Wd) (w : World) : Calls Tryz.prog 97 #[.int .u32 (vw x), .int .i64 (-17)] w fun e w' => e = .returned (.int .u32 (vw (ror x 17))) ∧ w = w' := by
  have h1 := vw_nonneg x
  have h2 := vw_lt x
  have e0 : bits .and .u64 (IntKind.u64.wrap (-17)) 31 = 15 := by decide
  have e1 := shl_w x 15 32768 rfl
  have e2 := shr_w x 17 131072 rfl
  go_enter Tryz.func97, Tryz.ntmps97
  go_wp2_with fail
  go_ret
  refine ⟨?_, rfl⟩
  unfold ror
  rw [BitVec.or_comm]
  rfl
theorem turn_17 (x : Wd) (w : World) : Calls Tryz.prog 90 #[.int .u32 (vw x), .int .i64 17] w fun e w' => e = .returned (.int .u32 (vw (ror x 17))) ∧ w = w' := by
  go_enter Tryz.func90, Tryz.ntmps90
  go_wp2_with fail
  refine (rot_17 x _).mono ?_
  rintro e w' ⟨rfl, rfl⟩
  go_wp2_with fail
  go_ret
  exact ⟨rfl, rfl⟩
theorem rot_18 (x : Wd) (w : World) : Calls Tryz.prog 97 #[.int .u32 (vw x), .int .i64 (-18)] w fun e w' => e = .returned (.int .u32 (vw (ror x 18))) ∧ w = w' := by
  have h1 := vw_nonneg x
  have h2 := vw_lt x
  have e0 : bits .and .u64 (IntKind.u64.wrap (-18)) 31 = 14 := by decide
  have e1 := shl_w x 14 16384 rfl
  have e2 := shr_w x 18 262144 rfl
  go_enter Tryz.func97, Tryz.ntmps97
  go_wp2_with fail
  go_ret
  refine ⟨?_, rfl⟩
  unfold ror
  rw [BitVec.or_comm]
  rfl
theorem turn_18 (x : Wd) (w : World) : Calls Tryz.prog 90 #[.int .u32 (vw x), .int .i64 18] w fun e w' => e = .returned (.int .u32 (vw (ror x 18))) ∧ w = w' := by
  go_enter Tryz.func90, Tryz.ntmps90
  go_wp2_with fail
  refine (rot_18 x _).mono ?_
  rintro e w' ⟨rfl, rfl⟩
  go_wp2_with fail
  go_ret
  exact ⟨rfl, rfl⟩
theorem rot_19 (x : Wd) (w : World) : Calls Tryz.prog 97 #[.int .u32 (vw x), .int .i64 (-19)] w fun e w' => e = .returned (.int .u32 (vw (ror x 19))) ∧ w = w' := by
  have h1 := vw_nonneg x
  have h2 := vw_lt x
  have e0 : bits .and .u64 (IntKind.u64.wrap (-19)) 31 = 13 := by decide
  have e1 := shl_w x 13 8192 rfl
  have e2 := shr_w x 19 524288 rfl
  go_enter Tryz.func97, Tryz.ntmps97
  go_wp2_with fail
  go_ret
  refine ⟨?_, rfl⟩
  unfold ror
  rw [BitVec.or_comm]
  rfl
theorem turn_19 (x : Wd) (w : World) : Calls Tryz.prog 90 #[.int .u32 (vw x), .int .i64 19] w fun e w' => e = .returned (.int .u32 (vw (ror x 19))) ∧ w = w' := by
  go_enter Tryz.func90, Tryz.ntmps90
  go_wp2_with fail
  refine (rot_19 x _).mono ?_
  rintro e w' ⟨rfl, rfl⟩
  go_wp2_with fail
  go_ret
  exact ⟨rfl, rfl⟩
theorem rot_22 (x : Wd) (w : World) : Calls Tryz.prog 97 #[.int .u32 (vw x), .int .i64 (-22)] w fun e w' => e = .returned (.int .u32 (vw (ror x 22))) ∧ w = w' := by
  have h1 := vw_nonneg x
  have h2 := vw_lt x
  have e0 : bits .and .u64 (IntKind.u64.wrap (-22)) 31 = 10 := by decide
  have e1 := shl_w x 10 1024 rfl
  have e2 := shr_w x 22 4194304 rfl
  go_enter Tryz.func97, Tryz.ntmps97
  go_wp2_with fail
  go_ret
  refine ⟨?_, rfl⟩
  unfold ror
  rw [BitVec.or_comm]
  rfl
theorem turn_22 (x : Wd) (w : World) : Calls Tryz.prog 90 #[.int .u32 (vw x), .int .i64 22] w fun e w' => e = .returned (.int .u32 (vw (ror x 22))) ∧ w = w' := by
  go_enter Tryz.func90, Tryz.ntmps90
  go_wp2_with fail
  refine (rot_22 x _).mono ?_
  rintro e w' ⟨rfl, rfl⟩
  go_wp2_with fail
  go_ret
  exact ⟨rfl, rfl⟩
theorem rot_25 (x : Wd) (w : World) : Calls Tryz.prog 97 #[.int .u32 (vw x), .int .i64 (-25)] w fun e w' => e = .returned (.int .u32 (vw (ror x 25))) ∧ w = w' := by
  have h1 := vw_nonneg x
  have h2 := vw_lt x
  have e0 : bits .and .u64 (IntKind.u64.wrap (-25)) 31 = 7 := by decide
  have e1 := shl_w x 7 128 rfl
  have e2 := shr_w x 25 33554432 rfl
  go_enter Tryz.func97, Tryz.ntmps97
  go_wp2_with fail
  go_ret
  refine ⟨?_, rfl⟩
  unfold ror
  rw [BitVec.or_comm]
  rfl
theorem turn_25 (x : Wd) (w : World) : Calls Tryz.prog 90 #[.int .u32 (vw x), .int .i64 25] w fun e w' => e = .returned (.int .u32 (vw (ror x 25))) ∧ w = w' := by
  go_enter Tryz.func90, Tryz.ntmps90
  go_wp2_with fail
  refine (rot_25 x _).mono ?_
  rintro e w' ⟨rfl, rfl⟩
  go_wp2_with fail
  go_ret
  exact ⟨rfl, rfl⟩
theorem turn_of (x : Wd) (n : Int) (h : n = 2 ∨ n = 6 ∨ n = 7 ∨ n = 11 ∨ n = 13 ∨ n = 17 ∨ n = 18 ∨ n = 19 ∨ n = 22 ∨ n = 25) (w : World) : Calls Tryz.prog 90 #[.int .u32 (vw x), .int .i64 n] w fun e w' => e = .returned (.int .u32 (vw (ror x n.toNat))) ∧ w = w' := by
  rcases h with rfl | rfl | rfl | rfl | rfl | rfl | rfl | rfl | rfl | rfl
  · exact turn_2 x w
  · exact turn_6 x w
  · exact turn_7 x w
  · exact turn_11 x w
  · exact turn_13 x w
  · exact turn_17 x w
  · exact turn_18 x w
  · exact turn_19 x w
  · exact turn_22 x w
  · exact turn_25 x w
end Go.Proofs.YtpmmjomejackkaaGreatDoor
end
section
set_option linter.unusedSimpArgs false
set_option linter.unusedVariables false
namespace Go.Proofs.YtpmmjomejackkaaGreatDoor
open BigFrame Go.RowKit Go.Phx Go.Shelf
attribute [local go_sem] Oper.semAt_some

/-- words as cells -/
def cw (L : List Wd) : Array Value := (L.map fun x => Value.int .u32 (vw x)).toArray
theorem cw_get {L : List Wd} {i : Nat} (h : i < L.length) : (cw L)[i]? = some (.int .u32 (vw (L.getD i 0))) := by
  unfold cw
  simp [List.getElem?_eq_getElem h, List.getD]
theorem cw_set (L : List Wd) (i : Nat) (x : Wd) : (cw L).setIfInBounds i (.int .u32 (vw x)) = cw (L.set i x) := by
  unfold cw
  rw [List.setIfInBounds_toArray, List.map_set]
/-- a byte as a word -/
def bw (c : UInt8) : Wd := BitVec.ofNat 32 c.toNat
theorem vw_bw (c : UInt8) : vw (bw c) = (c.toNat : Int) := by
  unfold vw bw
  rw [BitVec.toNat_ofNat]
  have := c.toNat_lt
  omega
theorem bw_lt (c : UInt8) : vw (bw c) < 256 := by
  rw [vw_bw]
  have := c.toNat_lt
  omega
theorem index_at (s : ByteArray) (k : Nat) (hk : k < s.size) (h63 : s.size ≤ 9223372036854775807) (w : World) : (Instr.index 9 (.string s) (.int .i64 (k : Int))).run Tryz.prog w = .ok (.int .u8 (vw (bw (s.data.toList.getD k 0)))) w := by
  have hd : Tryz.prog.underlying 9 = some .string := by kernel_rfl
  rw [vw_bw]
  simp [go_sem, Instr.index, hd, hk]
  rfl
/-- the words of a block, so many bytes taken in -/
def firstW (l : List UInt8) : Nat → List Wd
  | 0 => List.replicate 64 0
  | k + 1 => (firstW l k).set (k / 4) ((firstW l k).getD (k / 4) 0 <<< 8 ||| bw (l.getD k 0))
theorem firstW_len (l : List UInt8) (k : Nat) : (firstW l k).length = 64 := by
  induction k with
  | zero => simp [firstW]
  | succ k ih => simp [firstW, ih]
/-- the variable sha.k holds the constants -/
def HasK (w : World) : Prop := (∀ i, i < 64 → w.cell? ⟨0, i, none⟩ = some (.int .u32 (vw (kTab.getD i 0)))) ∧ 0 < w.heap.size
theorem HasK.on {w w' : World} (h : HasK w) (hB : Below w.heap.size w w') : HasK w' :=
  ⟨fun i hi => (hB.cell (p := ⟨0, i, none⟩) h.2).trans (h.1 i hi), Nat.lt_of_lt_of_le h.2 hB.size⟩
theorem HasK.from {n : Nat} {w w' : World} (h : HasK w) (hB : Below n w w') (hn : 0 < n) : HasK w' :=
  ⟨fun i hi => (hB.cell (p := ⟨0, i, none⟩) hn).trans (h.1 i hi), Nat.lt_of_lt_of_le h.2 hB.size⟩
theorem HasK.alloc {w : World} (h : HasK w) (o : Obj) : HasK (w.alloc o) := h.on ((Below.refl _ _).alloc (Nat.le_refl _) _)
/-- eight words as cells -/
def cS (v : St) : Array Value := #[.int .u32 (vw v.a), .int .u32 (vw v.b), .int .u32 (vw v.c), .int .u32 (vw v.d), .int .u32 (vw v.e), .int .u32 (vw v.f), .int .u32 (vw v.g), .int .u32 (vw v.h)]
/-- what a call that writes block b alone leaves -/
def Wrote (w : World) (b : Nat) (t : TypeId) (cs : Array Value) (e : Ending) (w' : World) : Prop := e = .returned (.tuple #[]) ∧ w.grownBy w' (some b) ∧ Blk w' b t cs
theorem grown_of {w w' : World} {b : Nat} (hB : Below w.heap.size w w') : w.grownBy w' (some b) := ⟨hB.os, hB.tape, hB.output, hB.size, fun k hk _ => hB.block k hk⟩
theorem grown_on {w W w' : World} {b : Nat} (G : w.grownBy W (some b)) (hB : Below W.heap.size W w') : w.grownBy w' (some b) :=
  ⟨hB.os.trans G.os, hB.tape.trans G.tape, hB.output.trans G.output, Nat.le_trans G.size hB.size, fun k hk hn => (hB.block k (Nat.lt_of_lt_of_le hk G.size)).trans (G.block k hk hn)⟩
theorem grown_set {w W : World} {b i : Nat} {u : Value} (G : w.grownBy W (some b)) : w.grownBy (W.setCell ⟨b, i, none⟩ u) (some b) :=
  ⟨G.os, G.tape, G.output, by rw [size_set]; exact G.size, fun k hk hn => (Below.heap_setCell _ _ _ _ (fun e => hn (by rw [e]))).trans (G.block k hk hn)⟩
@[go_sem] theorem add_w' (x y : Wd) : (vw x + vw y) % 4294967296 = vw (x + y) := by
  rw [← add_w x y, IntKind.wrap_u32']
theorem shl_w' (x : Wd) (n : Nat) (k : Int) (hk : k = 2 ^ n) : vw x * k % 4294967296 = vw (x <<< n) := by
  rw [← shl_w x n k hk, IntKind.wrap_u32']

/-! ### what the words of a block come to -/
theorem getD_set_eq {L : List Wd} {i : Nat} (h : i < L.length) (x : Wd) : (L.set i x).getD i 0 = x := by simp [List.getD, h]
theorem getD_set_ne {L : List Wd} {i j : Nat} (h : i ≠ j) (x : Wd) : (L.set i x).getD j 0 = L.getD j 0 := by simp [List.getD, List.getElem?_set_ne h]
theorem wordOf_snoc (l : List UInt8) (c : UInt8) : wordOf (l ++ [c]) = wordOf l <<< 8 ||| bw c := by unfold wordOf bw; simp
theorem take_snoc8 (l : List UInt8) (a n : Nat) (h : a + n < l.length) : (l.drop a).take (n + 1) = (l.drop a).take n ++ [l.getD (a + n) 0] := by
  rw [List.take_add_one]
  congr 1
  rw [List.getElem?_drop, List.getD, List.getElem?_eq_getElem h]
  rfl
theorem firstW_at (l : List UInt8) (hl : l.length = 64) (k : Nat) (hk : k ≤ 64) (j : Nat) (hj : j < 64) :
    (firstW l k).getD j 0 = wordOf ((l.drop (4 * j)).take (min 4 (k - 4 * j))) := by
  induction k with
  | zero =>
    rw [show min 4 (0 - 4 * j) = 0 by omega, firstW, List.getD, List.getElem?_replicate, if_pos hj]
    rfl
  | succ k ih =>
    have ih := ih (by omega)
    have hlen := firstW_len l k
    by_cases h : k / 4 = j
    · subst h
      rw [firstW, getD_set_eq (by omega), ih, ← wordOf_snoc, show min 4 (k - 4 * (k / 4)) = k - 4 * (k / 4) by omega, show min 4 (k + 1 - 4 * (k / 4)) = (k - 4 * (k / 4)) + 1 by omega,
        take_snoc8 l (4 * (k / 4)) (k - 4 * (k / 4)) (by omega), show 4 * (k / 4) + (k - 4 * (k / 4)) = k by omega]
    · rw [firstW, getD_set_ne h, ih, show min 4 (k + 1 - 4 * j) = min 4 (k - 4 * j) by omega]
theorem words16_len (l : List UInt8) : (words16 l).length = 16 := by simp [words16]
theorem firstW_all (l : List UInt8) (hl : l.length = 64) : firstW l 64 = words16 l ++ List.replicate 48 0 := by
  apply List.ext_getElem?
  intro j
  have hlen := firstW_len l 64
  by_cases hj : j < 64
  · have h1 := firstW_at l hl 64 (Nat.le_refl _) j hj
    rw [List.getD, List.getElem?_eq_getElem (by omega)] at h1
    rw [List.getElem?_eq_getElem (by omega)]
    simp only [Option.getD_some] at h1
    rw [h1]
    by_cases h16 : j < 16
    · rw [List.getElem?_append_left (by simp [words16]; exact h16), show min 4 (64 - 4 * j) = 4 by omega]
      simp [words16, h16]
    · rw [List.getElem?_append_right (by rw [words16_len]; omega), words16_len, List.getElem?_replicate, if_pos (by omega), show min 4 (64 - 4 * j) = 0 by omega]
      rfl
  · rw [List.getElem?_eq_none (by omega), List.getElem?_eq_none (by simp [words16]; omega)]
theorem grow_len (n : Nat) (w : List Wd) : (grow n w).length = w.length + n := by
  induction n generalizing w with
  | zero => rfl
  | succ n ih => rw [grow, ih]; simp; omega
theorem grow_succ (n : Nat) (w : List Wd) : grow (n + 1) w = grow n w ++ [nextW (grow n w)] := by
  induction n generalizing w with
  | zero => rfl
  | succ n ih => rw [grow, ih, grow]
/-- the row of words, so many reckoned -/
def moreW (l : List UInt8) (k : Nat) : List Wd := grow k (words16 l) ++ List.replicate (48 - k) 0
theorem moreW_len (l : List UInt8) (k : Nat) (hk : k ≤ 48) : (moreW l k).length = 64 := by
  unfold moreW
  rw [List.length_append, grow_len, words16_len, List.length_replicate]
  omega
theorem moreW_at (l : List UInt8) (k : Nat) (j : Nat) (hj : j < 16 + k) : (moreW l k).getD j 0 = (grow k (words16 l)).getD j 0 := by
  unfold moreW
  rw [List.getD, List.getD, List.getElem?_append_left (by rw [grow_len, words16_len]; exact hj)]
theorem moreW_next (l : List UInt8) (k : Nat) (hk : k < 48) :
    moreW l (k + 1) = (moreW l k).set (k + 16) ((moreW l k).getD k 0 + (moreW l k).getD (k + 9) 0 + sig0 ((moreW l k).getD (k + 1) 0) + sig1 ((moreW l k).getD (k + 14) 0)) := by
  rw [moreW_at l k k (by omega), moreW_at l k (k + 9) (by omega), moreW_at l k (k + 1) (by omega), moreW_at l k (k + 14) (by omega)]
  have hlen : (grow k (words16 l)).length = k + 16 := by rw [grow_len, words16_len]; omega
  have e : nextW (grow k (words16 l)) = (grow k (words16 l)).getD k 0 + (grow k (words16 l)).getD (k + 9) 0 + sig0 ((grow k (words16 l)).getD (k + 1) 0) + sig1 ((grow k (words16 l)).getD (k + 14) 0) := by
    unfold nextW
    rw [hlen, show k + 16 - 16 = k by omega, show k + 16 - 7 = k + 9 by omega, show k + 16 - 15 = k + 1 by omega, show k + 16 - 2 = k + 14 by omega]
  rw [← e]
  unfold moreW
  rw [grow_succ, show 48 - k = (48 - (k + 1)) + 1 by omega, List.replicate_succ, List.set_append_right _ _ (by omega), hlen, show k + 16 - (k + 16) = 0 by omega, List.set_cons_zero, List.append_assoc]
  rfl
theorem moreW_all (l : List UInt8) : moreW l 48 = grow 48 (words16 l) := by simp [moreW]
/-- the rounds, so many done -/
def roundW (v : St) (L : List Wd) (k : Nat) : St := rounds v ((kTab.zip L).take k)
theorem roundW_succ (v : St) (L : List Wd) (hL : L.length = 64) (k : Nat) (hk : k < 64) : roundW v L (k + 1) = rnd (roundW v L k) (kTab.getD k 0) (L.getD k 0) := by
  have hz : (kTab.zip L).length = 64 := by rw [List.length_zip, hL]; rfl
  unfold roundW rounds
  rw [List.take_add_one, List.foldl_append, List.getElem?_eq_getElem (by omega)]
  simp only [Option.toList_some, List.foldl_cons, List.foldl_nil, List.getElem_zip]
  rw [List.getD, List.getElem?_eq_getElem (show k < kTab.length from hk), List.getD, List.getElem?_eq_getElem (show k < L.length by omega)]
  rfl
theorem roundW_all (v : St) (L : List Wd) (hL : L.length = 64) : roundW v L 64 = rounds v (kTab.zip L) := by
  unfold roundW
  rw [List.take_of_length_le (by rw [List.length_zip, hL]; exact Nat.le_refl _)]
end Go.Proofs.YtpmmjomejackkaaGreatDoor
end
