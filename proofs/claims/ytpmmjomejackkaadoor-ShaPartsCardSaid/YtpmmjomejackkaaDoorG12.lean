/- What the later texts stand on (Sha2, Sha3, Row, Row2, Strs, Bs): plain laws and walks, each by its own conditions. -/
import Derived.Test.YtpmmjomejackkaaDoorG3
import Derived.Test.YtpmmjomejackkaaDoorRows
import Derived.ProofKit
import Derived.OpenShut
import Derived.Lib.SmallJoins
import Derived.ChangeMaps5
import Derived.Carry
import Derived.SliceStrings
import Derived.Deep.DeepHandedRow
import Derived.Lib.LaidTab
set_option linter.unusedSimpArgs false
set_option linter.unusedVariables false
section
set_option linter.unusedSimpArgs false
set_option linter.unusedVariables false
namespace Go.Proofs.YtpmmjomejackkaaDoor
open BigFrame Go.RowKit Go.Phx Go.Shelf
attribute [local go_sem] Oper.semAt_some

/-- words as cells -/
def cw (L : List Wd) : Array Value := (L.map fun x => Value.int .u32 (vw x)).toArray
theorem cw_get {L : List Wd} {i : Nat} (h : i < L.length) : (cw L)[i]? = some (.int .u32 (vw (L.getD i 0))) := by
  unfold cw
  simp [List.getElem?_eq_getElem h, List.getD]
theorem cw_set (L : List Wd) (i : Nat) (x : Wd) : (cw L).setIfInBounds i (.int .u32 (vw x)) = cw (L.set i x) := by
  unfold cw
  rw [List.setIfInBounds_toArray, List.map_set]
/-- a byte as a word -/
def bw (c : UInt8) : Wd := BitVec.ofNat 32 c.toNat
theorem vw_bw (c : UInt8) : vw (bw c) = (c.toNat : Int) := by
  unfold vw bw
  rw [BitVec.toNat_ofNat]
  have := c.toNat_lt
  omega
theorem bw_lt (c : UInt8) : vw (bw c) < 256 := by
  rw [vw_bw]
  have := c.toNat_lt
  omega
theorem index_at (s : ByteArray) (k : Nat) (hk : k < s.size) (h63 : s.size ≤ 9223372036854775807) (w : World) : (Instr.index 9 (.string s) (.int .i64 (k : Int))).run Tryd.prog w = .ok (.int .u8 (vw (bw (s.data.toList.getD k 0)))) w := by
  have hd : Tryd.prog.underlying 9 = some .string := by kernel_rfl
  rw [vw_bw]
  simp [go_sem, Instr.index, hd, hk]
  rfl
/-- the words of a block, so many bytes taken in -/
def firstW (l : List UInt8) : Nat → List Wd
  | 0 => List.replicate 64 0
  | k + 1 => (firstW l k).set (k / 4) ((firstW l k).getD (k / 4) 0 <<< 8 ||| bw (l.getD k 0))
theorem firstW_len (l : List UInt8) (k : Nat) : (firstW l k).length = 64 := by
  induction k with
  | zero => simp [firstW]
  | succ k ih => simp [firstW, ih]
/-- the variable sha.k holds the constants -/
def HasK (w : World) : Prop := (∀ i, i < 64 → w.cell? ⟨0, i, none⟩ = some (.int .u32 (vw (kTab.getD i 0)))) ∧ 0 < w.heap.size
theorem HasK.on {w w' : World} (h : HasK w) (hB : Below w.heap.size w w') : HasK w' :=
  ⟨fun i hi => (hB.cell (p := ⟨0, i, none⟩) h.2).trans (h.1 i hi), Nat.lt_of_lt_of_le h.2 hB.size⟩
theorem HasK.from {n : Nat} {w w' : World} (h : HasK w) (hB : Below n w w') (hn : 0 < n) : HasK w' :=
  ⟨fun i hi => (hB.cell (p := ⟨0, i, none⟩) hn).trans (h.1 i hi), Nat.lt_of_lt_of_le h.2 hB.size⟩
theorem HasK.alloc {w : World} (h : HasK w) (o : Obj) : HasK (w.alloc o) := h.on ((Below.refl _ _).alloc (Nat.le_refl _) _)
/-- eight words as cells -/
def cS (v : St) : Array Value := #[.int .u32 (vw v.a), .int .u32 (vw v.b), .int .u32 (vw v.c), .int .u32 (vw v.d), .int .u32 (vw v.e), .int .u32 (vw v.f), .int .u32 (vw v.g), .int .u32 (vw v.h)]
/-- what a call that writes block b alone leaves -/
def Wrote (w : World) (b : Nat) (t : TypeId) (cs : Array Value) (e : Ending) (w' : World) : Prop := e = .returned (.tuple #[]) ∧ w.grownBy w' (some b) ∧ Blk w' b t cs
theorem grown_of {w w' : World} {b : Nat} (hB : Below w.heap.size w w') : w.grownBy w' (some b) := ⟨hB.os, hB.tape, hB.output, hB.size, fun k hk _ => hB.block k hk⟩
theorem grown_on {w W w' : World} {b : Nat} (G : w.grownBy W (some b)) (hB : Below W.heap.size W w') : w.grownBy w' (some b) :=
  ⟨hB.os.trans G.os, hB.tape.trans G.tape, hB.output.trans G.output, Nat.le_trans G.size hB.size, fun k hk hn => (hB.block k (Nat.lt_of_lt_of_le hk G.size)).trans (G.block k hk hn)⟩
theorem grown_set {w W : World} {b i : Nat} {u : Value} (G : w.grownBy W (some b)) : w.grownBy (W.setCell ⟨b, i, none⟩ u) (some b) :=
  ⟨G.os, G.tape, G.output, by rw [size_set]; exact G.size, fun k hk hn => (Below.heap_setCell _ _ _ _ (fun e => hn (by rw [e]))).trans (G.block k hk hn)⟩
@[go_sem] theorem add_w' (x y : Wd) : (vw x + vw y) % 4294967296 = vw (x + y) := by
  rw [← add_w x y, IntKind.wrap_u32']
theorem shl_w' (x : Wd) (n : Nat) (k : Int) (hk : k = 2 ^ n) : vw x * k % 4294967296 = vw (x <<< n) := by
  rw [← shl_w x n k hk, IntKind.wrap_u32']

/-! ### what the words of a block come to -/
theorem getD_set_eq {L : List Wd} {i : Nat} (h : i < L.length) (x : Wd) : (L.set i x).getD i 0 = x := by simp [List.getD, h]
theorem sha_set_ne {L : List Wd} {i j : Nat} (h : i ≠ j) (x : Wd) : (L.set i x).getD j 0 = L.getD j 0 := by simp [List.getD, List.getElem?_set_ne h]
theorem wordOf_snoc (l : List UInt8) (c : UInt8) : wordOf (l ++ [c]) = wordOf l <<< 8 ||| bw c := by unfold wordOf bw; simp
theorem take_snoc8 (l : List UInt8) (a n : Nat) (h : a + n < l.length) : (l.drop a).take (n + 1) = (l.drop a).take n ++ [l.getD (a + n) 0] := by
  rw [List.take_add_one]
  congr 1
  rw [List.getElem?_drop, List.getD, List.getElem?_eq_getElem h]
  rfl
theorem firstW_at (l : List UInt8) (hl : l.length = 64) (k : Nat) (hk : k ≤ 64) (j : Nat) (hj : j < 64) :
    (firstW l k).getD j 0 = wordOf ((l.drop (4 * j)).take (min 4 (k - 4 * j))) := by
  induction k with
  | zero =>
    rw [show min 4 (0 - 4 * j) = 0 by omega, firstW, List.getD, List.getElem?_replicate, if_pos hj]
    rfl
  | succ k ih =>
    have ih := ih (by omega)
    have hlen := firstW_len l k
    by_cases h : k / 4 = j
    · subst h
      rw [firstW, getD_set_eq (by omega), ih, ← wordOf_snoc, show min 4 (k - 4 * (k / 4)) = k - 4 * (k / 4) by omega, show min 4 (k + 1 - 4 * (k / 4)) = (k - 4 * (k / 4)) + 1 by omega,
        take_snoc8 l (4 * (k / 4)) (k - 4 * (k / 4)) (by omega), show 4 * (k / 4) + (k - 4 * (k / 4)) = k by omega]
    · rw [firstW, sha_set_ne h, ih, show min 4 (k + 1 - 4 * j) = min 4 (k - 4 * j) by omega]
theorem words16_len (l : List UInt8) : (words16 l).length = 16 := by simp [words16]
theorem firstW_all (l : List UInt8) (hl : l.length = 64) : firstW l 64 = words16 l ++ List.replicate 48 0 := by
  apply List.ext_getElem?
  intro j
  have hlen := firstW_len l 64
  by_cases hj : j < 64
  · have h1 := firstW_at l hl 64 (Nat.le_refl _) j hj
    rw [List.getD, List.getElem?_eq_getElem (by omega)] at h1
    rw [List.getElem?_eq_getElem (by omega)]
    simp only [Option.getD_some] at h1
    rw [h1]
    by_cases h16 : j < 16
    · rw [List.getElem?_append_left (by simp [words16]; exact h16), show min 4 (64 - 4 * j) = 4 by omega]
      simp [words16, h16]
    · rw [List.getElem?_append_right (by rw [words16_len]; omega), words16_len, List.getElem?_replicate, if_pos (by omega), show min 4 (64 - 4 * j) = 0 by omega]
      rfl
  · rw [List.getElem?_eq_none (by omega), List.getElem?_eq_none (by simp [words16]; omega)]
theorem grow_len (n : Nat) (w : List Wd) : (grow n w).length = w.length + n := by
  induction n generalizing w with
  | zero => rfl
  | succ n ih => rw [grow, ih]; simp; omega
theorem grow_succ (n : Nat) (w : List Wd) : grow (n + 1) w = grow n w ++ [nextW (grow n w)] := by
  induction n generalizing w with
  | zero => rfl
  | succ n ih => rw [grow, ih, grow]
/-- the row of words, so many reckoned -/
def moreW (l : List UInt8) (k : Nat) : List Wd := grow k (words16 l) ++ List.replicate (48 - k) 0
theorem moreW_len (l : List UInt8) (k : Nat) (hk : k ≤ 48) : (moreW l k).length = 64 := by
  unfold moreW
  rw [List.length_append, grow_len, words16_len, List.length_replicate]
  omega
theorem moreW_at (l : List UInt8) (k : Nat) (j : Nat) (hj : j < 16 + k) : (moreW l k).getD j 0 = (grow k (words16 l)).getD j 0 := by
  unfold moreW
  rw [List.getD, List.getD, List.getElem?_append_left (by rw [grow_len, words16_len]; exact hj)]
theorem moreW_next (l : List UInt8) (k : Nat) (hk : k < 48) :
    moreW l (k + 1) = (moreW l k).set (k + 16) ((moreW l k).getD k 0 + (moreW l k).getD (k + 9) 0 + sig0 ((moreW l k).getD (k + 1) 0) + sig1 ((moreW l k).getD (k + 14) 0)) := by
  rw [moreW_at l k k (by omega), moreW_at l k (k + 9) (by omega), moreW_at l k (k + 1) (by omega), moreW_at l k (k + 14) (by omega)]
  have hlen : (grow k (words16 l)).length = k + 16 := by rw [grow_len, words16_len]; omega
  have e : nextW (grow k (words16 l)) = (grow k (words16 l)).getD k 0 + (grow k (words16 l)).getD (k + 9) 0 + sig0 ((grow k (words16 l)).getD (k + 1) 0) + sig1 ((grow k (words16 l)).getD (k + 14) 0) := by
    unfold nextW
    rw [hlen, show k + 16 - 16 = k by omega, show k + 16 - 7 = k + 9 by omega, show k + 16 - 15 = k + 1 by omega, show k + 16 - 2 = k + 14 by omega]
  rw [← e]
  unfold moreW
  rw [grow_succ, show 48 - k = (48 - (k + 1)) + 1 by omega, List.replicate_succ, List.set_append_right _ _ (by omega), hlen, show k + 16 - (k + 16) = 0 by omega, List.set_cons_zero, List.append_assoc]
  rfl
theorem moreW_all (l : List UInt8) : moreW l 48 = grow 48 (words16 l) := by simp [moreW]
/-- the rounds, so many done -/
def roundW (v : St) (L : List Wd) (k : Nat) : St := rounds v ((kTab.zip L).take k)
theorem roundW_succ (v : St) (L : List Wd) (hL : L.length = 64) (k : Nat) (hk : k < 64) : roundW v L (k + 1) = rnd (roundW v L k) (kTab.getD k 0) (L.getD k 0) := by
  have hz : (kTab.zip L).length = 64 := by rw [List.length_zip, hL]; rfl
  unfold roundW rounds
  rw [List.take_add_one, List.foldl_append, List.getElem?_eq_getElem (by omega)]
  simp only [Option.toList_some, List.foldl_cons, List.foldl_nil, List.getElem_zip]
  rw [List.getD, List.getElem?_eq_getElem (show k < kTab.length from hk), List.getD, List.getElem?_eq_getElem (show k < L.length by omega)]
  rfl
theorem roundW_all (v : St) (L : List Wd) (hL : L.length = 64) : roundW v L 64 = rounds v (kTab.zip L) := by
  unfold roundW
  rw [List.take_of_length_le (by rw [List.length_zip, hL]; exact Nat.le_refl _)]
end Go.Proofs.YtpmmjomejackkaaDoor
end
section
set_option linter.unusedSimpArgs false
set_option linter.unusedVariables false
namespace Go.Proofs.YtpmmjomejackkaaDoor
open BigFrame Go.RowKit Go.Phx Go.Shelf
attribute [local go_sem] Oper.semAt_some

/-! a row of eight words, read at a place -/
theorem ix8_0 (x0 x1 x2 x3 x4 x5 x6 x7 : Value) (w : World) : (Instr.index 63 (.agg #[x0, x1, x2, x3, x4, x5, x6, x7]) (.int .i64 0)).run Tryd.prog w = .ok x0 w := by
  have hd : Tryd.prog.underlying 63 = some (.array 8 62) := by kernel_rfl
  simp [go_sem, Instr.index, hd]
theorem ix8_1 (x0 x1 x2 x3 x4 x5 x6 x7 : Value) (w : World) : (Instr.index 63 (.agg #[x0, x1, x2, x3, x4, x5, x6, x7]) (.int .i64 1)).run Tryd.prog w = .ok x1 w := by
  have hd : Tryd.prog.underlying 63 = some (.array 8 62) := by kernel_rfl
  simp [go_sem, Instr.index, hd]
theorem ix8_2 (x0 x1 x2 x3 x4 x5 x6 x7 : Value) (w : World) : (Instr.index 63 (.agg #[x0, x1, x2, x3, x4, x5, x6, x7]) (.int .i64 2)).run Tryd.prog w = .ok x2 w := by
  have hd : Tryd.prog.underlying 63 = some (.array 8 62) := by kernel_rfl
  simp [go_sem, Instr.index, hd]
theorem ix8_3 (x0 x1 x2 x3 x4 x5 x6 x7 : Value) (w : World) : (Instr.index 63 (.agg #[x0, x1, x2, x3, x4, x5, x6, x7]) (.int .i64 3)).run Tryd.prog w = .ok x3 w := by
  have hd : Tryd.prog.underlying 63 = some (.array 8 62) := by kernel_rfl
  simp [go_sem, Instr.index, hd]
theorem ix8_4 (x0 x1 x2 x3 x4 x5 x6 x7 : Value) (w : World) : (Instr.index 63 (.agg #[x0, x1, x2, x3, x4, x5, x6, x7]) (.int .i64 4)).run Tryd.prog w = .ok x4 w := by
  have hd : Tryd.prog.underlying 63 = some (.array 8 62) := by kernel_rfl
  simp [go_sem, Instr.index, hd]
theorem ix8_5 (x0 x1 x2 x3 x4 x5 x6 x7 : Value) (w : World) : (Instr.index 63 (.agg #[x0, x1, x2, x3, x4, x5, x6, x7]) (.int .i64 5)).run Tryd.prog w = .ok x5 w := by
  have hd : Tryd.prog.underlying 63 = some (.array 8 62) := by kernel_rfl
  simp [go_sem, Instr.index, hd]
theorem ix8_6 (x0 x1 x2 x3 x4 x5 x6 x7 : Value) (w : World) : (Instr.index 63 (.agg #[x0, x1, x2, x3, x4, x5, x6, x7]) (.int .i64 6)).run Tryd.prog w = .ok x6 w := by
  have hd : Tryd.prog.underlying 63 = some (.array 8 62) := by kernel_rfl
  simp [go_sem, Instr.index, hd]
theorem ix8_7 (x0 x1 x2 x3 x4 x5 x6 x7 : Value) (w : World) : (Instr.index 63 (.agg #[x0, x1, x2, x3, x4, x5, x6, x7]) (.int .i64 7)).run Tryd.prog w = .ok x7 w := by
  have hd : Tryd.prog.underlying 63 = some (.array 8 62) := by kernel_rfl
  simp [go_sem, Instr.index, hd]
attribute [local go_sem] ix8_0 ix8_1 ix8_2 ix8_3 ix8_4 ix8_5 ix8_6 ix8_7
set_option maxRecDepth 100000 in
set_option maxHeartbeats 16000000 in
theorem take_calls (b : Nat) (v : St) (s : ByteArray) (hs : s.size = 64) (w : World) (hk : HasK w) (hb : Blk w b 63 (cS v)) (hne : b ≠ 0) :
    Calls Tryd.prog 61 #[.pointer (some ⟨b, 0, none⟩), .string s] w (Wrote w b 63 (cS (takeB v s.data.toList))) := by
  have hidx := index_at s
  obtain ⟨l, hl⟩ : ∃ l, s.data.toList = l := ⟨_, rfl⟩
  have hll : l.length = 64 := by rw [← hl]; simpa using hs
  rw [hl] at hidx ⊢
  clear hl
  have hx0 : ∀ k : Nat, k < 64 → ∀ w, (Instr.index 9 (.string s) (.int .i64 (k : Int))).run Tryd.prog w = .ok (.int .u8 (vw (bw (l.getD k 0)))) w := fun k hk => hidx k (by omega) (by omega)
  clear hidx hs
  have hF1 := Lib.hid (firstW_all l hll)
  replace hll := Lib.hid hll
  have KH := Lib.hid hb
  have hbl := hb.lt
  have HK := Lib.hid hk
  have hkl := hk.2
  clear hb hk
  have hTB : takeB v l = v.add (roundW v (moreW l 48) 64) := by
    rw [roundW_all _ _ (moreW_len l 48 (by decide)), moreW_all]
    rfl
  rw [hTB]
  clear hTB
  go_enter Tryd.func61, Tryd.ntmps61
  go_wp2_with fail
  go_loopw [22, 5] (fun i j wr => ∃ k : Nat, k ≤ 64 ∧ i = .int .i64 k ∧ Blk wr w.heap.size 114 (cw (firstW l k)) ∧ Below w.heap.size w wr)
    (fun i _ _ => (64 - intOf i).toNat)
  case atStart => exact ⟨0, Nat.zero_le _, rfl, Blk.to (Blk.new0 _ _ _) rfl, (by repeat (first | assumption | exact Below.refl _ _ | refine Below.setCell ?_ (by first | exact Nat.le_refl _ | (simp; done) | omega | (simp; omega)) _ | refine Below.alloc ?_ (by first | exact Nat.le_refl _ | (simp; done) | omega | (simp; omega)) _ | refine below_drewN ?_ _ | refine Below.drew ?_ | refine Below.on (by assumption) ?_ | refine Below.via (by assumption) (by first | exact Nat.le_refl _ | (simp; done) | omega | (simp; omega)) ?_))⟩
  case round =>
    obtain ⟨k, hk, rfl, K0, HB⟩ := hrel
    by_cases hlt : k < 64
    · have HX := hx0 k hlt
      have hlen := firstW_len l k
      have g0 := cw_get (L := firstW l k) (i := k / 4) (by omega)
      have v1 := vw_nonneg (bw (l.getD k 0))
      have v2 := bw_lt (l.getD k 0)
      have e1 := shl_w' ((firstW l k).getD (k / 4) 0) 8 256 rfl
      have HS := (show firstW l (k + 1) = (firstW l k).set (k / 4) ((firstW l k).getD (k / 4) 0 <<< 8 ||| bw (l.getD k 0)) from rfl)
      have hc := cw_set (firstW l k) (k / 4) ((firstW l k).getD (k / 4) 0 <<< 8 ||| bw (l.getD k 0))
      rw [← HS] at hc
      replace hc := Lib.hid hc
      clear hlen HS
      generalize (firstW l k).getD (k / 4) 0 = x at *
      generalize firstW l k = L at *
      generalize bw (l.getD k 0) = c at *
      clear hx0 hF1
      replace K0 := Lib.hid K0
      (have k0 := Blk.cell K0.out; have f0 := Blk.free K0.out; have l0 := Blk.lt K0.out; have m0 := Nat.le_of_lt l0)
      go_wp2_with fail
      (refine wp_region_later_tail 13 (by kernel_rfl) (by kernel_rfl) ?_; simp only [List.take_succ_cons, List.take_zero, List.drop_succ_cons, List.drop_zero]; (repeat (go_big_quiet_step (fail))); refine wpQuiet_nil ?_; intro w' hB)
      (have HBn : Below w.heap.size w w' := Below.on hB (by repeat (first | assumption | exact Below.refl _ _ | refine Below.setCell ?_ (by first | exact Nat.le_refl _ | (simp; done) | omega | (simp; omega)) _ | refine Below.alloc ?_ (by first | exact Nat.le_refl _ | (simp; done) | omega | (simp; omega)) _ | refine below_drewN ?_ _ | refine Below.drew ?_ | refine Below.on (by assumption) ?_ | refine Below.via (by assumption) (by first | exact Nat.le_refl _ | (simp; done) | omega | (simp; omega)) ?_)); have N0 := Lib.hid (Blk.below (g := w.heap.size) (by repeat (first | with_reducible exact K0.out | with_reducible exact Blk.new0 _ _ _ | with_reducible exact Blk.new1 _ _ _ _ | with_reducible exact Blk.new2 _ _ _ _ _ | with_reducible exact Blk.new3 _ _ _ _ _ _ | with_reducible exact Blk.new4 _ _ _ _ _ _ _ | with_reducible exact Blk.newS1 _ _ _ _ _ | with_reducible exact Blk.newS2 _ _ _ _ _ _ _ | with_reducible exact Blk.newS3 _ _ _ _ _ _ _ _ _ | with_reducible apply Blk.set_ | with_reducible apply Blk.alloc | with_reducible apply Blk.drewN | with_reducible apply Blk.drew | (with_reducible apply Blk.over2; first | assumption | omega))) hB); (try simp only [List.setIfInBounds_toArray, List.set_cons_succ, List.set_cons_zero] at N0); clear K0 k0 f0 l0 m0; (try clear HB); clear hB; have HB := HBn; clear HBn; have HZw' := HB.size; have K0 := N0; clear N0; have k0 := Blk.cell K0.out; have f0 := Blk.free K0.out; have l0 := Blk.lt K0.out; have m0 := Nat.le_of_lt l0)
      go_wp2_with fail
      go_roundw
      case rel => exact ⟨k + 1, by omega, by go_num, by rw [← hc.out]; exact K0.out.set_ _ _, (by repeat (first | assumption | exact Below.refl _ _ | refine Below.setCell ?_ (by first | exact Nat.le_refl _ | (simp; done) | omega | (simp; omega)) _ | refine Below.alloc ?_ (by first | exact Nat.le_refl _ | (simp; done) | omega | (simp; omega)) _ | refine below_drewN ?_ _ | refine Below.drew ?_ | refine Below.on (by assumption) ?_ | refine Below.via (by assumption) (by first | exact Nat.le_refl _ | (simp; done) | omega | (simp; omega)) ?_))⟩
      case measure => simp [intOf]; omega
    · obtain rfl : k = 64 := by omega
      rw [hF1.out] at K0
      simp only [show ((64 : Nat) : Int) = 64 from rfl]
      change Blk wr _ _ (cw (moreW l 0)) at K0
      clear hx0 hF1
      go_wp2_with fail
      go_loopw [6] (fun i wr2 => ∃ k : Nat, k ≤ 48 ∧ i = .int .i64 ((k : Int) + 16) ∧ Blk wr2 w.heap.size 114 (cw (moreW l k)) ∧ Below w.heap.size w wr2)
        (fun i _ => (64 - intOf i).toNat)
      case atStart => exact ⟨0, Nat.zero_le _, rfl, K0, HB⟩
      case round =>
        clear K0 HB
        obtain ⟨k, hk, rfl, K0, HB⟩ := hrel
        by_cases hlt : k < 48
        · have HN := moreW_next l k hlt
          have hlen := moreW_len l k hk
          have hc := cw_set (moreW l k) (k + 16) ((moreW l k).getD k 0 + (moreW l k).getD (k + 9) 0 + sig0 ((moreW l k).getD (k + 1) 0) + sig1 ((moreW l k).getD (k + 14) 0))
          rw [← HN] at hc
          have g0 := cw_get (L := moreW l k) (i := k) (by omega)
          have g9 := cw_get (L := moreW l k) (i := k + 9) (by omega)
          have g1 := cw_get (L := moreW l k) (i := k + 1) (by omega)
          have g14 := cw_get (L := moreW l k) (i := k + 14) (by omega)
          have g16 := cw_get (L := moreW l k) (i := k + 16) (by omega)
          clear HN hlen
          generalize (moreW l k).getD k 0 = x0 at *
          generalize (moreW l k).getD (k + 9) 0 = x9 at *
          generalize (moreW l k).getD (k + 1) 0 = x1 at *
          generalize (moreW l k).getD (k + 14) 0 = x14 at *
          generalize (moreW l k).getD (k + 16) 0 = x16 at *
          generalize moreW l k = L at *
          have g9' := g9
          rw [show k + 9 = k + 16 - 7 from rfl] at g9'
          have g1' := g1
          rw [show k + 1 = k + 16 - 15 from rfl] at g1'
          have g14' := g14
          rw [show k + 14 = k + 16 - 2 from rfl] at g14'
          replace hc := Lib.hid hc
          have e1 := shr_w x1 3 8 rfl
          have e2 := shr_w x14 10 1024 rfl
          replace K0 := Lib.hid K0
          (have k0 := Blk.cell K0.out; have f0 := Blk.free K0.out; have l0 := Blk.lt K0.out; have m0 := Nat.le_of_lt l0)
          go_wp2_with fail
          (refine wp_region_later (by kernel_rfl) (by kernel_rfl) ?_; (repeat (go_big_quiet_step (fail))); refine wpQuiet_nil ?_; intro w' hB)
          (have HBn : Below w.heap.size w w' := Below.on hB (by repeat (first | assumption | exact Below.refl _ _ | refine Below.setCell ?_ (by first | exact Nat.le_refl _ | (simp; done) | omega | (simp; omega)) _ | refine Below.alloc ?_ (by first | exact Nat.le_refl _ | (simp; done) | omega | (simp; omega)) _ | refine below_drewN ?_ _ | refine Below.drew ?_ | refine Below.on (by assumption) ?_ | refine Below.via (by assumption) (by first | exact Nat.le_refl _ | (simp; done) | omega | (simp; omega)) ?_)); have N0 := Lib.hid (Blk.below (g := w.heap.size) (by repeat (first | with_reducible exact K0.out | with_reducible exact Blk.new0 _ _ _ | with_reducible exact Blk.new1 _ _ _ _ | with_reducible exact Blk.new2 _ _ _ _ _ | with_reducible exact Blk.new3 _ _ _ _ _ _ | with_reducible exact Blk.new4 _ _ _ _ _ _ _ | with_reducible exact Blk.newS1 _ _ _ _ _ | with_reducible exact Blk.newS2 _ _ _ _ _ _ _ | with_reducible exact Blk.newS3 _ _ _ _ _ _ _ _ _ | with_reducible apply Blk.set_ | with_reducible apply Blk.alloc | with_reducible apply Blk.drewN | with_reducible apply Blk.drew | (with_reducible apply Blk.over2; first | assumption | omega))) hB); (try simp only [List.setIfInBounds_toArray, List.set_cons_succ, List.set_cons_zero] at N0); clear K0 k0 f0 l0 m0; (try clear HB); clear hB; have HB := HBn; clear HBn; have HZw' := HB.size; have K0 := N0; clear N0; have k0 := Blk.cell K0.out; have f0 := Blk.free K0.out; have l0 := Blk.lt K0.out; have m0 := Nat.le_of_lt l0)
          go_wp2_with fail
          (refine wp_region_later_tail 29 (by kernel_rfl) (by kernel_rfl) ?_; simp only [List.take_succ_cons, List.take_zero, List.drop_succ_cons, List.drop_zero]; (repeat (go_big_quiet_step ((go_at_call 100; with_reducible exact lw (turn_of _ _ (by decide) _))))); refine wpQuiet_nil ?_; intro w' hB)
          (have HBn : Below w.heap.size w w' := Below.on hB (by repeat (first | assumption | exact Below.refl _ _ | refine Below.setCell ?_ (by first | exact Nat.le_refl _ | (simp; done) | omega | (simp; omega)) _ | refine Below.alloc ?_ (by first | exact Nat.le_refl _ | (simp; done) | omega | (simp; omega)) _ | refine below_drewN ?_ _ | refine Below.drew ?_ | refine Below.on (by assumption) ?_ | refine Below.via (by assumption) (by first | exact Nat.le_refl _ | (simp; done) | omega | (simp; omega)) ?_)); have N0 := Lib.hid (Blk.below (g := w.heap.size) (by repeat (first | with_reducible exact K0.out | with_reducible exact Blk.new0 _ _ _ | with_reducible exact Blk.new1 _ _ _ _ | with_reducible exact Blk.new2 _ _ _ _ _ | with_reducible exact Blk.new3 _ _ _ _ _ _ | with_reducible exact Blk.new4 _ _ _ _ _ _ _ | with_reducible exact Blk.newS1 _ _ _ _ _ | with_reducible exact Blk.newS2 _ _ _ _ _ _ _ | with_reducible exact Blk.newS3 _ _ _ _ _ _ _ _ _ | with_reducible apply Blk.set_ | with_reducible apply Blk.alloc | with_reducible apply Blk.drewN | with_reducible apply Blk.drew | (with_reducible apply Blk.over2; first | assumption | omega))) hB); (try simp only [List.setIfInBounds_toArray, List.set_cons_succ, List.set_cons_zero] at N0); clear K0 k0 f0 l0 m0; (try clear HB); clear hB; have HB := HBn; clear HBn; have HZw' := HB.size; have K0 := N0; clear N0; have k0 := Blk.cell K0.out; have f0 := Blk.free K0.out; have l0 := Blk.lt K0.out; have m0 := Nat.le_of_lt l0)
          go_wp2_with fail
          go_roundw
          case rel => exact ⟨k + 1, by omega, by congr 1 <;> omega, by rw [← hc.out]; exact K0.out.set_ _ _, (by repeat (first | assumption | exact Below.refl _ _ | refine Below.setCell ?_ (by first | exact Nat.le_refl _ | (simp; done) | omega | (simp; omega)) _ | refine Below.alloc ?_ (by first | exact Nat.le_refl _ | (simp; done) | omega | (simp; omega)) _ | refine below_drewN ?_ _ | refine Below.drew ?_ | refine Below.on (by assumption) ?_ | refine Below.via (by assumption) (by first | exact Nat.le_refl _ | (simp; done) | omega | (simp; omega)) ?_))⟩
          case measure => simp [intOf]; omega
        · obtain rfl : k = 48 := by omega
          simp only [show ((48 : Nat) : Int) + 16 = 64 from rfl]
          have hlen := moreW_len l 48 (by decide)
          have HR := fun k hk => roundW_succ v (moreW l 48) hlen k hk
          have hg := fun (i : Nat) (hi : i < 64) => cw_get (L := moreW l 48) (i := i) (by omega)
          generalize moreW l 48 = L at *
          clear hlen
          have K1 := KH.out.on HB hbl
          unfold cS at K1
          replace K1 := Lib.hid K1
          have HK1 := HK.out.from HB hkl
          replace K0 := Lib.hid K0
          (have k0 := Blk.cell K0.out; have f0 := Blk.free K0.out; have l0 := Blk.lt K0.out; have m0 := Nat.le_of_lt l0; have k1 := Blk.cell K1.out; have f1 := Blk.free K1.out; have l1 := Blk.lt K1.out; have m1 := Nat.le_of_lt l1)
          go_wp2_with fail
          (refine wp_region_later (by kernel_rfl) (by kernel_rfl) ?_; (repeat (go_big_quiet_step (fail))); refine wpQuiet_nil ?_; intro w' hB)
          have HK2 := Lib.hid (HK1.on hB)
          clear HK1
          (have HBn : Below w.heap.size w w' := Below.on hB (by repeat (first | assumption | exact Below.refl _ _ | refine Below.setCell ?_ (by first | exact Nat.le_refl _ | (simp; done) | omega | (simp; omega)) _ | refine Below.alloc ?_ (by first | exact Nat.le_refl _ | (simp; done) | omega | (simp; omega)) _ | refine below_drewN ?_ _ | refine Below.drew ?_ | refine Below.on (by assumption) ?_ | refine Below.via (by assumption) (by first | exact Nat.le_refl _ | (simp; done) | omega | (simp; omega)) ?_)); have N0 := Lib.hid (Blk.below (g := w.heap.size) (by repeat (first | with_reducible exact K0.out | with_reducible exact Blk.new0 _ _ _ | with_reducible exact Blk.new1 _ _ _ _ | with_reducible exact Blk.new2 _ _ _ _ _ | with_reducible exact Blk.new3 _ _ _ _ _ _ | with_reducible exact Blk.new4 _ _ _ _ _ _ _ | with_reducible exact Blk.newS1 _ _ _ _ _ | with_reducible exact Blk.newS2 _ _ _ _ _ _ _ | with_reducible exact Blk.newS3 _ _ _ _ _ _ _ _ _ | with_reducible apply Blk.set_ | with_reducible apply Blk.alloc | with_reducible apply Blk.drewN | with_reducible apply Blk.drew | (with_reducible apply Blk.over2; first | assumption | omega))) hB); (try simp only [List.setIfInBounds_toArray, List.set_cons_succ, List.set_cons_zero] at N0); have N1 := Lib.hid (Blk.below (g := b) (by repeat (first | with_reducible exact K1.out | with_reducible exact Blk.new0 _ _ _ | with_reducible exact Blk.new1 _ _ _ _ | with_reducible exact Blk.new2 _ _ _ _ _ | with_reducible exact Blk.new3 _ _ _ _ _ _ | with_reducible exact Blk.new4 _ _ _ _ _ _ _ | with_reducible exact Blk.newS1 _ _ _ _ _ | with_reducible exact Blk.newS2 _ _ _ _ _ _ _ | with_reducible exact Blk.newS3 _ _ _ _ _ _ _ _ _ | with_reducible apply Blk.set_ | with_reducible apply Blk.alloc | with_reducible apply Blk.drewN | with_reducible apply Blk.drew | (with_reducible apply Blk.over2; first | assumption | omega))) hB); (try simp only [List.setIfInBounds_toArray, List.set_cons_succ, List.set_cons_zero] at N1); clear K0 k0 f0 l0 m0 K1 k1 f1 l1 m1; (try clear HB); clear hB; have HB := HBn; clear HBn; have HZw' := HB.size; have K0 := N0; clear N0; have k0 := Blk.cell K0.out; have f0 := Blk.free K0.out; have l0 := Blk.lt K0.out; have m0 := Nat.le_of_lt l0; have K1 := N1; clear N1; have k1 := Blk.cell K1.out; have f1 := Blk.free K1.out; have l1 := Blk.lt K1.out; have m1 := Nat.le_of_lt l1)
          go_wp2_with fail
          go_loopw [9, 10, 11, 12, 13, 14, 15, 16, 112] (fun a1 b1 c1 d1 e1 f1 g1 h1 i wr3 => ∃ (k : Nat) (u : St), k ≤ 64 ∧ u = roundW v L k ∧ i = .int .i64 k ∧ a1 = .int .u32 (vw u.a) ∧ b1 = .int .u32 (vw u.b) ∧ c1 = .int .u32 (vw u.c) ∧ d1 = .int .u32 (vw u.d) ∧ e1 = .int .u32 (vw u.e) ∧ f1 = .int .u32 (vw u.f) ∧ g1 = .int .u32 (vw u.g) ∧ h1 = .int .u32 (vw u.h) ∧
              Blk wr3 w.heap.size 114 (cw L) ∧ Below w.heap.size w wr3)
            (fun _ _ _ _ _ _ _ _ i _ => (64 - intOf i).toNat)
          case atStart => exact ⟨0, v, Nat.zero_le _, rfl, rfl, rfl, rfl, rfl, rfl, rfl, rfl, rfl, rfl, K0.out, HB⟩
          case round =>
            clear K0 K1 k0 f0 l0 m0 k1 f1 l1 m1 HB HZw' HK2
            obtain ⟨k, u, hk, hu, rfl, rfl, rfl, rfl, rfl, rfl, rfl, rfl, rfl, K0, HB⟩ := hrel
            by_cases hlt : k < 64
            · have HS := HR k hlt
              rw [← hu] at HS
              have hgk := hg k hlt
              have HK1 := HK.out.from HB hkl
              have hkk := HK1.1 k hlt
              have hk0 := HK1.2
              clear HR hg HK1 hu
              generalize L.getD k 0 = y at *
              generalize kTab.getD k 0 = kk at *
              replace HS := Lib.hid HS
              replace K0 := Lib.hid K0
              (have k0 := Blk.cell K0.out; have f0 := Blk.free K0.out; have l0 := Blk.lt K0.out; have m0 := Nat.le_of_lt l0)
              go_wp2_with fail
              (refine wp_region_later (by kernel_rfl) (by kernel_rfl) ?_; (repeat (go_big_quiet_step ((go_at_call 100; with_reducible exact lw (turn_of _ _ (by decide) _))))); refine wpQuiet_nil ?_; intro w' hB)
              (have HBn : Below w.heap.size w w' := Below.on hB (by repeat (first | assumption | exact Below.refl _ _ | refine Below.setCell ?_ (by first | exact Nat.le_refl _ | (simp; done) | omega | (simp; omega)) _ | refine Below.alloc ?_ (by first | exact Nat.le_refl _ | (simp; done) | omega | (simp; omega)) _ | refine below_drewN ?_ _ | refine Below.drew ?_ | refine Below.on (by assumption) ?_ | refine Below.via (by assumption) (by first | exact Nat.le_refl _ | (simp; done) | omega | (simp; omega)) ?_)); have N0 := Lib.hid (Blk.below (g := w.heap.size) (by repeat (first | with_reducible exact K0.out | with_reducible exact Blk.new0 _ _ _ | with_reducible exact Blk.new1 _ _ _ _ | with_reducible exact Blk.new2 _ _ _ _ _ | with_reducible exact Blk.new3 _ _ _ _ _ _ | with_reducible exact Blk.new4 _ _ _ _ _ _ _ | with_reducible exact Blk.newS1 _ _ _ _ _ | with_reducible exact Blk.newS2 _ _ _ _ _ _ _ | with_reducible exact Blk.newS3 _ _ _ _ _ _ _ _ _ | with_reducible apply Blk.set_ | with_reducible apply Blk.alloc | with_reducible apply Blk.drewN | with_reducible apply Blk.drew | (with_reducible apply Blk.over2; first | assumption | omega))) hB); (try simp only [List.setIfInBounds_toArray, List.set_cons_succ, List.set_cons_zero] at N0); clear K0 k0 f0 l0 m0; (try clear HB); clear hB; have HB := HBn; clear HBn; have HZw' := HB.size; have K0 := N0; clear N0; have k0 := Blk.cell K0.out; have f0 := Blk.free K0.out; have l0 := Blk.lt K0.out; have m0 := Nat.le_of_lt l0)
              go_wp2_with fail
              refine (turn_of _ _ (by decide) _).mono ?_
              rintro e w' ⟨rfl, rfl⟩
              go_wp2_with fail
              refine (turn_of _ _ (by decide) _).mono ?_
              rintro e w' ⟨rfl, rfl⟩
              go_wp2_with fail
              refine (turn_of _ _ (by decide) _).mono ?_
              rintro e w' ⟨rfl, rfl⟩
              go_wp2_with fail
              go_roundw
              case rel => exact ⟨k + 1, rnd u kk y, by omega, HS.out.symm, by congr 1 <;> omega, rfl, rfl, rfl, rfl, rfl, rfl, rfl, rfl, K0.out, HB⟩
              case measure => simp [intOf]; omega
            · obtain rfl : k = 64 := by omega
              have HU := Lib.hid hu
              clear hu HR hg
              have K1 := KH.out.on HB hbl
              have G := grown_of (b := b) HB
              clear KH HK K0 HB
              unfold cS at K1
              replace K1 := Lib.hid K1
              go_wp2_with fail
              refine wp_loop_rounds 9 ?_
              rw [rounds_succ]
              (have k1 := Blk.cell K1.out; have f1 := Blk.free K1.out; have l1 := Blk.lt K1.out; have m1 := Nat.le_of_lt l1)
              go_wp2_with fail
              (refine wp_region_later_tail 9 (by kernel_rfl) (by kernel_rfl) ?_; simp only [List.take_succ_cons, List.take_zero, List.drop_succ_cons, List.drop_zero]; (repeat (go_big_quiet_step (fail))); refine wpQuiet_nil ?_; intro w' hB)
              clear k1 f1 l1 m1
              replace K1 := Lib.hid (K1.out.below hB)
              replace G := grown_on G hB
              clear hB
              (have k1 := Blk.cell K1.out; have f1 := Blk.free K1.out; have l1 := Blk.lt K1.out; have m1 := Nat.le_of_lt l1)
              go_wp2_with fail
              clear k1 f1 l1 m1
              replace K1 := Lib.hid (K1.out.set_ 0 (.int .u32 (vw (v.a + u.a))))
              replace G := grown_set (i := 0) (u := .int .u32 (vw (v.a + u.a))) G
              simp only [List.setIfInBounds_toArray, List.set_cons_succ, List.set_cons_zero] at K1
              generalize w'.setCell ⟨b, 0, none⟩ (.int .u32 (vw (v.a + u.a))) = v0 at K1 G ⊢
              rw [rounds_succ]
              (have k1 := Blk.cell K1.out; have f1 := Blk.free K1.out; have l1 := Blk.lt K1.out; have m1 := Nat.le_of_lt l1)
              go_wp2_with fail
              (refine wp_region_later_tail 9 (by kernel_rfl) (by kernel_rfl) ?_; simp only [List.take_succ_cons, List.take_zero, List.drop_succ_cons, List.drop_zero]; (repeat (go_big_quiet_step (fail))); refine wpQuiet_nil ?_; intro w' hB)
              clear k1 f1 l1 m1
              replace K1 := Lib.hid (K1.out.below hB)
              replace G := grown_on G hB
              clear hB
              (have k1 := Blk.cell K1.out; have f1 := Blk.free K1.out; have l1 := Blk.lt K1.out; have m1 := Nat.le_of_lt l1)
              go_wp2_with fail
              clear k1 f1 l1 m1
              replace K1 := Lib.hid (K1.out.set_ 1 (.int .u32 (vw (v.b + u.b))))
              replace G := grown_set (i := 1) (u := .int .u32 (vw (v.b + u.b))) G
              simp only [List.setIfInBounds_toArray, List.set_cons_succ, List.set_cons_zero] at K1
              generalize w'.setCell ⟨b, 1, none⟩ (.int .u32 (vw (v.b + u.b))) = v1 at K1 G ⊢
              rw [rounds_succ]
              (have k1 := Blk.cell K1.out; have f1 := Blk.free K1.out; have l1 := Blk.lt K1.out; have m1 := Nat.le_of_lt l1)
              go_wp2_with fail
              (refine wp_region_later_tail 9 (by kernel_rfl) (by kernel_rfl) ?_; simp only [List.take_succ_cons, List.take_zero, List.drop_succ_cons, List.drop_zero]; (repeat (go_big_quiet_step (fail))); refine wpQuiet_nil ?_; intro w' hB)
              clear k1 f1 l1 m1
              replace K1 := Lib.hid (K1.out.below hB)
              replace G := grown_on G hB
              clear hB
              (have k1 := Blk.cell K1.out; have f1 := Blk.free K1.out; have l1 := Blk.lt K1.out; have m1 := Nat.le_of_lt l1)
              go_wp2_with fail
              clear k1 f1 l1 m1
              replace K1 := Lib.hid (K1.out.set_ 2 (.int .u32 (vw (v.c + u.c))))
              replace G := grown_set (i := 2) (u := .int .u32 (vw (v.c + u.c))) G
              simp only [List.setIfInBounds_toArray, List.set_cons_succ, List.set_cons_zero] at K1
              generalize w'.setCell ⟨b, 2, none⟩ (.int .u32 (vw (v.c + u.c))) = v2 at K1 G ⊢
              rw [rounds_succ]
              (have k1 := Blk.cell K1.out; have f1 := Blk.free K1.out; have l1 := Blk.lt K1.out; have m1 := Nat.le_of_lt l1)
              go_wp2_with fail
              (refine wp_region_later_tail 9 (by kernel_rfl) (by kernel_rfl) ?_; simp only [List.take_succ_cons, List.take_zero, List.drop_succ_cons, List.drop_zero]; (repeat (go_big_quiet_step (fail))); refine wpQuiet_nil ?_; intro w' hB)
              clear k1 f1 l1 m1
              replace K1 := Lib.hid (K1.out.below hB)
              replace G := grown_on G hB
              clear hB
              (have k1 := Blk.cell K1.out; have f1 := Blk.free K1.out; have l1 := Blk.lt K1.out; have m1 := Nat.le_of_lt l1)
              go_wp2_with fail
              clear k1 f1 l1 m1
              replace K1 := Lib.hid (K1.out.set_ 3 (.int .u32 (vw (v.d + u.d))))
              replace G := grown_set (i := 3) (u := .int .u32 (vw (v.d + u.d))) G
              simp only [List.setIfInBounds_toArray, List.set_cons_succ, List.set_cons_zero] at K1
              generalize w'.setCell ⟨b, 3, none⟩ (.int .u32 (vw (v.d + u.d))) = v3 at K1 G ⊢
              rw [rounds_succ]
              (have k1 := Blk.cell K1.out; have f1 := Blk.free K1.out; have l1 := Blk.lt K1.out; have m1 := Nat.le_of_lt l1)
              go_wp2_with fail
              (refine wp_region_later_tail 9 (by kernel_rfl) (by kernel_rfl) ?_; simp only [List.take_succ_cons, List.take_zero, List.drop_succ_cons, List.drop_zero]; (repeat (go_big_quiet_step (fail))); refine wpQuiet_nil ?_; intro w' hB)
              clear k1 f1 l1 m1
              replace K1 := Lib.hid (K1.out.below hB)
              replace G := grown_on G hB
              clear hB
              (have k1 := Blk.cell K1.out; have f1 := Blk.free K1.out; have l1 := Blk.lt K1.out; have m1 := Nat.le_of_lt l1)
              go_wp2_with fail
              clear k1 f1 l1 m1
              replace K1 := Lib.hid (K1.out.set_ 4 (.int .u32 (vw (v.e + u.e))))
              replace G := grown_set (i := 4) (u := .int .u32 (vw (v.e + u.e))) G
              simp only [List.setIfInBounds_toArray, List.set_cons_succ, List.set_cons_zero] at K1
              generalize w'.setCell ⟨b, 4, none⟩ (.int .u32 (vw (v.e + u.e))) = v4 at K1 G ⊢
              rw [rounds_succ]
              (have k1 := Blk.cell K1.out; have f1 := Blk.free K1.out; have l1 := Blk.lt K1.out; have m1 := Nat.le_of_lt l1)
              go_wp2_with fail
              (refine wp_region_later_tail 9 (by kernel_rfl) (by kernel_rfl) ?_; simp only [List.take_succ_cons, List.take_zero, List.drop_succ_cons, List.drop_zero]; (repeat (go_big_quiet_step (fail))); refine wpQuiet_nil ?_; intro w' hB)
              clear k1 f1 l1 m1
              replace K1 := Lib.hid (K1.out.below hB)
              replace G := grown_on G hB
              clear hB
              (have k1 := Blk.cell K1.out; have f1 := Blk.free K1.out; have l1 := Blk.lt K1.out; have m1 := Nat.le_of_lt l1)
              go_wp2_with fail
              clear k1 f1 l1 m1
              replace K1 := Lib.hid (K1.out.set_ 5 (.int .u32 (vw (v.f + u.f))))
              replace G := grown_set (i := 5) (u := .int .u32 (vw (v.f + u.f))) G
              simp only [List.setIfInBounds_toArray, List.set_cons_succ, List.set_cons_zero] at K1
              generalize w'.setCell ⟨b, 5, none⟩ (.int .u32 (vw (v.f + u.f))) = v5 at K1 G ⊢
              rw [rounds_succ]
              (have k1 := Blk.cell K1.out; have f1 := Blk.free K1.out; have l1 := Blk.lt K1.out; have m1 := Nat.le_of_lt l1)
              go_wp2_with fail
              (refine wp_region_later_tail 9 (by kernel_rfl) (by kernel_rfl) ?_; simp only [List.take_succ_cons, List.take_zero, List.drop_succ_cons, List.drop_zero]; (repeat (go_big_quiet_step (fail))); refine wpQuiet_nil ?_; intro w' hB)
              clear k1 f1 l1 m1
              replace K1 := Lib.hid (K1.out.below hB)
              replace G := grown_on G hB
              clear hB
              (have k1 := Blk.cell K1.out; have f1 := Blk.free K1.out; have l1 := Blk.lt K1.out; have m1 := Nat.le_of_lt l1)
              go_wp2_with fail
              clear k1 f1 l1 m1
              replace K1 := Lib.hid (K1.out.set_ 6 (.int .u32 (vw (v.g + u.g))))
              replace G := grown_set (i := 6) (u := .int .u32 (vw (v.g + u.g))) G
              simp only [List.setIfInBounds_toArray, List.set_cons_succ, List.set_cons_zero] at K1
              generalize w'.setCell ⟨b, 6, none⟩ (.int .u32 (vw (v.g + u.g))) = v6 at K1 G ⊢
              rw [rounds_succ]
              (have k1 := Blk.cell K1.out; have f1 := Blk.free K1.out; have l1 := Blk.lt K1.out; have m1 := Nat.le_of_lt l1)
              go_wp2_with fail
              (refine wp_region_later_tail 9 (by kernel_rfl) (by kernel_rfl) ?_; simp only [List.take_succ_cons, List.take_zero, List.drop_succ_cons, List.drop_zero]; (repeat (go_big_quiet_step (fail))); refine wpQuiet_nil ?_; intro w' hB)
              clear k1 f1 l1 m1
              replace K1 := Lib.hid (K1.out.below hB)
              replace G := grown_on G hB
              clear hB
              (have k1 := Blk.cell K1.out; have f1 := Blk.free K1.out; have l1 := Blk.lt K1.out; have m1 := Nat.le_of_lt l1)
              go_wp2_with fail
              clear k1 f1 l1 m1
              replace K1 := Lib.hid (K1.out.set_ 7 (.int .u32 (vw (v.h + u.h))))
              replace G := grown_set (i := 7) (u := .int .u32 (vw (v.h + u.h))) G
              simp only [List.setIfInBounds_toArray, List.set_cons_succ, List.set_cons_zero] at K1
              generalize w'.setCell ⟨b, 7, none⟩ (.int .u32 (vw (v.h + u.h))) = v7 at K1 G ⊢
              rw [rounds_succ]
              go_wp2_with fail
              refine bodyPost_end (results_none rfl _ _ _) rfl ?_

              exact ⟨rfl, G, by rw [← HU.out]; exact K1.out⟩
end Go.Proofs.YtpmmjomejackkaaDoor
end
section
namespace Go.Proofs.YtpmmjomejackkaaDoor
open Go.ChangeShapes Go.WideShapes Go.ChangeAt Go.RowKit Go.Joins
set_option maxRecDepth 100000

theorem own : ownKnob Tryd.prog.godebug = none := by kernel_rfl

section
variable {H : Type} {enc : TypeId × Value → H} {P : Program}
/-- the row's last step where 'Below' is known of the world behind the call -/
theorem post_below {f : Func} {s : ChangeSpec} {apart fresh handsOn again : Bool} {W W' : World} {args : Array Value} {v : Value} {ds gs : List (DataW H)} {before pa pv : List MemPlace}
    (hW : DataW.Whole enc P f.params.toList s.vars apart W args.toList ds gs before)
    (hres : ∀ (b : Nat) (sp : Nat → Bool) (hd : Bool), DataW.TrodAll enc P W' b sp hd f.resultTypes.toList (v.resultList f.resultTypes.size) (s.fn H (ds ++ gs)).results [])
    (hargs : ∀ sp : Nat → Bool, (∀ p ∈ before, sp p.block = true) → DataW.TrodAll enc P W' 0 sp true f.params.toList args.toList (s.fn H (ds ++ gs)).args pa)
    (hvars : ∀ sp : Nat → Bool, (∀ p ∈ before, sp p.block = true) → DataW.TrodVars enc P W' sp s.vars (s.fn H (ds ++ gs)).vars pv)
    (hps : before = pa ++ pv) (hb : Below W.heap.size W W')
    (hok : ∀ (j : Nat) (t : TypeId) (r : Value), f.resultTypes[j]? = some t → (v.resultList f.resultTypes.size)[j]? = some r → Value.okWide P W' .any 0 t r) :
    s.post enc P f apart fresh handsOn again W args v W' := by
  have hlt : ∀ p ∈ before, p.block < W.heap.size := fun p hp => hW.lt p hp
  have hold : ∀ p ∈ before, (fun b => decide (b < W.heap.size)) p.block = true := fun p hp => by simpa using hlt p hp
  refine ⟨ds, gs, before, [], pa, pv, hW, hres _ _ _, hargs _ hold, hvars _ hold, World.keptBut_mono (fun p hp => ⟨hp, ?_⟩) (hb.frame (· ∈ before)), fun _ => ?_⟩
  · rw [hps, List.mem_append] at hp
    exact Or.inr hp
  · obtain ⟨_, _, _, _, _, hz, hn⟩ := hW
    refine ⟨hok, _, _, ([] ++ pa) ++ pv, ⟨[] ++ pa, pv, trodAll_append (hargs _ (fun _ _ => rfl)) (hres _ _ _), hvars _ (fun _ _ => rfl), rfl, ?_, ?_⟩, ?_⟩
    · intro b off hp
      have hin : MemPlace.cell b off ∈ before := by rw [hps]; simpa using hp
      rw [hb.frozen (hlt _ hin)]
      exact hz b off hin
    · intro ha
      have := hn ha
      rw [hps] at this
      simpa using this
    · intro p hp _
      rw [hps]
      simpa using hp
end

section
variable {H : Type} {enc : TypeId × Value → H} {w : World} {base : Nat} {spare : Nat → Bool} {held : Bool} {r : Reach} {b0 : Nat} {v : Value} {d : DataW H} {p : List MemPlace}
theorem openU64 (hv : Value.okWide Tryd.prog w r b0 41 v) (h : DataW.Trod enc Tryd.prog w base spare held 41 v d p) : ∃ a, v = .int .u64 a ∧ d = .lit (.int .u64 a) ∧ p = [] ∧ (Lit.int .u64 a).wf = true :=
  open_int Tryd.underlying41 hv h
end
end Go.Proofs.YtpmmjomejackkaaDoor
end
section
namespace Go.Proofs.YtpmmjomejackkaaDoor
open Go.ChangeShapes Go.WideShapes Go.ChangeAt Go.RowKit Go.Joins
set_option maxRecDepth 100000

section
variable {H : Type} {enc : TypeId × Value → H} {w : World} {base : Nat} {spare : Nat → Bool} {held : Bool} {r : Reach} {b0 : Nat} {v : Value} {d : DataW H} {p : List MemPlace}
theorem underString : Tryd.prog.underlying 9 = some .string := by kernel_rfl
theorem openString (hv : Value.okWide Tryd.prog w r b0 9 v) (h : DataW.Trod enc Tryd.prog w base spare held 9 v d p) : ∃ s : ByteArray, v = .string s ∧ d = .lit (.string s.data.toList) ∧ p = [] ∧ s.size ≤ maxLen :=
  Go.ChangeMaps.open_string underString hv h
theorem openI64 (hv : Value.okWide Tryd.prog w r b0 3 v) (h : DataW.Trod enc Tryd.prog w base spare held 3 v d p) : ∃ a, v = .int .i64 a ∧ d = .lit (.int .i64 a) ∧ p = [] ∧ (Lit.int .i64 a).wf = true :=
  open_int (show Tryd.prog.underlying 3 = some (.int .i64) by kernel_rfl) hv h
end
end Go.Proofs.YtpmmjomejackkaaDoor
end
section
namespace Go.Proofs.YtpmmjomejackkaaDoor
open Go.ChangeShapes Go.WideShapes Go.ChangeAt Go.RowKit Go.Joins
set_option maxRecDepth 100000

/-- a slice's address leads to these texts -/
def Strs (w : World) (A : Option Addr) (xs : List ByteArray) : Prop :=
  0 < xs.length → ∃ b o, A = some ⟨b, o, none⟩ ∧ b < w.heap.size ∧ ∀ (i : Nat) (x : ByteArray), xs[i]? = some x → w.cell? ⟨b, o + i, none⟩ = some (.string x)
theorem Strs.nil (w : World) (A : Option Addr) : Strs w A [] := fun h => absurd h (by simp)
theorem Strs.keep {w w' : World} {A : Option Addr} {xs : List ByteArray} (h : Strs w A xs) (hz : w.heap.size ≤ w'.heap.size) (hk : ∀ b o, b < w.heap.size → w'.cell? ⟨b, o, none⟩ = w.cell? ⟨b, o, none⟩) : Strs w' A xs := fun h0 => by
  obtain ⟨b, o, ha, hb, hc⟩ := h h0
  exact ⟨b, o, ha, by omega, fun i x hx => (hk _ _ hb).trans (hc i x hx)⟩
theorem Strs.below {w w' : World} {A : Option Addr} {xs : List ByteArray} (h : Strs w A xs) (hb : Below w.heap.size w w') : Strs w' A xs := h.keep hb.size fun b o hp => hb.cell (p := ⟨b, o, none⟩) hp
/-- .. of cells at an address -/
theorem Strs.mk {w : World} {b o : Nat} {xs : List ByteArray} (hb : b < w.heap.size) (h : ∀ (i : Nat) (x : ByteArray), xs[i]? = some x → w.cell? ⟨b, o + i, none⟩ = some (.string x)) : Strs w (some ⟨b, o, none⟩) xs := fun _ => ⟨b, o, rfl, hb, h⟩

section
variable {H : Type} {enc : TypeId × Value → H} {P : Program}
/-- arguments read behind the call as they did -/
theorem stays_all (hl : laidOutB P = true) {W W' : World} (hb : Below W.heap.size W W') : ∀ {ts : List TypeId} {vs : List Value} {ds : List (DataW H)} {ps : List MemPlace},
    (ts.all fun t => P.readableRec t && decide (t < P.types.size)) = true → DataW.TrodAll enc P W 0 (fun _ => true) true ts vs ds ps → (∀ x ∈ ps, x.block < W.heap.size) →
    ∀ sp : Nat → Bool, (∀ x ∈ ps, sp x.block = true) → DataW.TrodAll enc P W' 0 sp true ts vs ds ps := by
  intro ts
  induction ts with
  | nil =>
    intro vs ds ps _ h _ sp _
    obtain ⟨rfl, rfl, rfl⟩ := trodAll_nil h
    exact trodAll_mk0
  | cons t ts ih =>
    intro vs ds ps hr h hlt sp hsp
    obtain ⟨v, vs', d, ds', p, p', rfl, rfl, rfl, h0, h1⟩ := trodAll_cons h
    simp only [List.all_cons, Bool.and_eq_true, decide_eq_true_eq] at hr
    exact trodAll_cons_mk (WideElems.Trod_stays hl hr.1.1 hr.1.2 h0 (fun x hx => hb.same (hlt x (by simp [hx]))) (fun x hx => hsp x (by simp [hx])))
      (ih hr.2 h1 (fun x hx => hlt x (by simp [hx])) sp (fun x hx => hsp x (by simp [hx])))
end
theorem laidOut : laidOutB Tryd.prog = true := by kernel_rfl

section
variable {H : Type} {enc : TypeId × Value → H} {w : World} {base : Nat} {spare : Nat → Bool} {held : Bool} {r : Reach} {b0 : Nat} {v : Value} {d : DataW H} {p : List MemPlace}
/-- a slice of texts among the arguments -/
theorem openStrs (hv : Value.okWide Tryd.prog w r b0 22 v) (h : DataW.Trod enc Tryd.prog w base spare held 22 v d p) :
    ∃ (A : Option Addr) (c : Nat) (xs : List ByteArray), v = .slice A xs.length c ∧ xs.length ≤ c ∧ c ≤ maxLen ∧ Strs w A xs ∧ (∀ x ∈ xs, x.size ≤ maxLen) ∧ (d = .nil ∧ xs = [] ∨ ∃ rest, d = .slice (strs xs) rest) := by
  obtain ⟨fuel, hf⟩ := h
  obtain ⟨A, n, c, rfl⟩ : ∃ A n c, v = .slice A n c := by
    exact okWide_slice (show Tryd.prog.underlying 22 = some (.slice 9) by kernel_rfl) hv
  rcases open_strings (show Tryd.prog.underlying 22 = some (.slice 9) by kernel_rfl) underString (by kernel_rfl) hf with ⟨hc, hx⟩ | ⟨a, len, cap, ss, hc, _, hl, hm, hn, hx, hcell, hsz⟩
  · simp [Value.cells] at hc hx
    obtain ⟨rfl, rfl, rfl⟩ := hc
    exact ⟨none, 0, [], rfl, Nat.le_refl _, Nat.zero_le _, Strs.nil _ _, by simp, .inl ⟨hx.1, rfl⟩⟩
  · simp [Value.cells] at hc
    obtain ⟨rfl, rfl, rfl⟩ := hc
    have hlen : n ≤ ss.length := by rw [hn]; split <;> omega
    have ht : (ss.take n).length = n := by simp; omega
    refine ⟨some a, c, ss.take n, by rw [ht], by omega, hm, fun h0 => ?_, fun x hx => hsz x (List.mem_of_mem_take hx), .inr ⟨_, by simpa using congrArg Prod.fst hx⟩⟩
    have h00 := hcell 0 (by omega)
    have hsp : a.spot = none := by
      rw [Addr.add, if_pos rfl] at h00
      unfold World.cell? at h00
      split at h00
      · rename_i hh
        cases hs : a.spot with
        | none => rfl
        | some _ => rw [hs] at h00; simp at h00
      · cases h00
    obtain ⟨b, o, sp⟩ := a
    obtain rfl : sp = none := hsp
    refine ⟨b, o, rfl, World.block_lt_of_cell? _ _ h00, fun i x hx => ?_⟩
    have hi : i < n := by
      have := (List.getElem?_eq_some_iff.1 hx).1
      omega
    rw [List.getElem?_take_of_lt hi] at hx
    have := hcell i (by omega)
    rw [List.getD, hx] at this
    rw [← show Addr.add ⟨b, o, none⟩ i = ⟨b, o + i, none⟩ by unfold Addr.add; split <;> simp_all]
    exact this
end
end Go.Proofs.YtpmmjomejackkaaDoor
end
section
set_option linter.unusedSimpArgs false
set_option linter.unusedVariables false
namespace Go.Proofs.YtpmmjomejackkaaDoor
open BigFrame Go.RowKit Go.Phx Go.Shelf
attribute [local go_sem] Oper.semAt_some

/-- a list of bytes as a text -/
def bs (l : List UInt8) : ByteArray := ⟨l.toArray⟩
theorem bs_list (l : List UInt8) : (bs l).data.toList = l := rfl
theorem bs_of (s : ByteArray) : bs s.data.toList = s := rfl
@[go_sem] theorem bs_size (l : List UInt8) : (bs l).size = l.length := by simp [bs, ByteArray.size]
@[go_sem] theorem bs_toList (l : List UInt8) : (bs l).toList = l := by
  rw [ByteArray.toList_eq]
  rfl
@[go_sem] theorem bs_app (a b : List UInt8) : bs a ++ bs b = bs (a ++ b) := by
  apply ByteArray.ext
  simp [bs, ByteArray.data_append]
theorem bs_ext (l : List UInt8) (a b : Nat) : (bs l).extract a b = bs ((l.drop a).take (b - a)) := by
  apply ByteArray.ext
  simp [bs, ByteArray.data_extract]
@[go_sem] theorem bs_take (l : List UInt8) (b : Nat) : (bs l).extract 0 b = bs (l.take b) := by rw [bs_ext]; simp
@[go_sem] theorem bs_drop (l : List UInt8) (a : Nat) : (bs l).extract a l.length = bs (l.drop a) := by
  rw [bs_ext, List.take_of_length_le (by simp)]
theorem conv1 (W : World) (t : TypeId) (a : Int) (k : Nat) : (convert 39 9 (.slice (some ⟨W.heap.size, 0, none⟩) 1 k)).run Tryd.prog (W.alloc (.cells #[.int .u8 a] t)) =
    .ok (.string (bs [UInt8.ofNat a.toNat])) (W.alloc (.cells #[.int .u8 a] t)) := by
  have hs : Tryd.prog.underlying 39 = some (.slice 5) := by kernel_rfl
  have he : Tryd.prog.underlying 5 = some (.int .u8) := by kernel_rfl
  have hd : Tryd.prog.underlying 9 = some .string := by kernel_rfl
  exact run_convert_bytes_arg _ _ _ hs he W.heap.size 0 1 k [a] rfl (fun i hi => by
    have hK := Blk.new0 W t #[.int .u8 a]
    rw [hK.cell]
    obtain rfl : i = 0 := by omega
    rfl) _ hd
theorem conv1d (W : World) (t : TypeId) (a : Int) (k : Nat) : (convert 39 9 (.slice (some ⟨W.heap.size, 0, none⟩) 1 k)).run Tryd.prog (W.alloc (.cells #[.int .u8 a] t)).drew =
    .ok (.string (bs [UInt8.ofNat a.toNat])) (W.alloc (.cells #[.int .u8 a] t)).drew := by
  have hs : Tryd.prog.underlying 39 = some (.slice 5) := by kernel_rfl
  have he : Tryd.prog.underlying 5 = some (.int .u8) := by kernel_rfl
  have hd : Tryd.prog.underlying 9 = some .string := by kernel_rfl
  exact run_convert_bytes_arg _ _ _ hs he W.heap.size 0 1 k [a] rfl (fun i hi => by
    have hK := (Blk.new0 W t #[.int .u8 a]).drew
    rw [hK.cell]
    obtain rfl : i = 0 := by omega
    rfl) _ hd
attribute [go_sem] conv1 conv1d
/-- how long the text in a variable is -/
def boxLen (b : Nat) (w : World) : Nat := match w.cell? ⟨b, 0, none⟩ with
  | some (.string s) => s.size
  | _ => 0
theorem boxLen_of {b : Nat} {w : World} {t : TypeId} {l : List UInt8} (h : Blk w b t #[.string (bs l)]) : boxLen b w = l.length := by
  unfold boxLen
  rw [h.cell 0]
  exact bs_size l
theorem Blk.grown {w w' : World} {g : Nat} {t : TypeId} {cs : Array Value} {row : Option Nat} (h : Blk w g t cs) (hg : w.grownBy w' row) (hn : some g ≠ row) : Blk w' g t cs := (hg.block g h.lt hn).trans h
theorem HasK.grown {w w' : World} {row : Option Nat} (h : HasK w) (hg : w.grownBy w' row) (hn : some 0 ≠ row) : HasK w' :=
  ⟨fun i hi => (World.cell?_of_block (w := w) (a := ⟨0, i, none⟩) (hg.block _ h.2 hn)).trans (h.1 i hi), Nat.lt_of_lt_of_le h.2 hg.size⟩
theorem keepsOthers_row {W W' : World} {b : Nat} {t : TypeId} {cs : Array Value} (h : Blk W b t cs) (hg : W.grownBy W' (some b)) : KeepsOthers W W' :=
  KeepsOthers.of_grownBy hg fun j o e ho => by
    cases e
    unfold Blk at h
    rw [h] at ho
    injection ho with ho
    subst ho
    rfl
theorem below_row {w W W' : World} {b : Nat} (h : Below w.heap.size w W) (hg : W.grownBy W' (some b)) (hb : w.heap.size ≤ b) : Below w.heap.size w W' := h.grown hg h.size fun k e => by injection e with e; omega

/-- a row of N bytes, the first k of L laid -/
def bcells (N : Nat) (L : List UInt8) (k : Nat) : Array Value := ((L.take k ++ List.replicate (N - k) 0).map fun c : UInt8 => Value.int .u8 (c.toNat : Int)).toArray
theorem bcells_set (N : Nat) (L : List UInt8) (k : Nat) (hk : k < N) (hL : L.length = N) (v : Int) (hv : v = ((L.getD k 0).toNat : Int)) : (bcells N L k).setIfInBounds k (.int .u8 v) = bcells N L (k + 1) := by
  subst hv
  unfold bcells
  rw [List.setIfInBounds_toArray, ← List.map_set (f := fun c : UInt8 => Value.int .u8 (c.toNat : Int)), List.set_append_right _ _ (by simp; omega)]
  congr 1
  congr 1
  rw [List.length_take, show k - min k L.length = 0 by omega, show N - k = (N - (k + 1)) + 1 by omega, List.replicate_succ, List.set_cons_zero, List.take_add_one, List.getElem?_eq_getElem (by omega), List.append_assoc]
  simp [List.getD, List.getElem?_eq_getElem (show k < L.length by omega)]
theorem bcells_at (N : Nat) (L : List UInt8) (k : Nat) (hk : k < N) (hL : L.length = N) : (bcells N L k)[k]? = some (.int .u8 0) := by
  unfold bcells
  rw [List.getElem?_toArray, List.getElem?_map, List.getElem?_append_right (by simp; omega), List.getElem?_replicate, if_pos (by simp; omega)]
  rfl
theorem bcells_all (N : Nat) (L : List UInt8) (hL : L.length = N) : bcells N L N = (L.map fun c : UInt8 => Value.int .u8 (c.toNat : Int)).toArray := by
  unfold bcells
  rw [List.take_of_length_le (by omega), Nat.sub_self]
  simp
theorem strOfNums_map (L : List UInt8) : strOfNums (L.map fun c : UInt8 => (c.toNat : Int)) = bs L := by
  unfold strOfNums bs
  rw [List.map_map]
  have e : ((fun n : Int => UInt8.ofNat n.toNat) ∘ fun c : UInt8 => (c.toNat : Int)) = id := by
    funext c
    simp
  rw [e, List.map_id]
/-- a row of bytes as a text -/
theorem conv_row (W : World) (g : Nat) (t : TypeId) (L : List UInt8) (n c : Nat) (h : Blk W g t (L.map fun c : UInt8 => Value.int .u8 (c.toNat : Int)).toArray) (hn : L.length = n) :
    (convert 39 9 (.slice (some ⟨g, 0, none⟩) n c)).run Tryd.prog W = .ok (.string (bs L)) W := by
  have hs : Tryd.prog.underlying 39 = some (.slice 5) := by kernel_rfl
  have he : Tryd.prog.underlying 5 = some (.int .u8) := by kernel_rfl
  have hd : Tryd.prog.underlying 9 = some .string := by kernel_rfl
  have := run_convert_bytes_arg (P := Tryd.prog) W _ _ hs he g 0 n c (L.map fun c : UInt8 => (c.toNat : Int)) (by simpa using hn) (fun i hi => by
    rw [h.cell]
    simp [List.getD, List.getElem?_eq_getElem (show i < L.length by omega)]) _ hd
  rw [this, strOfNums_map]
end Go.Proofs.YtpmmjomejackkaaDoor
end
