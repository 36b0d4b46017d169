/- What the later texts stand on (Sha6, Sha7): plain laws and walks, each by its own conditions. -/
import Derived.Test.YtpmmjomejackkaaDoorG13
set_option linter.unusedSimpArgs false
set_option linter.unusedVariables false
section
set_option linter.unusedSimpArgs false
set_option linter.unusedVariables false
namespace Go.Proofs.YtpmmjomejackkaaDoor
open BigFrame Go.RowKit Go.Phx Go.Shelf
attribute [local go_sem] Oper.semAt_some

theorem shr_n (x : Wd) (n : Nat) : vw x / 2 ^ n = vw (x >>> n) := shr_w x n _ rfl
theorem shl_n (x : Wd) (n : Nat) : vw x * 2 ^ n % 4294967296 = vw (x <<< n) := shl_w' x n _ rfl
set_option maxRecDepth 100000 in
theorem rturn_nat (x : Wd) (n : Nat) (h0 : 0 < n) (h1 : n < 32) (w : World) : Calls Tryd.prog 103 #[.int .u32 (vw x), .int .i64 n] w (Ret w (.int .u32 (vw (ror x n)))) := by
  have v1 := vw_nonneg x
  have v2 := vw_lt x
  have e1 := shr_n x n
  have e2 := shl_n x (32 - n)
  have e3 : IntKind.i64.wrap (32 - (n : Int)) = 32 - (n : Int) := IntWalk.i64_in _ (by omega)
  go_enter Tryd.func103, Tryd.ntmps103
  go_wp2_with fail
  go_quiet (fail)
  go_wp2_with fail
  go_ret
  exact ⟨by simp only [e2]; rfl, below_drewN (Below.refl _ _) _⟩
theorem rturn_calls (x : Wd) (n : Int) (h : 0 < n ∧ n < 32) (w : World) : Calls Tryd.prog 103 #[.int .u32 (vw x), .int .i64 n] w (Ret w (.int .u32 (vw (ror x n.toNat)))) := by
  obtain ⟨m, rfl⟩ : ∃ m : Nat, n = m := ⟨n.toNat, by omega⟩
  exact rturn_nat x m (by omega) (by omega) w

theorem wordOf4 (a b c d : UInt8) : wordOf [a, b, c, d] = bw a <<< 24 ||| bw b <<< 16 ||| bw c <<< 8 ||| bw d := by
  unfold wordOf
  simp only [List.foldl_cons, List.foldl_nil]
  rw [show (0 : Wd) <<< 8 = 0 from rfl, show ∀ x : Wd, (0 : Wd) ||| x = x from fun x => BitVec.zero_or, BitVec.shiftLeft_or_distrib, BitVec.shiftLeft_or_distrib, BitVec.shiftLeft_or_distrib, ← BitVec.shiftLeft_add, ← BitVec.shiftLeft_add, ← BitVec.shiftLeft_add]
  rfl
theorem take4 (l : List UInt8) (k : Nat) (h : 4 * k + 4 ≤ l.length) : (l.drop (4 * k)).take 4 = [l.getD (4 * k) 0, l.getD (4 * k + 1) 0, l.getD (4 * k + 2) 0, l.getD (4 * k + 3) 0] := by
  have e : ∀ i, i < 4 → (l.drop (4 * k))[i]? = some (l.getD (4 * k + i) 0) := fun i hi => by
    rw [List.getElem?_drop, List.getD, List.getElem?_eq_getElem (by omega)]
    rfl
  apply List.ext_getElem?
  intro i
  by_cases hi : i < 4
  · rw [List.getElem?_take_of_lt hi, e i hi]
    match i, hi with
    | 0, _ => rfl
    | 1, _ => rfl
    | 2, _ => rfl
    | 3, _ => rfl
  · rw [List.getElem?_eq_none (by simp; omega), List.getElem?_eq_none (by simp; omega)]
/-- the first words, so many -/
def headW (l : List UInt8) (k : Nat) : List Wd := (words16 l).take k ++ List.replicate (64 - k) 0
theorem headW_len (l : List UInt8) (k : Nat) (hk : k ≤ 16) : (headW l k).length = 64 := by
  unfold headW
  simp [words16_len]
  omega
theorem headW_all (l : List UInt8) : headW l 16 = moreW l 0 := by
  unfold headW moreW
  rw [List.take_of_length_le (by rw [words16_len]; exact Nat.le_refl _)]
  rfl
theorem headW_next (l : List UInt8) (hl : l.length = 64) (k : Nat) (hk : k < 16) :
    headW l (k + 1) = (headW l k).set k (bw (l.getD (4 * k) 0) <<< 24 ||| bw (l.getD (4 * k + 1) 0) <<< 16 ||| bw (l.getD (4 * k + 2) 0) <<< 8 ||| bw (l.getD (4 * k + 3) 0)) := by
  rw [← wordOf4, ← take4 l k (by omega)]
  unfold headW
  rw [List.set_append_right _ _ (by simp; omega), List.length_take, words16_len, show k - min k 16 = 0 by omega, show 64 - k = (64 - (k + 1)) + 1 by omega, List.replicate_succ, List.set_cons_zero, List.take_add_one,
    List.getElem?_eq_getElem (by rw [words16_len]; exact hk), List.append_assoc]
  simp [words16]
/-- cells of bytes from a place on -/
def BytesAt (w : World) (g o : Nat) (l : List UInt8) : Prop := g < w.heap.size ∧ ∀ j, j < l.length → w.cell? ⟨g, o + j, none⟩ = some (.int .u8 (vw (bw (l.getD j 0))))
theorem BytesAt.from {n : Nat} {w w' : World} {g o : Nat} {l : List UInt8} (h : BytesAt w g o l) (hB : Below n w w') (hn : g < n) (hz : w.heap.size ≤ w'.heap.size) : BytesAt w' g o l :=
  ⟨Nat.lt_of_lt_of_le h.1 hz, fun j hj => (hB.cell (p := ⟨g, o + j, none⟩) hn).trans (h.2 j hj)⟩

set_option maxRecDepth 100000 in
set_option maxHeartbeats 8000000 in
theorem spread_calls (g o c : Nat) (l : List UInt8) (hl : l.length = 64) (w : World) (hb : BytesAt w g o l) (ho : o + 64 ≤ 9223372036854775807) (hc : 64 ≤ c) :
    Calls Tryd.prog 101 #[.slice (some ⟨g, o, none⟩) 64 c] w (Ret w (.agg (cw (moreW l 48)))) := by
  have HBA := Lib.hid hb
  have hgl := hb.1
  clear hb
  go_enter Tryd.func101, Tryd.ntmps101
  go_wp2_with fail
  go_loopw [4] (fun i wr => ∃ k : Nat, k ≤ 64 ∧ i = .int .i64 k ∧ Blk wr (w.heap.size + 1) 114 (cw (if k ≤ 16 then headW l k else moreW l (k - 16))) ∧ Blk wr w.heap.size 114 (cw (List.replicate 64 0)) ∧ Below w.heap.size w wr ∧ w.heap.size + 1 < wr.heap.size)
    (fun i _ => (64 - intOf i).toNat)
  case atStart => exact ⟨0, by omega, rfl, by rw [if_pos (by omega)]; exact Blk.to (Blk.new1 _ _ _ _) rfl, Blk.to ((Blk.new0 _ _ _).alloc _) rfl, (by repeat (first | assumption | exact Below.refl _ _ | refine Below.setCell ?_ (by first | exact Nat.le_refl _ | (simp; done) | omega | (simp; omega)) _ | refine Below.alloc ?_ (by first | exact Nat.le_refl _ | (simp; done) | omega | (simp; omega)) _ | refine below_drewN ?_ _ | refine Below.drew ?_ | refine Below.on (by assumption) ?_ | refine Below.via (by assumption) (by first | exact Nat.le_refl _ | (simp; done) | omega | (simp; omega)) ?_)), by simp⟩
  case round =>
    obtain ⟨k, hk, rfl, K0, K1, HB, hz⟩ := hrel
    replace K1 := Lib.hid K1
    have hBA := HBA.out.from HB hgl (by have := HB.size; exact this)
    by_cases h16 : k < 16
    · rw [if_pos (by omega)] at K0
      have b0 := hBA.2 (4 * k) (by omega)
      have b1 := hBA.2 (4 * k + 1) (by omega)
      have b2 := hBA.2 (4 * k + 2) (by omega)
      have b3 := hBA.2 (4 * k + 3) (by omega)
      have HN := headW_next l hl k h16
      have hc := cw_set (headW l k) k (bw (l.getD (4 * k) 0) <<< 24 ||| bw (l.getD (4 * k + 1) 0) <<< 16 ||| bw (l.getD (4 * k + 2) 0) <<< 8 ||| bw (l.getD (4 * k + 3) 0))
      rw [← HN] at hc
      have gk := cw_get (L := headW l k) (i := k) (by rw [headW_len l k (by omega)]; omega)
      have hgr := hBA.1
      clear HN hBA
      generalize l.getD (4 * k) 0 = x0 at *
      generalize l.getD (4 * k + 1) 0 = x1 at *
      generalize l.getD (4 * k + 2) 0 = x2 at *
      generalize l.getD (4 * k + 3) 0 = x3 at *
      have p0 := vw_nonneg (bw x0)
      have p1 := vw_nonneg (bw x1)
      have p2 := vw_nonneg (bw x2)
      have p3 := vw_nonneg (bw x3)
      have q0 := bw_lt x0
      have q1 := bw_lt x1
      have q2 := bw_lt x2
      have q3 := bw_lt x3
      have s0 : vw (bw x0) * 16777216 = vw (bw x0 <<< 24) := by have := shl_w' (bw x0) 24 16777216 rfl; omega
      have s1 : vw (bw x1) * 65536 = vw (bw x1 <<< 16) := by have := shl_w' (bw x1) 16 65536 rfl; omega
      have s2 : vw (bw x2) * 256 = vw (bw x2 <<< 8) := by have := shl_w' (bw x2) 8 256 rfl; omega
      generalize headW l k = L at *
      replace hc := Lib.hid hc
      replace K0 := Lib.hid K0
      (have k0 := Blk.cell K0.out; have f0 := Blk.free K0.out; have l0 := Blk.lt K0.out; have m0 := Nat.le_of_lt l0; have k1 := Blk.cell K1.out; have f1 := Blk.free K1.out; have l1 := Blk.lt K1.out; have m1 := Nat.le_of_lt l1)
      go_wp2_with fail
      (refine wp_region_later_tail 35 (by kernel_rfl) (by kernel_rfl) ?_; simp only [List.take_succ_cons, List.take_zero, List.drop_succ_cons, List.drop_zero]; (repeat (go_big_quiet_step (fail))); refine wpQuiet_nil ?_; intro w' hB)
      (have HBn : Below w.heap.size w w' := Below.on hB (by repeat (first | assumption | exact Below.refl _ _ | refine Below.setCell ?_ (by first | exact Nat.le_refl _ | (simp; done) | omega | (simp; omega)) _ | refine Below.alloc ?_ (by first | exact Nat.le_refl _ | (simp; done) | omega | (simp; omega)) _ | refine below_drewN ?_ _ | refine Below.drew ?_ | refine Below.on (by assumption) ?_ | refine Below.via (by assumption) (by first | exact Nat.le_refl _ | (simp; done) | omega | (simp; omega)) ?_)); have N0 := Lib.hid (Blk.below (g := w.heap.size + 1) (by repeat (first | with_reducible exact K0.out | with_reducible exact Blk.new0 _ _ _ | with_reducible exact Blk.new1 _ _ _ _ | with_reducible exact Blk.new2 _ _ _ _ _ | with_reducible exact Blk.new3 _ _ _ _ _ _ | with_reducible exact Blk.new4 _ _ _ _ _ _ _ | with_reducible exact Blk.newS1 _ _ _ _ _ | with_reducible exact Blk.newS2 _ _ _ _ _ _ _ | with_reducible exact Blk.newS3 _ _ _ _ _ _ _ _ _ | with_reducible apply Blk.set_ | with_reducible apply Blk.alloc | with_reducible apply Blk.drewN | with_reducible apply Blk.drew | (with_reducible apply Blk.over2; first | assumption | omega))) hB); (try simp only [List.setIfInBounds_toArray, List.set_cons_succ, List.set_cons_zero] at N0); have N1 := Lib.hid (Blk.below (g := w.heap.size) (by repeat (first | with_reducible exact K1.out | with_reducible exact Blk.new0 _ _ _ | with_reducible exact Blk.new1 _ _ _ _ | with_reducible exact Blk.new2 _ _ _ _ _ | with_reducible exact Blk.new3 _ _ _ _ _ _ | with_reducible exact Blk.new4 _ _ _ _ _ _ _ | with_reducible exact Blk.newS1 _ _ _ _ _ | with_reducible exact Blk.newS2 _ _ _ _ _ _ _ | with_reducible exact Blk.newS3 _ _ _ _ _ _ _ _ _ | with_reducible apply Blk.set_ | with_reducible apply Blk.alloc | with_reducible apply Blk.drewN | with_reducible apply Blk.drew | (with_reducible apply Blk.over2; first | assumption | omega))) hB); (try simp only [List.setIfInBounds_toArray, List.set_cons_succ, List.set_cons_zero] at N1); clear K0 k0 f0 l0 m0 K1 k1 f1 l1 m1; (try clear HB); clear hB; have HB := HBn; clear HBn; have HZw' := HB.size; have K0 := N0; clear N0; have k0 := Blk.cell K0.out; have f0 := Blk.free K0.out; have l0 := Blk.lt K0.out; have m0 := Nat.le_of_lt l0; have K1 := N1; clear N1; have k1 := Blk.cell K1.out; have f1 := Blk.free K1.out; have l1 := Blk.lt K1.out; have m1 := Nat.le_of_lt l1)
      go_wp2_with fail
      go_roundw
      case rel => exact ⟨k + 1, by omega, by go_num, by rw [if_pos (by omega), ← hc.out, ← or_w, ← or_w, ← or_w, ← s0, ← s1, ← s2]; exact K0.out.set_ _ _, K1.out.over (by simp), (by repeat (first | assumption | exact Below.refl _ _ | refine Below.setCell ?_ (by first | exact Nat.le_refl _ | (simp; done) | omega | (simp; omega)) _ | refine Below.alloc ?_ (by first | exact Nat.le_refl _ | (simp; done) | omega | (simp; omega)) _ | refine below_drewN ?_ _ | refine Below.drew ?_ | refine Below.on (by assumption) ?_ | refine Below.via (by assumption) (by first | exact Nat.le_refl _ | (simp; done) | omega | (simp; omega)) ?_)), by rw [size_set]; exact l0⟩
      case measure => simp [intOf]; omega
    · obtain ⟨j, rfl⟩ : ∃ j, k = j + 16 := ⟨k - 16, by omega⟩
      have hj48 : j ≤ 48 := by omega
      have e0 : (if j + 16 ≤ 16 then headW l (j + 16) else moreW l (j + 16 - 16)) = moreW l j := by
        by_cases h0 : j = 0
        · subst h0
          exact headW_all l
        · rw [if_neg (by omega)]
          rfl
      rw [e0] at K0
      clear e0 hBA
      by_cases hlt : j < 48
      · have HN := moreW_next l j hlt
        have hlen := moreW_len l j hj48
        have hc := cw_set (moreW l j) (j + 16) ((moreW l j).getD j 0 + (moreW l j).getD (j + 9) 0 + sig0 ((moreW l j).getD (j + 1) 0) + sig1 ((moreW l j).getD (j + 14) 0))
        rw [← HN] at hc
        have g0 := cw_get (L := moreW l j) (i := j) (by omega)
        have g9 := cw_get (L := moreW l j) (i := j + 9) (by omega)
        have g1 := cw_get (L := moreW l j) (i := j + 1) (by omega)
        have g14 := cw_get (L := moreW l j) (i := j + 14) (by omega)
        have g16 := cw_get (L := moreW l j) (i := j + 16) (by omega)
        clear HN hlen
        generalize (moreW l j).getD j 0 = x0 at *
        generalize (moreW l j).getD (j + 9) 0 = x9 at *
        generalize (moreW l j).getD (j + 1) 0 = x1 at *
        generalize (moreW l j).getD (j + 14) 0 = x14 at *
        generalize (moreW l j).getD (j + 16) 0 = x16 at *
        generalize moreW l j = L at *
        have g9' := g9
        rw [show j + 9 = j + 16 - 7 from rfl] at g9'
        have g1' := g1
        rw [show j + 1 = j + 16 - 15 from rfl] at g1'
        have g14' := g14
        rw [show j + 14 = j + 16 - 2 from rfl] at g14'
        replace hc := Lib.hid hc
        have e1 := shr_w x1 3 8 rfl
        have e2 := shr_w x14 10 1024 rfl
        replace K0 := Lib.hid K0
        (have k0 := Blk.cell K0.out; have f0 := Blk.free K0.out; have l0 := Blk.lt K0.out; have m0 := Nat.le_of_lt l0; have k1 := Blk.cell K1.out; have f1 := Blk.free K1.out; have l1 := Blk.lt K1.out; have m1 := Nat.le_of_lt l1)
        go_wp2_with fail
        refine (rturn_calls _ _ (by decide) _).mono ?_
        rintro e w1 ⟨rfl, h1⟩
        go_wp2_with fail
        refine (rturn_calls _ _ (by decide) _).mono ?_
        rintro e w2 ⟨rfl, h2⟩
        go_wp2_with fail
        refine (rturn_calls _ _ (by decide) _).mono ?_
        rintro e w3 ⟨rfl, h3⟩
        go_wp2_with fail
        refine (rturn_calls _ _ (by decide) _).mono ?_
        rintro e w4 ⟨rfl, h4⟩
        have hB : Below wr.heap.size wr w4 := Below.on h4 (Below.on h3 (Below.on h2 h1))
        clear h1 h2 h3 h4
        (have HBn : Below w.heap.size w w4 := Below.on hB (by repeat (first | assumption | exact Below.refl _ _ | refine Below.setCell ?_ (by first | exact Nat.le_refl _ | (simp; done) | omega | (simp; omega)) _ | refine Below.alloc ?_ (by first | exact Nat.le_refl _ | (simp; done) | omega | (simp; omega)) _ | refine below_drewN ?_ _ | refine Below.drew ?_ | refine Below.on (by assumption) ?_ | refine Below.via (by assumption) (by first | exact Nat.le_refl _ | (simp; done) | omega | (simp; omega)) ?_)); have N0 := Lib.hid (Blk.below (g := w.heap.size + 1) (by repeat (first | with_reducible exact K0.out | with_reducible exact Blk.new0 _ _ _ | with_reducible exact Blk.new1 _ _ _ _ | with_reducible exact Blk.new2 _ _ _ _ _ | with_reducible exact Blk.new3 _ _ _ _ _ _ | with_reducible exact Blk.new4 _ _ _ _ _ _ _ | with_reducible exact Blk.newS1 _ _ _ _ _ | with_reducible exact Blk.newS2 _ _ _ _ _ _ _ | with_reducible exact Blk.newS3 _ _ _ _ _ _ _ _ _ | with_reducible apply Blk.set_ | with_reducible apply Blk.alloc | with_reducible apply Blk.drewN | with_reducible apply Blk.drew | (with_reducible apply Blk.over2; first | assumption | omega))) hB); (try simp only [List.setIfInBounds_toArray, List.set_cons_succ, List.set_cons_zero] at N0); have N1 := Lib.hid (Blk.below (g := w.heap.size) (by repeat (first | with_reducible exact K1.out | with_reducible exact Blk.new0 _ _ _ | with_reducible exact Blk.new1 _ _ _ _ | with_reducible exact Blk.new2 _ _ _ _ _ | with_reducible exact Blk.new3 _ _ _ _ _ _ | with_reducible exact Blk.new4 _ _ _ _ _ _ _ | with_reducible exact Blk.newS1 _ _ _ _ _ | with_reducible exact Blk.newS2 _ _ _ _ _ _ _ | with_reducible exact Blk.newS3 _ _ _ _ _ _ _ _ _ | with_reducible apply Blk.set_ | with_reducible apply Blk.alloc | with_reducible apply Blk.drewN | with_reducible apply Blk.drew | (with_reducible apply Blk.over2; first | assumption | omega))) hB); (try simp only [List.setIfInBounds_toArray, List.set_cons_succ, List.set_cons_zero] at N1); clear K0 k0 f0 l0 m0 K1 k1 f1 l1 m1; (try clear HB); clear hB; have HB := HBn; clear HBn; have HZw4 := HB.size; have K0 := N0; clear N0; have k0 := Blk.cell K0.out; have f0 := Blk.free K0.out; have l0 := Blk.lt K0.out; have m0 := Nat.le_of_lt l0; have K1 := N1; clear N1; have k1 := Blk.cell K1.out; have f1 := Blk.free K1.out; have l1 := Blk.lt K1.out; have m1 := Nat.le_of_lt l1)
        go_wp2_with fail
        have ea : x0 + (ror x1 7 ^^^ ror x1 18 ^^^ x1 >>> 3) + x9 + (ror x14 17 ^^^ ror x14 19 ^^^ x14 >>> 10) = x0 + x9 + sig0 x1 + sig1 x14 := by
          unfold sig0 sig1
          ac_rfl
        replace ea := Lib.hid ea
        (refine wp_region_later_tail 15 (by kernel_rfl) (by kernel_rfl) ?_; simp only [List.take_succ_cons, List.take_zero, List.drop_succ_cons, List.drop_zero]; (repeat (go_big_quiet_step (fail))); refine wpQuiet_nil ?_; intro w' hB)
        (have HBn : Below w.heap.size w w' := Below.on hB (by repeat (first | assumption | exact Below.refl _ _ | refine Below.setCell ?_ (by first | exact Nat.le_refl _ | (simp; done) | omega | (simp; omega)) _ | refine Below.alloc ?_ (by first | exact Nat.le_refl _ | (simp; done) | omega | (simp; omega)) _ | refine below_drewN ?_ _ | refine Below.drew ?_ | refine Below.on (by assumption) ?_ | refine Below.via (by assumption) (by first | exact Nat.le_refl _ | (simp; done) | omega | (simp; omega)) ?_)); have N0 := Lib.hid (Blk.below (g := w.heap.size + 1) (by repeat (first | with_reducible exact K0.out | with_reducible exact Blk.new0 _ _ _ | with_reducible exact Blk.new1 _ _ _ _ | with_reducible exact Blk.new2 _ _ _ _ _ | with_reducible exact Blk.new3 _ _ _ _ _ _ | with_reducible exact Blk.new4 _ _ _ _ _ _ _ | with_reducible exact Blk.newS1 _ _ _ _ _ | with_reducible exact Blk.newS2 _ _ _ _ _ _ _ | with_reducible exact Blk.newS3 _ _ _ _ _ _ _ _ _ | with_reducible apply Blk.set_ | with_reducible apply Blk.alloc | with_reducible apply Blk.drewN | with_reducible apply Blk.drew | (with_reducible apply Blk.over2; first | assumption | omega))) hB); (try simp only [List.setIfInBounds_toArray, List.set_cons_succ, List.set_cons_zero] at N0); have N1 := Lib.hid (Blk.below (g := w.heap.size) (by repeat (first | with_reducible exact K1.out | with_reducible exact Blk.new0 _ _ _ | with_reducible exact Blk.new1 _ _ _ _ | with_reducible exact Blk.new2 _ _ _ _ _ | with_reducible exact Blk.new3 _ _ _ _ _ _ | with_reducible exact Blk.new4 _ _ _ _ _ _ _ | with_reducible exact Blk.newS1 _ _ _ _ _ | with_reducible exact Blk.newS2 _ _ _ _ _ _ _ | with_reducible exact Blk.newS3 _ _ _ _ _ _ _ _ _ | with_reducible apply Blk.set_ | with_reducible apply Blk.alloc | with_reducible apply Blk.drewN | with_reducible apply Blk.drew | (with_reducible apply Blk.over2; first | assumption | omega))) hB); (try simp only [List.setIfInBounds_toArray, List.set_cons_succ, List.set_cons_zero] at N1); clear K0 k0 f0 l0 m0 K1 k1 f1 l1 m1; (try clear HB); clear hB; have HB := HBn; clear HBn; have HZw' := HB.size; have K0 := N0; clear N0; have k0 := Blk.cell K0.out; have f0 := Blk.free K0.out; have l0 := Blk.lt K0.out; have m0 := Nat.le_of_lt l0; have K1 := N1; clear N1; have k1 := Blk.cell K1.out; have f1 := Blk.free K1.out; have l1 := Blk.lt K1.out; have m1 := Nat.le_of_lt l1)
        go_wp2_with fail
        rw [ea.out]
        go_roundw
        case rel => exact ⟨j + 1 + 16, by omega, by congr 1 <;> omega, by rw [if_neg (by omega), show j + 1 + 16 - 16 = j + 1 by omega, ← hc.out]; exact K0.out.set_ _ _, K1.out.over (by simp), (by repeat (first | assumption | exact Below.refl _ _ | refine Below.setCell ?_ (by first | exact Nat.le_refl _ | (simp; done) | omega | (simp; omega)) _ | refine Below.alloc ?_ (by first | exact Nat.le_refl _ | (simp; done) | omega | (simp; omega)) _ | refine below_drewN ?_ _ | refine Below.drew ?_ | refine Below.on (by assumption) ?_ | refine Below.via (by assumption) (by first | exact Nat.le_refl _ | (simp; done) | omega | (simp; omega)) ?_)), by rw [size_set]; exact l0⟩
        case measure => simp [intOf]; omega
      · obtain rfl : j = 48 := by omega
        simp only [show ((48 + 16 : Nat) : Int) = 64 from rfl]
        replace K0 := Lib.hid K0
        have hsz := (cw_size (moreW l 48)).trans (moreW_len l 48 (by decide))
        have HSZ := Lib.hid hsz
        clear hsz
        go_wp2_with (first
          | (with_reducible refine wpList_load_row' (o := ⟨some 89, _, _, _, _, _⟩) K0.out Tryd.underlying114 rfl ?hi rfl _ rfl rfl ?_)
          | (with_reducible refine wpList_store_blk (o := ⟨none, .store 114 _ _, _, _, _, _⟩) K1.out rfl _ _ rfl rfl rfl ?hs ?hi2 (cw_one _) ?_))
        case hi => rw [HSZ.out]; kernel_rfl
        case hs => rw [HSZ.out]; simp [cw]
        case hi2 => rw [HSZ.out]; kernel_rfl
        refine bodyPost_ret (results_cell_row rfl _ _ w.heap.size _ _ _ _ rfl (Blk.row K1.out.lt) Tryd.underlying114 rfl (by rw [HSZ.out]; kernel_rfl)) rfl ⟨rfl, Below.row HB (Nat.le_refl _) HB.size⟩
end Go.Proofs.YtpmmjomejackkaaDoor
end
section
set_option linter.unusedSimpArgs false
set_option linter.unusedVariables false
namespace Go.Proofs.YtpmmjomejackkaaDoor
open BigFrame Go.RowKit Go.Phx Go.Shelf
attribute [local go_sem] Oper.semAt_some

theorem ch_eq (e f g : Wd) : e &&& f ^^^ ~~~e &&& g = chf e f g := by
  unfold chf
  ext i hi
  simp
  cases e[i] <;> cases f[i] <;> cases g[i] <;> rfl
theorem maj_eq (a b c : Wd) : a &&& b ^^^ a &&& c ^^^ b &&& c = maj a b c := by
  unfold maj
  ext i hi
  simp
  cases a[i] <;> cases b[i] <;> cases c[i] <;> rfl
set_option maxRecDepth 100000 in
set_option maxHeartbeats 2000000 in
theorem words_calls (w : World) : Calls Tryd.prog 102 #[] w (Ret w (.agg (cw kTab))) := by
  go_enter Tryd.func102, Tryd.ntmps102
  go_wp2_with (first
    | (with_reducible refine wpList_store_blk (o := ⟨none, .store 114 _ _, _, _, _, _⟩) (Blk.new0 _ _ _) rfl _ _ rfl rfl rfl ?hs ?hi2 ?h1 ?_))
  case hs => kernel_rfl
  case hi2 => kernel_rfl
  case h1 => kernel_rfl
  refine bodyPost_ret (results_cell_row rfl _ _ w.heap.size _ _ _ _ rfl (Blk.row (by simp)) Tryd.underlying114 rfl (by kernel_rfl)) rfl ⟨?_, Below.row (by repeat (first | assumption | exact Below.refl _ _ | refine Below.setCell ?_ (by first | exact Nat.le_refl _ | (simp; done) | omega | (simp; omega)) _ | refine Below.alloc ?_ (by first | exact Nat.le_refl _ | (simp; done) | omega | (simp; omega)) _ | refine below_drewN ?_ _ | refine Below.drew ?_ | refine Below.on (by assumption) ?_ | refine Below.via (by assumption) (by first | exact Nat.le_refl _ | (simp; done) | omega | (simp; omega)) ?_)) (Nat.le_refl _) (by simp)⟩
  kernel_rfl
end Go.Proofs.YtpmmjomejackkaaDoor
end
