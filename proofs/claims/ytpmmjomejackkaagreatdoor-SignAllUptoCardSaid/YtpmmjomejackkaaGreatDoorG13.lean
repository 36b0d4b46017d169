/- What the later texts stand on (Sha3, Row, Row2, Strs, Bs): plain laws and walks, each by its own conditions. -/
import Derived.Test.YtpmmjomejackkaaGreatDoorG12
import Derived.Test.YtpmmjomejackkaaGreatDoorRows
import Derived.Test.YtpmmjomejackkaaGreatDoorG3
import Derived.ProofKit
import Derived.OpenShut
import Derived.Lib.SmallJoins
import Derived.ChangeMaps5
import Derived.Carry
import Derived.SliceStrings
import Derived.Deep.DeepHandedRow
import Derived.Lib.LaidTab
section
set_option linter.unusedSimpArgs false
set_option linter.unusedVariables false
namespace Go.Proofs.YtpmmjomejackkaaGreatDoor
open BigFrame Go.RowKit Go.Phx Go.Shelf
attribute [local go_sem] Oper.semAt_some

/-! a row of eight words, read at a place -/
theorem ix8_0 (x0 x1 x2 x3 x4 x5 x6 x7 : Value) (w : World) : (Instr.index 80 (.agg #[x0, x1, x2, x3, x4, x5, x6, x7]) (.int .i64 0)).run Tryz.prog w = .ok x0 w := by
  have hd : Tryz.prog.underlying 80 = some (.array 8 79) := by kernel_rfl
  simp [go_sem, Instr.index, hd]
theorem ix8_1 (x0 x1 x2 x3 x4 x5 x6 x7 : Value) (w : World) : (Instr.index 80 (.agg #[x0, x1, x2, x3, x4, x5, x6, x7]) (.int .i64 1)).run Tryz.prog w = .ok x1 w := by
  have hd : Tryz.prog.underlying 80 = some (.array 8 79) := by kernel_rfl
  simp [go_sem, Instr.index, hd]
theorem ix8_2 (x0 x1 x2 x3 x4 x5 x6 x7 : Value) (w : World) : (Instr.index 80 (.agg #[x0, x1, x2, x3, x4, x5, x6, x7]) (.int .i64 2)).run Tryz.prog w = .ok x2 w := by
  have hd : Tryz.prog.underlying 80 = some (.array 8 79) := by kernel_rfl
  simp [go_sem, Instr.index, hd]
theorem ix8_3 (x0 x1 x2 x3 x4 x5 x6 x7 : Value) (w : World) : (Instr.index 80 (.agg #[x0, x1, x2, x3, x4, x5, x6, x7]) (.int .i64 3)).run Tryz.prog w = .ok x3 w := by
  have hd : Tryz.prog.underlying 80 = some (.array 8 79) := by kernel_rfl
  simp [go_sem, Instr.index, hd]
theorem ix8_4 (x0 x1 x2 x3 x4 x5 x6 x7 : Value) (w : World) : (Instr.index 80 (.agg #[x0, x1, x2, x3, x4, x5, x6, x7]) (.int .i64 4)).run Tryz.prog w = .ok x4 w := by
  have hd : Tryz.prog.underlying 80 = some (.array 8 79) := by kernel_rfl
  simp [go_sem, Instr.index, hd]
theorem ix8_5 (x0 x1 x2 x3 x4 x5 x6 x7 : Value) (w : World) : (Instr.index 80 (.agg #[x0, x1, x2, x3, x4, x5, x6, x7]) (.int .i64 5)).run Tryz.prog w = .ok x5 w := by
  have hd : Tryz.prog.underlying 80 = some (.array 8 79) := by kernel_rfl
  simp [go_sem, Instr.index, hd]
theorem ix8_6 (x0 x1 x2 x3 x4 x5 x6 x7 : Value) (w : World) : (Instr.index 80 (.agg #[x0, x1, x2, x3, x4, x5, x6, x7]) (.int .i64 6)).run Tryz.prog w = .ok x6 w := by
  have hd : Tryz.prog.underlying 80 = some (.array 8 79) := by kernel_rfl
  simp [go_sem, Instr.index, hd]
theorem ix8_7 (x0 x1 x2 x3 x4 x5 x6 x7 : Value) (w : World) : (Instr.index 80 (.agg #[x0, x1, x2, x3, x4, x5, x6, x7]) (.int .i64 7)).run Tryz.prog w = .ok x7 w := by
  have hd : Tryz.prog.underlying 80 = some (.array 8 79) := by kernel_rfl
  simp [go_sem, Instr.index, hd]
attribute [local go_sem] ix8_0 ix8_1 ix8_2 ix8_3 ix8_4 ix8_5 ix8_6 ix8_7
set_option maxRecDepth 100000 in
set_option maxHeartbeats 16000000 in
theorem take_calls (b : Nat) (v : St) (s : ByteArray) (hs : s.size = 64) (w : World) (hk : HasK w) (hb : Blk w b 80 (cS v)) (hne : b ≠ 0) :
    Calls Tryz.prog 75 #[.pointer (some ⟨b, 0, none⟩), .string s] w (Wrote w b 80 (cS (takeB v s.data.toList))) := by
  have hidx := index_at s
  obtain ⟨l, hl⟩ : ∃ l, s.data.toList = l := ⟨_, rfl⟩
  have hll : l.length = 64 := by rw [← hl]; simpa using hs
  rw [hl] at hidx ⊢
  clear hl
  have hx0 : ∀ k : Nat, k < 64 → ∀ w, (Instr.index 9 (.string s) (.int .i64 (k : Int))).run Tryz.prog w = .ok (.int .u8 (vw (bw (l.getD k 0)))) w := fun k hk => hidx k (by omega) (by omega)
  clear hidx hs
  have hF1 := Lib.hid (firstW_all l hll)
  replace hll := Lib.hid hll
  have KH := Lib.hid hb
  have hbl := hb.lt
  have HK := Lib.hid hk
  have hkl := hk.2
  clear hb hk
  have hTB : takeB v l = v.add (roundW v (moreW l 48) 64) := by
    rw [roundW_all _ _ (moreW_len l 48 (by decide)), moreW_all]
    rfl
  rw [hTB]
  clear hTB
  go_enter Tryz.func75, Tryz.ntmps75
  go_wp2_with fail
  go_loopw [22, 5] (fun i j wr => ∃ k : Nat, k ≤ 64 ∧ i = .int .i64 k ∧ Blk wr w.heap.size 94 (cw (firstW l k)) ∧ Below w.heap.size w wr)
    (fun i _ _ => (64 - intOf i).toNat)
  case atStart => exact ⟨0, Nat.zero_le _, rfl, Blk.to (Blk.new0 _ _ _) rfl, (by repeat (first | assumption | exact Below.refl _ _ | refine Below.setCell ?_ (by first | exact Nat.le_refl _ | (simp; done) | omega | (simp; omega)) _ | refine Below.alloc ?_ (by first | exact Nat.le_refl _ | (simp; done) | omega | (simp; omega)) _ | refine below_drewN ?_ _ | refine Below.drew ?_ | refine Below.on (by assumption) ?_ | refine Below.via (by assumption) (by first | exact Nat.le_refl _ | (simp; done) | omega | (simp; omega)) ?_))⟩
  case round =>
    obtain ⟨k, hk, rfl, K0, HB⟩ := hrel
    by_cases hlt : k < 64
    · have HX := hx0 k hlt
      have hlen := firstW_len l k
      have g0 := cw_get (L := firstW l k) (i := k / 4) (by omega)
      have v1 := vw_nonneg (bw (l.getD k 0))
      have v2 := bw_lt (l.getD k 0)
      have e1 := shl_w' ((firstW l k).getD (k / 4) 0) 8 256 rfl
      have HS := (show firstW l (k + 1) = (firstW l k).set (k / 4) ((firstW l k).getD (k / 4) 0 <<< 8 ||| bw (l.getD k 0)) from rfl)
      have hc := cw_set (firstW l k) (k / 4) ((firstW l k).getD (k / 4) 0 <<< 8 ||| bw (l.getD k 0))
      rw [← HS] at hc
      replace hc := Lib.hid hc
      clear hlen HS
      generalize (firstW l k).getD (k / 4) 0 = x at *
      generalize firstW l k = L at *
      generalize bw (l.getD k 0) = c at *
      clear hx0 hF1
      replace K0 := Lib.hid K0
      (have k0 := Blk.cell K0.out; have f0 := Blk.free K0.out; have l0 := Blk.lt K0.out; have m0 := Nat.le_of_lt l0)
      go_wp2_with fail
      (refine wp_region_later_tail 13 (by kernel_rfl) (by kernel_rfl) ?_; simp only [List.take_succ_cons, List.take_zero, List.drop_succ_cons, List.drop_zero]; (repeat (go_big_quiet_step (fail))); refine wpQuiet_nil ?_; intro w' hB)
      (have HBn : Below w.heap.size w w' := Below.on hB (by repeat (first | assumption | exact Below.refl _ _ | refine Below.setCell ?_ (by first | exact Nat.le_refl _ | (simp; done) | omega | (simp; omega)) _ | refine Below.alloc ?_ (by first | exact Nat.le_refl _ | (simp; done) | omega | (simp; omega)) _ | refine below_drewN ?_ _ | refine Below.drew ?_ | refine Below.on (by assumption) ?_ | refine Below.via (by assumption) (by first | exact Nat.le_refl _ | (simp; done) | omega | (simp; omega)) ?_)); have N0 := Lib.hid (Blk.below (g := w.heap.size) (by repeat (first | with_reducible exact K0.out | with_reducible exact Blk.new0 _ _ _ | with_reducible exact Blk.new1 _ _ _ _ | with_reducible exact Blk.new2 _ _ _ _ _ | with_reducible exact Blk.new3 _ _ _ _ _ _ | with_reducible exact Blk.new4 _ _ _ _ _ _ _ | with_reducible exact Blk.newS1 _ _ _ _ _ | with_reducible exact Blk.newS2 _ _ _ _ _ _ _ | with_reducible exact Blk.newS3 _ _ _ _ _ _ _ _ _ | with_reducible apply Blk.set_ | with_reducible apply Blk.alloc | with_reducible apply Blk.drewN | with_reducible apply Blk.drew | (with_reducible apply Blk.over2; first | assumption | omega))) hB); (try simp only [List.setIfInBounds_toArray, List.set_cons_succ, List.set_cons_zero] at N0); clear K0 k0 f0 l0 m0; (try clear HB); clear hB; have HB := HBn; clear HBn; have HZw' := HB.size; have K0 := N0; clear N0; have k0 := Blk.cell K0.out; have f0 := Blk.free K0.out; have l0 := Blk.lt K0.out; have m0 := Nat.le_of_lt l0)
      go_wp2_with fail
      go_roundw
      case rel => exact ⟨k + 1, by omega, by go_num, by rw [← hc.out]; exact K0.out.set_ _ _, (by repeat (first | assumption | exact Below.refl _ _ | refine Below.setCell ?_ (by first | exact Nat.le_refl _ | (simp; done) | omega | (simp; omega)) _ | refine Below.alloc ?_ (by first | exact Nat.le_refl _ | (simp; done) | omega | (simp; omega)) _ | refine below_drewN ?_ _ | refine Below.drew ?_ | refine Below.on (by assumption) ?_ | refine Below.via (by assumption) (by first | exact Nat.le_refl _ | (simp; done) | omega | (simp; omega)) ?_))⟩
      case measure => simp [intOf]; omega
    · obtain rfl : k = 64 := by omega
      rw [hF1.out] at K0
      simp only [show ((64 : Nat) : Int) = 64 from rfl]
      change Blk wr _ _ (cw (moreW l 0)) at K0
      clear hx0 hF1
      go_wp2_with fail
      go_loopw [6] (fun i wr2 => ∃ k : Nat, k ≤ 48 ∧ i = .int .i64 ((k : Int) + 16) ∧ Blk wr2 w.heap.size 94 (cw (moreW l k)) ∧ Below w.heap.size w wr2)
        (fun i _ => (64 - intOf i).toNat)
      case atStart => exact ⟨0, Nat.zero_le _, rfl, K0, HB⟩
      case round =>
        clear K0 HB
        obtain ⟨k, hk, rfl, K0, HB⟩ := hrel
        by_cases hlt : k < 48
        · have HN := moreW_next l k hlt
          have hlen := moreW_len l k hk
          have hc := cw_set (moreW l k) (k + 16) ((moreW l k).getD k 0 + (moreW l k).getD (k + 9) 0 + sig0 ((moreW l k).getD (k + 1) 0) + sig1 ((moreW l k).getD (k + 14) 0))
          rw [← HN] at hc
          have g0 := cw_get (L := moreW l k) (i := k) (by omega)
          have g9 := cw_get (L := moreW l k) (i := k + 9) (by omega)
          have g1 := cw_get (L := moreW l k) (i := k + 1) (by omega)
          have g14 := cw_get (L := moreW l k) (i := k + 14) (by omega)
          have g16 := cw_get (L := moreW l k) (i := k + 16) (by omega)
          clear HN hlen
          generalize (moreW l k).getD k 0 = x0 at *
          generalize (moreW l k).getD (k + 9) 0 = x9 at *
          generalize (moreW l k).getD (k + 1) 0 = x1 at *
          generalize (moreW l k).getD (k + 14) 0 = x14 at *
          generalize (moreW l k).getD (k + 16) 0 = x16 at *
          generalize moreW l k = L at *
          have g9' := g9
          rw [show k + 9 = k + 16 - 7 from rfl] at g9'
          have g1' := g1
          rw [show k + 1 = k + 16 - 15 from rfl] at g1'
          have g14' := g14
          rw [show k + 14 = k + 16 - 2 from rfl] at g14'
          replace hc := Lib.hid hc
          have e1 := shr_w x1 3 8 rfl
          have e2 := shr_w x14 10 1024 rfl
          replace K0 := Lib.hid K0
          (have k0 := Blk.cell K0.out; have f0 := Blk.free K0.out; have l0 := Blk.lt K0.out; have m0 := Nat.le_of_lt l0)
          go_wp2_with fail
          (refine wp_region_later (by kernel_rfl) (by kernel_rfl) ?_; (repeat (go_big_quiet_step (fail))); refine wpQuiet_nil ?_; intro w' hB)
          (have HBn : Below w.heap.size w w' := Below.on hB (by repeat (first | assumption | exact Below.refl _ _ | refine Below.setCell ?_ (by first | exact Nat.le_refl _ | (simp; done) | omega | (simp; omega)) _ | refine Below.alloc ?_ (by first | exact Nat.le_refl _ | (simp; done) | omega | (simp; omega)) _ | refine below_drewN ?_ _ | refine Below.drew ?_ | refine Below.on (by assumption) ?_ | refine Below.via (by assumption) (by first | exact Nat.le_refl _ | (simp; done) | omega | (simp; omega)) ?_)); have N0 := Lib.hid (Blk.below (g := w.heap.size) (by repeat (first | with_reducible exact K0.out | with_reducible exact Blk.new0 _ _ _ | with_reducible exact Blk.new1 _ _ _ _ | with_reducible exact Blk.new2 _ _ _ _ _ | with_reducible exact Blk.new3 _ _ _ _ _ _ | with_reducible exact Blk.new4 _ _ _ _ _ _ _ | with_reducible exact Blk.newS1 _ _ _ _ _ | with_reducible exact Blk.newS2 _ _ _ _ _ _ _ | with_reducible exact Blk.newS3 _ _ _ _ _ _ _ _ _ | with_reducible apply Blk.set_ | with_reducible apply Blk.alloc | with_reducible apply Blk.drewN | with_reducible apply Blk.drew | (with_reducible apply Blk.over2; first | assumption | omega))) hB); (try simp only [List.setIfInBounds_toArray, List.set_cons_succ, List.set_cons_zero] at N0); clear K0 k0 f0 l0 m0; (try clear HB); clear hB; have HB := HBn; clear HBn; have HZw' := HB.size; have K0 := N0; clear N0; have k0 := Blk.cell K0.out; have f0 := Blk.free K0.out; have l0 := Blk.lt K0.out; have m0 := Nat.le_of_lt l0)
          go_wp2_with fail
          (refine wp_region_later_tail 29 (by kernel_rfl) (by kernel_rfl) ?_; simp only [List.take_succ_cons, List.take_zero, List.drop_succ_cons, List.drop_zero]; (repeat (go_big_quiet_step ((go_at_call 90; with_reducible exact lw (turn_of _ _ (by decide) _))))); refine wpQuiet_nil ?_; intro w' hB)
          (have HBn : Below w.heap.size w w' := Below.on hB (by repeat (first | assumption | exact Below.refl _ _ | refine Below.setCell ?_ (by first | exact Nat.le_refl _ | (simp; done) | omega | (simp; omega)) _ | refine Below.alloc ?_ (by first | exact Nat.le_refl _ | (simp; done) | omega | (simp; omega)) _ | refine below_drewN ?_ _ | refine Below.drew ?_ | refine Below.on (by assumption) ?_ | refine Below.via (by assumption) (by first | exact Nat.le_refl _ | (simp; done) | omega | (simp; omega)) ?_)); have N0 := Lib.hid (Blk.below (g := w.heap.size) (by repeat (first | with_reducible exact K0.out | with_reducible exact Blk.new0 _ _ _ | with_reducible exact Blk.new1 _ _ _ _ | with_reducible exact Blk.new2 _ _ _ _ _ | with_reducible exact Blk.new3 _ _ _ _ _ _ | with_reducible exact Blk.new4 _ _ _ _ _ _ _ | with_reducible exact Blk.newS1 _ _ _ _ _ | with_reducible exact Blk.newS2 _ _ _ _ _ _ _ | with_reducible exact Blk.newS3 _ _ _ _ _ _ _ _ _ | with_reducible apply Blk.set_ | with_reducible apply Blk.alloc | with_reducible apply Blk.drewN | with_reducible apply Blk.drew | (with_reducible apply Blk.over2; first | assumption | omega))) hB); (try simp only [List.setIfInBounds_toArray, List.set_cons_succ, List.set_cons_zero] at N0); clear K0 k0 f0 l0 m0; (try clear HB); clear hB; have HB := HBn; clear HBn; have HZw' := HB.size; have K0 := N0; clear N0; have k0 := Blk.cell K0.out; have f0 := Blk.free K0.out; have l0 := Blk.lt K0.out; have m0 := Nat.le_of_lt l0)
          go_wp2_with fail
          go_roundw
          case rel => exact ⟨k + 1, by omega, by congr 1 <;> omega, by rw [← hc.out]; exact K0.out.set_ _ _, (by repeat (first | assumption | exact Below.refl _ _ | refine Below.setCell ?_ (by first | exact Nat.le_refl _ | (simp; done) | omega | (simp; omega)) _ | refine Below.alloc ?_ (by first | exact Nat.le_refl _ | (simp; done) | omega | (simp; omega)) _ | refine below_drewN ?_ _ | refine Below.drew ?_ | refine Below.on (by assumption) ?_ | refine Below.via (by assumption) (by first | exact Nat.le_refl _ | (simp; done) | omega | (simp; omega)) ?_))⟩
          case measure => simp [intOf]; omega
        · obtain rfl : k = 48 := by omega
          simp only [show ((48 : Nat) : Int) + 16 = 64 from rfl]
          have hlen := moreW_len l 48 (by decide)
          have HR := fun k hk => roundW_succ v (moreW l 48) hlen k hk
          have hg := fun (i : Nat) (hi : i < 64) => cw_get (L := moreW l 48) (i := i) (by omega)
          generalize moreW l 48 = L at *
          clear hlen
          have K1 := KH.out.on HB hbl
          unfold cS at K1
          replace K1 := Lib.hid K1
          have HK1 := HK.out.from HB hkl
          replace K0 := Lib.hid K0
          (have k0 := Blk.cell K0.out; have f0 := Blk.free K0.out; have l0 := Blk.lt K0.out; have m0 := Nat.le_of_lt l0; have k1 := Blk.cell K1.out; have f1 := Blk.free K1.out; have l1 := Blk.lt K1.out; have m1 := Nat.le_of_lt l1)
          go_wp2_with fail
          (refine wp_region_later (by kernel_rfl) (by kernel_rfl) ?_; (repeat (go_big_quiet_step (fail))); refine wpQuiet_nil ?_; intro w' hB)
          have HK2 := Lib.hid (HK1.on hB)
          clear HK1
          (have HBn : Below w.heap.size w w' := Below.on hB (by repeat (first | assumption | exact Below.refl _ _ | refine Below.setCell ?_ (by first | exact Nat.le_refl _ | (simp; done) | omega | (simp; omega)) _ | refine Below.alloc ?_ (by first | exact Nat.le_refl _ | (simp; done) | omega | (simp; omega)) _ | refine below_drewN ?_ _ | refine Below.drew ?_ | refine Below.on (by assumption) ?_ | refine Below.via (by assumption) (by first | exact Nat.le_refl _ | (simp; done) | omega | (simp; omega)) ?_)); have N0 := Lib.hid (Blk.below (g := w.heap.size) (by repeat (first | with_reducible exact K0.out | with_reducible exact Blk.new0 _ _ _ | with_reducible exact Blk.new1 _ _ _ _ | with_reducible exact Blk.new2 _ _ _ _ _ | with_reducible exact Blk.new3 _ _ _ _ _ _ | with_reducible exact Blk.new4 _ _ _ _ _ _ _ | with_reducible exact Blk.newS1 _ _ _ _ _ | with_reducible exact Blk.newS2 _ _ _ _ _ _ _ | with_reducible exact Blk.newS3 _ _ _ _ _ _ _ _ _ | with_reducible apply Blk.set_ | with_reducible apply Blk.alloc | with_reducible apply Blk.drewN | with_reducible apply Blk.drew | (with_reducible apply Blk.over2; first | assumption | omega))) hB); (try simp only [List.setIfInBounds_toArray, List.set_cons_succ, List.set_cons_zero] at N0); have N1 := Lib.hid (Blk.below (g := b) (by repeat (first | with_reducible exact K1.out | with_reducible exact Blk.new0 _ _ _ | with_reducible exact Blk.new1 _ _ _ _ | with_reducible exact Blk.new2 _ _ _ _ _ | with_reducible exact Blk.new3 _ _ _ _ _ _ | with_reducible exact Blk.new4 _ _ _ _ _ _ _ | with_reducible exact Blk.newS1 _ _ _ _ _ | with_reducible exact Blk.newS2 _ _ _ _ _ _ _ | with_reducible exact Blk.newS3 _ _ _ _ _ _ _ _ _ | with_reducible apply Blk.set_ | with_reducible apply Blk.alloc | with_reducible apply Blk.drewN | with_reducible apply Blk.drew | (with_reducible apply Blk.over2; first | assumption | omega))) hB); (try simp only [List.setIfInBounds_toArray, List.set_cons_succ, List.set_cons_zero] at N1); clear K0 k0 f0 l0 m0 K1 k1 f1 l1 m1; (try clear HB); clear hB; have HB := HBn; clear HBn; have HZw' := HB.size; have K0 := N0; clear N0; have k0 := Blk.cell K0.out; have f0 := Blk.free K0.out; have l0 := Blk.lt K0.out; have m0 := Nat.le_of_lt l0; have K1 := N1; clear N1; have k1 := Blk.cell K1.out; have f1 := Blk.free K1.out; have l1 := Blk.lt K1.out; have m1 := Nat.le_of_lt l1)
          go_wp2_with fail
          go_loopw [9, 10, 11, 12, 13, 14, 15, 16, 112] (fun a1 b1 c1 d1 e1 f1 g1 h1 i wr3 => ∃ (k : Nat) (u : St), k ≤ 64 ∧ u = roundW v L k ∧ i = .int .i64 k ∧ a1 = .int .u32 (vw u.a) ∧ b1 = .int .u32 (vw u.b) ∧ c1 = .int .u32 (vw u.c) ∧ d1 = .int .u32 (vw u.d) ∧ e1 = .int .u32 (vw u.e) ∧ f1 = .int .u32 (vw u.f) ∧ g1 = .int .u32 (vw u.g) ∧ h1 = .int .u32 (vw u.h) ∧
              Blk wr3 w.heap.size 94 (cw L) ∧ Below w.heap.size w wr3)
            (fun _ _ _ _ _ _ _ _ i _ => (64 - intOf i).toNat)
          case atStart => exact ⟨0, v, Nat.zero_le _, rfl, rfl, rfl, rfl, rfl, rfl, rfl, rfl, rfl, rfl, K0.out, HB⟩
          case round =>
            clear K0 K1 k0 f0 l0 m0 k1 f1 l1 m1 HB HZw' HK2
            obtain ⟨k, u, hk, hu, rfl, rfl, rfl, rfl, rfl, rfl, rfl, rfl, rfl, K0, HB⟩ := hrel
            by_cases hlt : k < 64
            · have HS := HR k hlt
              rw [← hu] at HS
              have hgk := hg k hlt
              have HK1 := HK.out.from HB hkl
              have hkk := HK1.1 k hlt
              have hk0 := HK1.2
              clear HR hg HK1 hu
              generalize L.getD k 0 = y at *
              generalize kTab.getD k 0 = kk at *
              replace HS := Lib.hid HS
              replace K0 := Lib.hid K0
              (have k0 := Blk.cell K0.out; have f0 := Blk.free K0.out; have l0 := Blk.lt K0.out; have m0 := Nat.le_of_lt l0)
              go_wp2_with fail
              (refine wp_region_later (by kernel_rfl) (by kernel_rfl) ?_; (repeat (go_big_quiet_step ((go_at_call 90; with_reducible exact lw (turn_of _ _ (by decide) _))))); refine wpQuiet_nil ?_; intro w' hB)
              (have HBn : Below w.heap.size w w' := Below.on hB (by repeat (first | assumption | exact Below.refl _ _ | refine Below.setCell ?_ (by first | exact Nat.le_refl _ | (simp; done) | omega | (simp; omega)) _ | refine Below.alloc ?_ (by first | exact Nat.le_refl _ | (simp; done) | omega | (simp; omega)) _ | refine below_drewN ?_ _ | refine Below.drew ?_ | refine Below.on (by assumption) ?_ | refine Below.via (by assumption) (by first | exact Nat.le_refl _ | (simp; done) | omega | (simp; omega)) ?_)); have N0 := Lib.hid (Blk.below (g := w.heap.size) (by repeat (first | with_reducible exact K0.out | with_reducible exact Blk.new0 _ _ _ | with_reducible exact Blk.new1 _ _ _ _ | with_reducible exact Blk.new2 _ _ _ _ _ | with_reducible exact Blk.new3 _ _ _ _ _ _ | with_reducible exact Blk.new4 _ _ _ _ _ _ _ | with_reducible exact Blk.newS1 _ _ _ _ _ | with_reducible exact Blk.newS2 _ _ _ _ _ _ _ | with_reducible exact Blk.newS3 _ _ _ _ _ _ _ _ _ | with_reducible apply Blk.set_ | with_reducible apply Blk.alloc | with_reducible apply Blk.drewN | with_reducible apply Blk.drew | (with_reducible apply Blk.over2; first | assumption | omega))) hB); (try simp only [List.setIfInBounds_toArray, List.set_cons_succ, List.set_cons_zero] at N0); clear K0 k0 f0 l0 m0; (try clear HB); clear hB; have HB := HBn; clear HBn; have HZw' := HB.size; have K0 := N0; clear N0; have k0 := Blk.cell K0.out; have f0 := Blk.free K0.out; have l0 := Blk.lt K0.out; have m0 := Nat.le_of_lt l0)
              go_wp2_with fail
              refine (turn_of _ _ (by decide) _).mono ?_
              rintro e w' ⟨rfl, rfl⟩
              go_wp2_with fail
              refine (turn_of _ _ (by decide) _).mono ?_
              rintro e w' ⟨rfl, rfl⟩
              go_wp2_with fail
              refine (turn_of _ _ (by decide) _).mono ?_
              rintro e w' ⟨rfl, rfl⟩
              go_wp2_with fail
              go_roundw
              case rel => exact ⟨k + 1, rnd u kk y, by omega, HS.out.symm, by congr 1 <;> omega, rfl, rfl, rfl, rfl, rfl, rfl, rfl, rfl, K0.out, HB⟩
              case measure => simp [intOf]; omega
            · obtain rfl : k = 64 := by omega
              have HU := Lib.hid hu
              clear hu HR hg
              have K1 := KH.out.on HB hbl
              have G := grown_of (b := b) HB
              clear KH HK K0 HB
              unfold cS at K1
              replace K1 := Lib.hid K1
              go_wp2_with fail
              refine wp_loop_rounds 9 ?_
              rw [rounds_succ]
              (have k1 := Blk.cell K1.out; have f1 := Blk.free K1.out; have l1 := Blk.lt K1.out; have m1 := Nat.le_of_lt l1)
              go_wp2_with fail
              (refine wp_region_later_tail 9 (by kernel_rfl) (by kernel_rfl) ?_; simp only [List.take_succ_cons, List.take_zero, List.drop_succ_cons, List.drop_zero]; (repeat (go_big_quiet_step (fail))); refine wpQuiet_nil ?_; intro w' hB)
              clear k1 f1 l1 m1
              replace K1 := Lib.hid (K1.out.below hB)
              replace G := grown_on G hB
              clear hB
              (have k1 := Blk.cell K1.out; have f1 := Blk.free K1.out; have l1 := Blk.lt K1.out; have m1 := Nat.le_of_lt l1)
              go_wp2_with fail
              clear k1 f1 l1 m1
              replace K1 := Lib.hid (K1.out.set_ 0 (.int .u32 (vw (v.a + u.a))))
              replace G := grown_set (i := 0) (u := .int .u32 (vw (v.a + u.a))) G
              simp only [List.setIfInBounds_toArray, List.set_cons_succ, List.set_cons_zero] at K1
              generalize w'.setCell ⟨b, 0, none⟩ (.int .u32 (vw (v.a + u.a))) = v0 at K1 G ⊢
              rw [rounds_succ]
              (have k1 := Blk.cell K1.out; have f1 := Blk.free K1.out; have l1 := Blk.lt K1.out; have m1 := Nat.le_of_lt l1)
              go_wp2_with fail
              (refine wp_region_later_tail 9 (by kernel_rfl) (by kernel_rfl) ?_; simp only [List.take_succ_cons, List.take_zero, List.drop_succ_cons, List.drop_zero]; (repeat (go_big_quiet_step (fail))); refine wpQuiet_nil ?_; intro w' hB)
              clear k1 f1 l1 m1
              replace K1 := Lib.hid (K1.out.below hB)
              replace G := grown_on G hB
              clear hB
              (have k1 := Blk.cell K1.out; have f1 := Blk.free K1.out; have l1 := Blk.lt K1.out; have m1 := Nat.le_of_lt l1)
              go_wp2_with fail
              clear k1 f1 l1 m1
              replace K1 := Lib.hid (K1.out.set_ 1 (.int .u32 (vw (v.b + u.b))))
              replace G := grown_set (i := 1) (u := .int .u32 (vw (v.b + u.b))) G
              simp only [List.setIfInBounds_toArray, List.set_cons_succ, List.set_cons_zero] at K1
              generalize w'.setCell ⟨b, 1, none⟩ (.int .u32 (vw (v.b + u.b))) = v1 at K1 G ⊢
              rw [rounds_succ]
              (have k1 := Blk.cell K1.out; have f1 := Blk.free K1.out; have l1 := Blk.lt K1.out; have m1 := Nat.le_of_lt l1)
              go_wp2_with fail
              (refine wp_region_later_tail 9 (by kernel_rfl) (by kernel_rfl) ?_; simp only [List.take_succ_cons, List.take_zero, List.drop_succ_cons, List.drop_zero]; (repeat (go_big_quiet_step (fail))); refine wpQuiet_nil ?_; intro w' hB)
              clear k1 f1 l1 m1
              replace K1 := Lib.hid (K1.out.below hB)
              replace G := grown_on G hB
              clear hB
              (have k1 := Blk.cell K1.out; have f1 := Blk.free K1.out; have l1 := Blk.lt K1.out; have m1 := Nat.le_of_lt l1)
              go_wp2_with fail
              clear k1 f1 l1 m1
              replace K1 := Lib.hid (K1.out.set_ 2 (.int .u32 (vw (v.c + u.c))))
              replace G := grown_set (i := 2) (u := .int .u32 (vw (v.c + u.c))) G
              simp only [List.setIfInBounds_toArray, List.set_cons_succ, List.set_cons_zero] at K1
              generalize w'.setCell ⟨b, 2, none⟩ (.int .u32 (vw (v.c + u.c))) = v2 at K1 G ⊢
              rw [rounds_succ]
              (have k1 := Blk.cell K1.out; have f1 := Blk.free K1.out; have l1 := Blk.lt K1.out; have m1 := Nat.le_of_lt l1)
              go_wp2_with fail
              (refine wp_region_later_tail 9 (by kernel_rfl) (by kernel_rfl) ?_; simp only [List.take_succ_cons, List.take_zero, List.drop_succ_cons, List.drop_zero]; (repeat (go_big_quiet_step (fail))); refine wpQuiet_nil ?_; intro w' hB)
              clear k1 f1 l1 m1
              replace K1 := Lib.hid (K1.out.below hB)
              replace G := grown_on G hB
              clear hB
              (have k1 := Blk.cell K1.out; have f1 := Blk.free K1.out; have l1 := Blk.lt K1.out; have m1 := Nat.le_of_lt l1)
              go_wp2_with fail
              clear k1 f1 l1 m1
              replace K1 := Lib.hid (K1.out.set_ 3 (.int .u32 (vw (v.d + u.d))))
              replace G := grown_set (i := 3) (u := .int .u32 (vw (v.d + u.d))) G
              simp only [List.setIfInBounds_toArray, List.set_cons_succ, List.set_cons_zero] at K1
              generalize w'.setCell ⟨b, 3, none⟩ (.int .u32 (vw (v.d + u.d))) = v3 at K1 G ⊢
              rw [rounds_succ]
              (have k1 := Blk.cell K1.out; have f1 := Blk.free K1.out; have l1 := Blk.lt K1.out; have m1 := Nat.le_of_lt l1)
              go_wp2_with fail
              (refine wp_region_later_tail 9 (by kernel_rfl) (by kernel_rfl) ?_; simp only [List.take_succ_cons, List.take_zero, List.drop_succ_cons, List.drop_zero]; (repeat (go_big_quiet_step (fail))); refine wpQuiet_nil ?_; intro w' hB)
              clear k1 f1 l1 m1
              replace K1 := Lib.hid (K1.out.below hB)
              replace G := grown_on G hB
              clear hB
              (have k1 := Blk.cell K1.out; have f1 := Blk.free K1.out; have l1 := Blk.lt K1.out; have m1 := Nat.le_of_lt l1)
              go_wp2_with fail
              clear k1 f1 l1 m1
              replace K1 := Lib.hid (K1.out.set_ 4 (.int .u32 (vw (v.e + u.e))))
              replace G := grown_set (i := 4) (u := .int .u32 (vw (v.e + u.e))) G
              simp only [List.setIfInBounds_toArray, List.set_cons_succ, List.set_cons_zero] at K1
              generalize w'.setCell ⟨b, 4, none⟩ (.int .u32 (vw (v.e + u.e))) = v4 at K1 G ⊢
              rw [rounds_succ]
              (have k1 := Blk.cell K1.out; have f1 := Blk.free K1.out; have l1 := Blk.lt K1.out; have m1 := Nat.le_of_lt l1)
              go_wp2_with fail
              (refine wp_region_later_tail 9 (by kernel_rfl) (by kernel_rfl) ?_; simp only [List.take_succ_cons, List.take_zero, List.drop_succ_cons, List.drop_zero]; (repeat (go_big_quiet_step (fail))); refine wpQuiet_nil ?_; intro w' hB)
              clear k1 f1 l1 m1
              replace K1 := Lib.hid (K1.out.below hB)
              replace G := grown_on G hB
              clear hB
              (have k1 := Blk.cell K1.out; have f1 := Blk.free K1.out; have l1 := Blk.lt K1.out; have m1 := Nat.le_of_lt l1)
              go_wp2_with fail
              clear k1 f1 l1 m1
              replace K1 := Lib.hid (K1.out.set_ 5 (.int .u32 (vw (v.f + u.f))))
              replace G := grown_set (i := 5) (u := .int .u32 (vw (v.f + u.f))) G
              simp only [List.setIfInBounds_toArray, List.set_cons_succ, List.set_cons_zero] at K1
              generalize w'.setCell ⟨b, 5, none⟩ (.int .u32 (vw (v.f + u.f))) = v5 at K1 G ⊢
              rw [rounds_succ]
              (have k1 := Blk.cell K1.out; have f1 := Blk.free K1.out; have l1 := Blk.lt K1.out; have m1 := Nat.le_of_lt l1)
              go_wp2_with fail
              (refine wp_region_later_tail 9 (by kernel_rfl) (by kernel_rfl) ?_; simp only [List.take_succ_cons, List.take_zero, List.drop_succ_cons, List.drop_zero]; (repeat (go_big_quiet_step (fail))); refine wpQuiet_nil ?_; intro w' hB)
              clear k1 f1 l1 m1
              replace K1 := Lib.hid (K1.out.below hB)
              replace G := grown_on G hB
              clear hB
              (have k1 := Blk.cell K1.out; have f1 := Blk.free K1.out; have l1 := Blk.lt K1.out; have m1 := Nat.le_of_lt l1)
              go_wp2_with fail
              clear k1 f1 l1 m1
              replace K1 := Lib.hid (K1.out.set_ 6 (.int .u32 (vw (v.g + u.g))))
              replace G := grown_set (i := 6) (u := .int .u32 (vw (v.g + u.g))) G
              simp only [List.setIfInBounds_toArray, List.set_cons_succ, List.set_cons_zero] at K1
              generalize w'.setCell ⟨b, 6, none⟩ (.int .u32 (vw (v.g + u.g))) = v6 at K1 G ⊢
              rw [rounds_succ]
              (have k1 := Blk.cell K1.out; have f1 := Blk.free K1.out; have l1 := Blk.lt K1.out; have m1 := Nat.le_of_lt l1)
              go_wp2_with fail
              (refine wp_region_later_tail 9 (by kernel_rfl) (by kernel_rfl) ?_; simp only [List.take_succ_cons, List.take_zero, List.drop_succ_cons, List.drop_zero]; (repeat (go_big_quiet_step (fail))); refine wpQuiet_nil ?_; intro w' hB)
              clear k1 f1 l1 m1
              replace K1 := Lib.hid (K1.out.below hB)
              replace G := grown_on G hB
              clear hB
              (have k1 := Blk.cell K1.out; have f1 := Blk.free K1.out; have l1 := Blk.lt K1.out; have m1 := Nat.le_of_lt l1)
              go_wp2_with fail
              clear k1 f1 l1 m1
              replace K1 := Lib.hid (K1.out.set_ 7 (.int .u32 (vw (v.h + u.h))))
              replace G := grown_set (i := 7) (u := .int .u32 (vw (v.h + u.h))) G
              simp only [List.setIfInBounds_toArray, List.set_cons_succ, List.set_cons_zero] at K1
              generalize w'.setCell ⟨b, 7, none⟩ (.int .u32 (vw (v.h + u.h))) = v7 at K1 G ⊢
              rw [rounds_succ]
              go_wp2_with fail
              refine bodyPost_end (results_none rfl _ _ _) rfl ?_

              exact ⟨rfl, G, by rw [← HU.out]; exact K1.out⟩
end Go.Proofs.YtpmmjomejackkaaGreatDoor
end
section
namespace Go.Proofs.YtpmmjomejackkaaGreatDoor
open Go.ChangeShapes Go.WideShapes Go.ChangeAt Go.RowKit Go.Joins
set_option maxRecDepth 100000

theorem own : ownKnob Tryz.prog.godebug = none := by kernel_rfl

section
variable {H : Type} {enc : TypeId × Value → H} {P : Program}
end

section
variable {H : Type} {enc : TypeId × Value → H} {w : World} {base : Nat} {spare : Nat → Bool} {held : Bool} {r : Reach} {b0 : Nat} {v : Value} {d : DataW H} {p : List MemPlace}
end
end Go.Proofs.YtpmmjomejackkaaGreatDoor
end
section
namespace Go.Proofs.YtpmmjomejackkaaGreatDoor
open Go.ChangeShapes Go.WideShapes Go.ChangeAt Go.RowKit Go.Joins
set_option maxRecDepth 100000

/-- a slice's address leads to these texts -/
def Strs (w : World) (A : Option Addr) (xs : List ByteArray) : Prop :=
  0 < xs.length → ∃ b o, A = some ⟨b, o, none⟩ ∧ b < w.heap.size ∧ ∀ (i : Nat) (x : ByteArray), xs[i]? = some x → w.cell? ⟨b, o + i, none⟩ = some (.string x)
theorem Strs.nil (w : World) (A : Option Addr) : Strs w A [] := fun h => absurd h (by simp)
theorem Strs.keep {w w' : World} {A : Option Addr} {xs : List ByteArray} (h : Strs w A xs) (hz : w.heap.size ≤ w'.heap.size) (hk : ∀ b o, b < w.heap.size → w'.cell? ⟨b, o, none⟩ = w.cell? ⟨b, o, none⟩) : Strs w' A xs := fun h0 => by
  obtain ⟨b, o, ha, hb, hc⟩ := h h0
  exact ⟨b, o, ha, by omega, fun i x hx => (hk _ _ hb).trans (hc i x hx)⟩
theorem Strs.below {w w' : World} {A : Option Addr} {xs : List ByteArray} (h : Strs w A xs) (hb : Below w.heap.size w w') : Strs w' A xs := h.keep hb.size fun b o hp => hb.cell (p := ⟨b, o, none⟩) hp
/-- .. of cells at an address -/
theorem Strs.mk {w : World} {b o : Nat} {xs : List ByteArray} (hb : b < w.heap.size) (h : ∀ (i : Nat) (x : ByteArray), xs[i]? = some x → w.cell? ⟨b, o + i, none⟩ = some (.string x)) : Strs w (some ⟨b, o, none⟩) xs := fun _ => ⟨b, o, rfl, hb, h⟩

section
variable {H : Type} {enc : TypeId × Value → H} {P : Program}
end
section
variable {H : Type} {enc : TypeId × Value → H} {w : World} {base : Nat} {spare : Nat → Bool} {held : Bool} {r : Reach} {b0 : Nat} {v : Value} {d : DataW H} {p : List MemPlace}
end
end Go.Proofs.YtpmmjomejackkaaGreatDoor
end
section
set_option linter.unusedSimpArgs false
set_option linter.unusedVariables false
namespace Go.Proofs.YtpmmjomejackkaaGreatDoor
open BigFrame Go.RowKit Go.Phx Go.Shelf
attribute [local go_sem] Oper.semAt_some

/-- a list of bytes as a text -/
def bs (l : List UInt8) : ByteArray := ⟨l.toArray⟩
theorem bs_list (l : List UInt8) : (bs l).data.toList = l := rfl
@[go_sem] theorem bs_size (l : List UInt8) : (bs l).size = l.length := by simp [bs, ByteArray.size]
@[go_sem] theorem bs_toList (l : List UInt8) : (bs l).toList = l := by
  rw [ByteArray.toList_eq]
  rfl
@[go_sem] theorem bs_app (a b : List UInt8) : bs a ++ bs b = bs (a ++ b) := by
  apply ByteArray.ext
  simp [bs, ByteArray.data_append]
theorem bs_ext (l : List UInt8) (a b : Nat) : (bs l).extract a b = bs ((l.drop a).take (b - a)) := by
  apply ByteArray.ext
  simp [bs, ByteArray.data_extract]
@[go_sem] theorem bs_take (l : List UInt8) (b : Nat) : (bs l).extract 0 b = bs (l.take b) := by rw [bs_ext]; simp
@[go_sem] theorem bs_drop (l : List UInt8) (a : Nat) : (bs l).extract a l.length = bs (l.drop a) := by
  rw [bs_ext, List.take_of_length_le (by simp)]
theorem conv1 (W : World) (t : TypeId) (a : Int) (k : Nat) : (convert 73 9 (.slice (some ⟨W.heap.size, 0, none⟩) 1 k)).run Tryz.prog (W.alloc (.cells #[.int .u8 a] t)) =
    .ok (.string (bs [UInt8.ofNat a.toNat])) (W.alloc (.cells #[.int .u8 a] t)) := by
  have hs : Tryz.prog.underlying 73 = some (.slice 5) := by kernel_rfl
  have he : Tryz.prog.underlying 5 = some (.int .u8) := by kernel_rfl
  have hd : Tryz.prog.underlying 9 = some .string := by kernel_rfl
  exact run_convert_bytes_arg _ _ _ hs he W.heap.size 0 1 k [a] rfl (fun i hi => by
    have hK := Blk.new0 W t #[.int .u8 a]
    rw [hK.cell]
    obtain rfl : i = 0 := by omega
    rfl) _ hd
theorem conv1d (W : World) (t : TypeId) (a : Int) (k : Nat) : (convert 73 9 (.slice (some ⟨W.heap.size, 0, none⟩) 1 k)).run Tryz.prog (W.alloc (.cells #[.int .u8 a] t)).drew =
    .ok (.string (bs [UInt8.ofNat a.toNat])) (W.alloc (.cells #[.int .u8 a] t)).drew := by
  have hs : Tryz.prog.underlying 73 = some (.slice 5) := by kernel_rfl
  have he : Tryz.prog.underlying 5 = some (.int .u8) := by kernel_rfl
  have hd : Tryz.prog.underlying 9 = some .string := by kernel_rfl
  exact run_convert_bytes_arg _ _ _ hs he W.heap.size 0 1 k [a] rfl (fun i hi => by
    have hK := (Blk.new0 W t #[.int .u8 a]).drew
    rw [hK.cell]
    obtain rfl : i = 0 := by omega
    rfl) _ hd
attribute [go_sem] conv1 conv1d
/-- how long the text in a variable is -/
def boxLen (b : Nat) (w : World) : Nat := match w.cell? ⟨b, 0, none⟩ with
  | some (.string s) => s.size
  | _ => 0
theorem boxLen_of {b : Nat} {w : World} {t : TypeId} {l : List UInt8} (h : Blk w b t #[.string (bs l)]) : boxLen b w = l.length := by
  unfold boxLen
  rw [h.cell 0]
  exact bs_size l
theorem Blk.grown {w w' : World} {g : Nat} {t : TypeId} {cs : Array Value} {row : Option Nat} (h : Blk w g t cs) (hg : w.grownBy w' row) (hn : some g ≠ row) : Blk w' g t cs := (hg.block g h.lt hn).trans h
theorem HasK.grown {w w' : World} {row : Option Nat} (h : HasK w) (hg : w.grownBy w' row) (hn : some 0 ≠ row) : HasK w' :=
  ⟨fun i hi => (World.cell?_of_block (w := w) (a := ⟨0, i, none⟩) (hg.block _ h.2 hn)).trans (h.1 i hi), Nat.lt_of_lt_of_le h.2 hg.size⟩
theorem keepsOthers_row {W W' : World} {b : Nat} {t : TypeId} {cs : Array Value} (h : Blk W b t cs) (hg : W.grownBy W' (some b)) : KeepsOthers W W' :=
  KeepsOthers.of_grownBy hg fun j o e ho => by
    cases e
    unfold Blk at h
    rw [h] at ho
    injection ho with ho
    subst ho
    rfl
theorem below_row {w W W' : World} {b : Nat} (h : Below w.heap.size w W) (hg : W.grownBy W' (some b)) (hb : w.heap.size ≤ b) : Below w.heap.size w W' := h.grown hg h.size fun k e => by injection e with e; omega

/-- a row of N bytes, the first k of L laid -/
def bcells (N : Nat) (L : List UInt8) (k : Nat) : Array Value := ((L.take k ++ List.replicate (N - k) 0).map fun c : UInt8 => Value.int .u8 (c.toNat : Int)).toArray
theorem bcells_set (N : Nat) (L : List UInt8) (k : Nat) (hk : k < N) (hL : L.length = N) (v : Int) (hv : v = ((L.getD k 0).toNat : Int)) : (bcells N L k).setIfInBounds k (.int .u8 v) = bcells N L (k + 1) := by
  subst hv
  unfold bcells
  rw [List.setIfInBounds_toArray, ← List.map_set (f := fun c : UInt8 => Value.int .u8 (c.toNat : Int)), List.set_append_right _ _ (by simp; omega)]
  congr 1
  congr 1
  rw [List.length_take, show k - min k L.length = 0 by omega, show N - k = (N - (k + 1)) + 1 by omega, List.replicate_succ, List.set_cons_zero, List.take_add_one, List.getElem?_eq_getElem (by omega), List.append_assoc]
  simp [List.getD, List.getElem?_eq_getElem (show k < L.length by omega)]
theorem bcells_at (N : Nat) (L : List UInt8) (k : Nat) (hk : k < N) (hL : L.length = N) : (bcells N L k)[k]? = some (.int .u8 0) := by
  unfold bcells
  rw [List.getElem?_toArray, List.getElem?_map, List.getElem?_append_right (by simp; omega), List.getElem?_replicate, if_pos (by simp; omega)]
  rfl
theorem bcells_all (N : Nat) (L : List UInt8) (hL : L.length = N) : bcells N L N = (L.map fun c : UInt8 => Value.int .u8 (c.toNat : Int)).toArray := by
  unfold bcells
  rw [List.take_of_length_le (by omega), Nat.sub_self]
  simp
theorem strOfNums_map (L : List UInt8) : strOfNums (L.map fun c : UInt8 => (c.toNat : Int)) = bs L := by
  unfold strOfNums bs
  rw [List.map_map]
  have e : ((fun n : Int => UInt8.ofNat n.toNat) ∘ fun c : UInt8 => (c.toNat : Int)) = id := by
    funext c
    simp
  rw [e, List.map_id]
/-- a row of bytes as a text -/
theorem conv_row (W : World) (g : Nat) (t : TypeId) (L : List UInt8) (n c : Nat) (h : Blk W g t (L.map fun c : UInt8 => Value.int .u8 (c.toNat : Int)).toArray) (hn : L.length = n) :
    (convert 73 9 (.slice (some ⟨g, 0, none⟩) n c)).run Tryz.prog W = .ok (.string (bs L)) W := by
  have hs : Tryz.prog.underlying 73 = some (.slice 5) := by kernel_rfl
  have he : Tryz.prog.underlying 5 = some (.int .u8) := by kernel_rfl
  have hd : Tryz.prog.underlying 9 = some .string := by kernel_rfl
  have := run_convert_bytes_arg (P := Tryz.prog) W _ _ hs he g 0 n c (L.map fun c : UInt8 => (c.toNat : Int)) (by simpa using hn) (fun i hi => by
    rw [h.cell]
    simp [List.getD, List.getElem?_eq_getElem (show i < L.length by omega)]) _ hd
  rw [this, strOfNums_map]
end Go.Proofs.YtpmmjomejackkaaGreatDoor
end
