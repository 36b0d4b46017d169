/- A block of bytes taken in, by the program. -/
import Derived.Test.YtpmmjomejackkaaDoorSha2
set_option linter.unusedSimpArgs false
set_option linter.unusedVariables false
namespace Go.Proofs.YtpmmjomejackkaaDoor
open BigFrame Go.RowKit Go.Phx Go.Shelf
attribute [local go_sem] Oper.semAt_some

/-! a row of eight words, read at a place -/
theorem ix8_0 (x0 x1 x2 x3 x4 x5 x6 x7 : Value) (w : World) : (Instr.index 63 (.agg #[x0, x1, x2, x3, x4, x5, x6, x7]) (.int .i64 0)).run Tryd.prog w = .ok x0 w := by
  have hd : Tryd.prog.underlying 63 = some (.array 8 62) := by kernel_rfl
  simp [go_sem, Instr.index, hd]
theorem ix8_1 (x0 x1 x2 x3 x4 x5 x6 x7 : Value) (w : World) : (Instr.index 63 (.agg #[x0, x1, x2, x3, x4, x5, x6, x7]) (.int .i64 1)).run Tryd.prog w = .ok x1 w := by
  have hd : Tryd.prog.underlying 63 = some (.array 8 62) := by kernel_rfl
  simp [go_sem, Instr.index, hd]
theorem ix8_2 (x0 x1 x2 x3 x4 x5 x6 x7 : Value) (w : World) : (Instr.index 63 (.agg #[x0, x1, x2, x3, x4, x5, x6, x7]) (.int .i64 2)).run Tryd.prog w = .ok x2 w := by
  have hd : Tryd.prog.underlying 63 = some (.array 8 62) := by kernel_rfl
  simp [go_sem, Instr.index, hd]
theorem ix8_3 (x0 x1 x2 x3 x4 x5 x6 x7 : Value) (w : World) : (Instr.index 63 (.agg #[x0, x1, x2, x3, x4, x5, x6, x7]) (.int .i64 3)).run Tryd.prog w = .ok x3 w := by
  have hd : Tryd.prog.underlying 63 = some (.array 8 62) := by kernel_rfl
  simp [go_sem, Instr.index, hd]
theorem ix8_4 (x0 x1 x2 x3 x4 x5 x6 x7 : Value) (w : World) : (Instr.index 63 (.agg #[x0, x1, x2, x3, x4, x5, x6, x7]) (.int .i64 4)).run Tryd.prog w = .ok x4 w := by
  have hd : Tryd.prog.underlying 63 = some (.array 8 62) := by kernel_rfl
  simp [go_sem, Instr.index, hd]
theorem ix8_5 (x0 x1 x2 x3 x4 x5 x6 x7 : Value) (w : World) : (Instr.index 63 (.agg #[x0, x1, x2, x3, x4, x5, x6, x7]) (.int .i64 5)).run Tryd.prog w = .ok x5 w := by
  have hd : Tryd.prog.underlying 63 = some (.array 8 62) := by kernel_rfl
  simp [go_sem, Instr.index, hd]
theorem ix8_6 (x0 x1 x2 x3 x4 x5 x6 x7 : Value) (w : World) : (Instr.index 63 (.agg #[x0, x1, x2, x3, x4, x5, x6, x7]) (.int .i64 6)).run Tryd.prog w = .ok x6 w := by
  have hd : Tryd.prog.underlying 63 = some (.array 8 62) := by kernel_rfl
  simp [go_sem, Instr.index, hd]
theorem ix8_7 (x0 x1 x2 x3 x4 x5 x6 x7 : Value) (w : World) : (Instr.index 63 (.agg #[x0, x1, x2, x3, x4, x5, x6, x7]) (.int .i64 7)).run Tryd.prog w = .ok x7 w := by
  have hd : Tryd.prog.underlying 63 = some (.array 8 62) := by kernel_rfl
  simp [go_sem, Instr.index, hd]
attribute [local go_sem] ix8_0 ix8_1 ix8_2 ix8_3 ix8_4 ix8_5 ix8_6 ix8_7
set_option maxRecDepth 100000 in
set_option maxHeartbeats 16000000 in
theorem take_calls (b : Nat) (v : St) (s : ByteArray) (hs : s.size = 64) (w : World) (hk : HasK w) (hb : Blk w b 63 (cS v)) (hne : b ≠ 0) :
    Calls Tryd.prog 61 #[.pointer (some ⟨b, 0, none⟩), .string s] w (Wrote w b 63 (cS (takeB v s.data.toList))) := by
  have hidx := index_at s
  obtain ⟨l, hl⟩ : ∃ l, s.data.toList = l := ⟨_, rfl⟩
  have hll : l.length = 64 := by rw [← hl]; simpa using hs
  rw [hl] at hidx ⊢
  clear hl
  have hx0 : ∀ k : Nat, k < 64 → ∀ w, (Instr.index 9 (.string s) (.int .i64 (k : Int))).run Tryd.prog w = .ok (.int .u8 (vw (bw (l.getD k 0)))) w := fun k hk => hidx k (by omega) (by omega)
  clear hidx hs
  have hF1 := Lib.hid (firstW_all l hll)
  replace hll := Lib.hid hll
  have KH := Lib.hid hb
  have hbl := hb.lt
  have HK := Lib.hid hk
  have hkl := hk.2
  clear hb hk
  have hTB : takeB v l = v.add (roundW v (moreW l 48) 64) := by
    rw [roundW_all _ _ (moreW_len l 48 (by decide)), moreW_all]
    rfl
  rw [hTB]
  clear hTB
  go_enter Tryd.func61, Tryd.ntmps61
  go_wp2_with fail
  go_loopw [22, 5] (fun i j wr => ∃ k : Nat, k ≤ 64 ∧ i = .int .i64 k ∧ Blk wr w.heap.size 114 (cw (firstW l k)) ∧ Below w.heap.size w wr)
    (fun i _ _ => (64 - intOf i).toNat)
  case atStart => exact ⟨0, Nat.zero_le _, rfl, Blk.to (Blk.new0 _ _ _) rfl, (by repeat (first | assumption | exact Below.refl _ _ | refine Below.setCell ?_ (by first | exact Nat.le_refl _ | (simp; done) | omega | (simp; omega)) _ | refine Below.alloc ?_ (by first | exact Nat.le_refl _ | (simp; done) | omega | (simp; omega)) _ | refine below_drewN ?_ _ | refine Below.drew ?_ | refine Below.on (by assumption) ?_ | refine Below.via (by assumption) (by first | exact Nat.le_refl _ | (simp; done) | omega | (simp; omega)) ?_))⟩
  case round =>
    obtain ⟨k, hk, rfl, K0, HB⟩ := hrel
    by_cases hlt : k < 64
    · have HX := hx0 k hlt
      have hlen := firstW_len l k
      have g0 := cw_get (L := firstW l k) (i := k / 4) (by omega)
      have v1 := vw_nonneg (bw (l.getD k 0))
      have v2 := bw_lt (l.getD k 0)
      have e1 := shl_w' ((firstW l k).getD (k / 4) 0) 8 256 rfl
      have HS := (show firstW l (k + 1) = (firstW l k).set (k / 4) ((firstW l k).getD (k / 4) 0 <<< 8 ||| bw (l.getD k 0)) from rfl)
      have hc := cw_set (firstW l k) (k / 4) ((firstW l k).getD (k / 4) 0 <<< 8 ||| bw (l.getD k 0))
      rw [← HS] at hc
      replace hc := Lib.hid hc
      clear hlen HS
      generalize (firstW l k).getD (k / 4) 0 = x at *
      generalize firstW l k = L at *
      generalize bw (l.getD k 0) = c at *
      clear hx0 hF1
      replace K0 := Lib.hid K0
      (have k0 := Blk.cell K0.out; have f0 := Blk.free K0.out; have l0 := Blk.lt K0.out; have m0 := Nat.le_of_lt l0)
      go_wp2_with fail
      (refine wp_region_later_tail 13 (by kernel_rfl) (by kernel_rfl) ?_; simp only [List.take_succ_cons, List.take_zero, List.drop_succ_cons, List.drop_zero]; (repeat (go_big_quiet_step (fail))); refine wpQuiet_nil ?_; intro w' hB)
      (have HBn : Below w.heap.size w w' := Below.on hB (by repeat (first | assumption | exact Below.refl _ _ | refine Below.setCell ?_ (by first | exact Nat.le_refl _ | (simp; done) | omega | (simp; omega)) _ | refine Below.alloc ?_ (by first | exact Nat.le_refl _ | (simp; done) | omega | (simp; omega)) _ | refine below_drewN ?_ _ | refine Below.drew ?_ | refine Below.on (by assumption) ?_ | refine Below.via (by assumption) (by first | exact Nat.le_refl _ | (simp; done) | omega | (simp; omega)) ?_)); have N0 := Lib.hid (Blk.below (g := w.heap.size) (by repeat (first | with_reducible exact K0.out | with_reducible exact Blk.new0 _ _ _ | with_reducible exact Blk.new1 _ _ _ _ | with_reducible exact Blk.new2 _ _ _ _ _ | with_reducible exact Blk.new3 _ _ _ _ _ _ | with_reducible exact Blk.new4 _ _ _ _ _ _ _ | with_reducible exact Blk.newS1 _ _ _ _ _ | with_reducible exact Blk.newS2 _ _ _ _ _ _ _ | with_reducible exact Blk.newS3 _ _ _ _ _ _ _ _ _ | with_reducible apply Blk.set_ | with_reducible apply Blk.alloc | with_reducible apply Blk.drewN | with_reducible apply Blk.drew | (with_reducible apply Blk.over2; first | assumption | omega))) hB); (try simp only [List.setIfInBounds_toArray, List.set_cons_succ, List.set_cons_zero] at N0); clear K0 k0 f0 l0 m0; (try clear HB); clear hB; have HB := HBn; clear HBn; have HZw' := HB.size; have K0 := N0; clear N0; have k0 := Blk.cell K0.out; have f0 := Blk.free K0.out; have l0 := Blk.lt K0.out; have m0 := Nat.le_of_lt l0)
      go_wp2_with fail
      go_roundw
      case rel => exact ⟨k + 1, by omega, by go_num, by rw [← hc.out]; exact K0.out.set_ _ _, (by repeat (first | assumption | exact Below.refl _ _ | refine Below.setCell ?_ (by first | exact Nat.le_refl _ | (simp; done) | omega | (simp; omega)) _ | refine Below.alloc ?_ (by first | exact Nat.le_refl _ | (simp; done) | omega | (simp; omega)) _ | refine below_drewN ?_ _ | refine Below.drew ?_ | refine Below.on (by assumption) ?_ | refine Below.via (by assumption) (by first | exact Nat.le_refl _ | (simp; done) | omega | (simp; omega)) ?_))⟩
      case measure => simp [intOf]; omega
    · obtain rfl : k = 64 := by omega
      rw [hF1.out] at K0
      simp only [show ((64 : Nat) : Int) = 64 from rfl]
      change Blk wr _ _ (cw (moreW l 0)) at K0
      clear hx0 hF1
      go_wp2_with fail
      go_loopw [6] (fun i wr2 => ∃ k : Nat, k ≤ 48 ∧ i = .int .i64 ((k : Int) + 16) ∧ Blk wr2 w.heap.size 114 (cw (moreW l k)) ∧ Below w.heap.size w wr2)
        (fun i _ => (64 - intOf i).toNat)
      case atStart => exact ⟨0, Nat.zero_le _, rfl, K0, HB⟩
      case round =>
        clear K0 HB
        obtain ⟨k, hk, rfl, K0, HB⟩ := hrel
        by_cases hlt : k < 48
        · have HN := moreW_next l k hlt
          have hlen := moreW_len l k hk
          have hc := cw_set (moreW l k) (k + 16) ((moreW l k).getD k 0 + (moreW l k).getD (k + 9) 0 + sig0 ((moreW l k).getD (k + 1) 0) + sig1 ((moreW l k).getD (k + 14) 0))
          rw [← HN] at hc
          have g0 := cw_get (L := moreW l k) (i := k) (by omega)
          have g9 := cw_get (L := moreW l k) (i := k + 9) (by omega)
          have g1 := cw_get (L := moreW l k) (i := k + 1) (by omega)
          have g14 := cw_get (L := moreW l k) (i := k + 14) (by omega)
          have g16 := cw_get (L := moreW l k) (i := k + 16) (by omega)
          clear HN hlen
          generalize (moreW l k).getD k 0 = x0 at *
          generalize (moreW l k).getD (k + 9) 0 = x9 at *
          generalize (moreW l k).getD (k + 1) 0 = x1 at *
          generalize (moreW l k).getD (k + 14) 0 = x14 at *
          generalize (moreW l k).getD (k + 16) 0 = x16 at *
          generalize moreW l k = L at *
          have g9' := g9
          rw [show k + 9 = k + 16 - 7 from rfl] at g9'
          have g1' := g1
          rw [show k + 1 = k + 16 - 15 from rfl] at g1'
          have g14' := g14
          rw [show k + 14 = k + 16 - 2 from rfl] at g14'
          replace hc := Lib.hid hc
          have e1 := shr_w x1 3 8 rfl
          have e2 := shr_w x14 10 1024 rfl
          replace K0 := Lib.hid K0
          (have k0 := Blk.cell K0.out; have f0 := Blk.free K0.out; have l0 := Blk.lt K0.out; have m0 := Nat.le_of_lt l0)
          go_wp2_with fail
          (refine wp_region_later (by kernel_rfl) (by kernel_rfl) ?_; (repeat (go_big_quiet_step (fail))); refine wpQuiet_nil ?_; intro w' hB)
          (have HBn : Below w.heap.size w w' := Below.on hB (by repeat (first | assumption | exact Below.refl _ _ | refine Below.setCell ?_ (by first | exact Nat.le_refl _ | (simp; done) | omega | (simp; omega)) _ | refine Below.alloc ?_ (by first | exact Nat.le_refl _ | (simp; done) | omega | (simp; omega)) _ | refine below_drewN ?_ _ | refine Below.drew ?_ | refine Below.on (by assumption) ?_ | refine Below.via (by assumption) (by first | exact Nat.le_refl _ | (simp; done) | omega | (simp; omega)) ?_)); have N0 := Lib.hid (Blk.below (g := w.heap.size) (by repeat (first | with_reducible exact K0.out | with_reducible exact Blk.new0 _ _ _ | with_reducible exact Blk.new1 _ _ _ _ | with_reducible exact Blk.new2 _ _ _ _ _ | with_reducible exact Blk.new3 _ _ _ _ _ _ | with_reducible exact Blk.new4 _ _ _ _ _ _ _ | with_reducible exact Blk.newS1 _ _ _ _ _ | with_reducible exact Blk.newS2 _ _ _ _ _ _ _ | with_reducible exact Blk.newS3 _ _ _ _ _ _ _ _ _ | with_reducible apply Blk.set_ | with_reducible apply Blk.alloc | with_reducible apply Blk.drewN | with_reducible apply Blk.drew | (with_reducible apply Blk.over2; first | assumption | omega))) hB); (try simp only [List.setIfInBounds_toArray, List.set_cons_succ, List.set_cons_zero] at N0); clear K0 k0 f0 l0 m0; (try clear HB); clear hB; have HB := HBn; clear HBn; have HZw' := HB.size; have K0 := N0; clear N0; have k0 := Blk.cell K0.out; have f0 := Blk.free K0.out; have l0 := Blk.lt K0.out; have m0 := Nat.le_of_lt l0)
          go_wp2_with fail
          (refine wp_region_later_tail 29 (by kernel_rfl) (by kernel_rfl) ?_; simp only [List.take_succ_cons, List.take_zero, List.drop_succ_cons, List.drop_zero]; (repeat (go_big_quiet_step ((go_at_call 100; with_reducible exact lw (turn_of _ _ (by decide) _))))); refine wpQuiet_nil ?_; intro w' hB)
          (have HBn : Below w.heap.size w w' := Below.on hB (by repeat (first | assumption | exact Below.refl _ _ | refine Below.setCell ?_ (by first | exact Nat.le_refl _ | (simp; done) | omega | (simp; omega)) _ | refine Below.alloc ?_ (by first | exact Nat.le_refl _ | (simp; done) | omega | (simp; omega)) _ | refine below_drewN ?_ _ | refine Below.drew ?_ | refine Below.on (by assumption) ?_ | refine Below.via (by assumption) (by first | exact Nat.le_refl _ | (simp; done) | omega | (simp; omega)) ?_)); have N0 := Lib.hid (Blk.below (g := w.heap.size) (by repeat (first | with_reducible exact K0.out | with_reducible exact Blk.new0 _ _ _ | with_reducible exact Blk.new1 _ _ _ _ | with_reducible exact Blk.new2 _ _ _ _ _ | with_reducible exact Blk.new3 _ _ _ _ _ _ | with_reducible exact Blk.new4 _ _ _ _ _ _ _ | with_reducible exact Blk.newS1 _ _ _ _ _ | with_reducible exact Blk.newS2 _ _ _ _ _ _ _ | with_reducible exact Blk.newS3 _ _ _ _ _ _ _ _ _ | with_reducible apply Blk.set_ | with_reducible apply Blk.alloc | with_reducible apply Blk.drewN | with_reducible apply Blk.drew | (with_reducible apply Blk.over2; first | assumption | omega))) hB); (try simp only [List.setIfInBounds_toArray, List.set_cons_succ, List.set_cons_zero] at N0); clear K0 k0 f0 l0 m0; (try clear HB); clear hB; have HB := HBn; clear HBn; have HZw' := HB.size; have K0 := N0; clear N0; have k0 := Blk.cell K0.out; have f0 := Blk.free K0.out; have l0 := Blk.lt K0.out; have m0 := Nat.le_of_lt l0)
          go_wp2_with fail
          go_roundw
          case rel => exact ⟨k + 1, by omega, by congr 1 <;> omega, by rw [← hc.out]; exact K0.out.set_ _ _, (by repeat (first | assumption | exact Below.refl _ _ | refine Below.setCell ?_ (by first | exact Nat.le_refl _ | (simp; done) | omega | (simp; omega)) _ | refine Below.alloc ?_ (by first | exact Nat.le_refl _ | (simp; done) | omega | (simp; omega)) _ | refine below_drewN ?_ _ | refine Below.drew ?_ | refine Below.on (by assumption) ?_ | refine Below.via (by assumption) (by first | exact Nat.le_refl _ | (simp; done) | omega | (simp; omega)) ?_))⟩
          case measure => simp [intOf]; omega
        · obtain rfl : k = 48 := by omega
          simp only [show ((48 : Nat) : Int) + 16 = 64 from rfl]
          have hlen := moreW_len l 48 (by decide)
          have HR := fun k hk => roundW_succ v (moreW l 48) hlen k hk
          have hg := fun (i : Nat) (hi : i < 64) => cw_get (L := moreW l 48) (i := i) (by omega)
          generalize moreW l 48 = L at *
          clear hlen
          have K1 := KH.out.on HB hbl
          unfold cS at K1
          replace K1 := Lib.hid K1
          have HK1 := HK.out.from HB hkl
          replace K0 := Lib.hid K0
          (have k0 := Blk.cell K0.out; have f0 := Blk.free K0.out; have l0 := Blk.lt K0.out; have m0 := Nat.le_of_lt l0; have k1 := Blk.cell K1.out; have f1 := Blk.free K1.out; have l1 := Blk.lt K1.out; have m1 := Nat.le_of_lt l1)
          go_wp2_with fail
          (refine wp_region_later (by kernel_rfl) (by kernel_rfl) ?_; (repeat (go_big_quiet_step (fail))); refine wpQuiet_nil ?_; intro w' hB)
          have HK2 := Lib.hid (HK1.on hB)
          clear HK1
          (have HBn : Below w.heap.size w w' := Below.on hB (by repeat (first | assumption | exact Below.refl _ _ | refine Below.setCell ?_ (by first | exact Nat.le_refl _ | (simp; done) | omega | (simp; omega)) _ | refine Below.alloc ?_ (by first | exact Nat.le_refl _ | (simp; done) | omega | (simp; omega)) _ | refine below_drewN ?_ _ | refine Below.drew ?_ | refine Below.on (by assumption) ?_ | refine Below.via (by assumption) (by first | exact Nat.le_refl _ | (simp; done) | omega | (simp; omega)) ?_)); have N0 := Lib.hid (Blk.below (g := w.heap.size) (by repeat (first | with_reducible exact K0.out | with_reducible exact Blk.new0 _ _ _ | with_reducible exact Blk.new1 _ _ _ _ | with_reducible exact Blk.new2 _ _ _ _ _ | with_reducible exact Blk.new3 _ _ _ _ _ _ | with_reducible exact Blk.new4 _ _ _ _ _ _ _ | with_reducible exact Blk.newS1 _ _ _ _ _ | with_reducible exact Blk.newS2 _ _ _ _ _ _ _ | with_reducible exact Blk.newS3 _ _ _ _ _ _ _ _ _ | with_reducible apply Blk.set_ | with_reducible apply Blk.alloc | with_reducible apply Blk.drewN | with_reducible apply Blk.drew | (with_reducible apply Blk.over2; first | assumption | omega))) hB); (try simp only [List.setIfInBounds_toArray, List.set_cons_succ, List.set_cons_zero] at N0); have N1 := Lib.hid (Blk.below (g := b) (by repeat (first | with_reducible exact K1.out | with_reducible exact Blk.new0 _ _ _ | with_reducible exact Blk.new1 _ _ _ _ | with_reducible exact Blk.new2 _ _ _ _ _ | with_reducible exact Blk.new3 _ _ _ _ _ _ | with_reducible exact Blk.new4 _ _ _ _ _ _ _ | with_reducible exact Blk.newS1 _ _ _ _ _ | with_reducible exact Blk.newS2 _ _ _ _ _ _ _ | with_reducible exact Blk.newS3 _ _ _ _ _ _ _ _ _ | with_reducible apply Blk.set_ | with_reducible apply Blk.alloc | with_reducible apply Blk.drewN | with_reducible apply Blk.drew | (with_reducible apply Blk.over2; first | assumption | omega))) hB); (try simp only [List.setIfInBounds_toArray, List.set_cons_succ, List.set_cons_zero] at N1); clear K0 k0 f0 l0 m0 K1 k1 f1 l1 m1; (try clear HB); clear hB; have HB := HBn; clear HBn; have HZw' := HB.size; have K0 := N0; clear N0; have k0 := Blk.cell K0.out; have f0 := Blk.free K0.out; have l0 := Blk.lt K0.out; have m0 := Nat.le_of_lt l0; have K1 := N1; clear N1; have k1 := Blk.cell K1.out; have f1 := Blk.free K1.out; have l1 := Blk.lt K1.out; have m1 := Nat.le_of_lt l1)
          go_wp2_with fail
          go_loopw [9, 10, 11, 12, 13, 14, 15, 16, 112] (fun a1 b1 c1 d1 e1 f1 g1 h1 i wr3 => ∃ (k : Nat) (u : St), k ≤ 64 ∧ u = roundW v L k ∧ i = .int .i64 k ∧ a1 = .int .u32 (vw u.a) ∧ b1 = .int .u32 (vw u.b) ∧ c1 = .int .u32 (vw u.c) ∧ d1 = .int .u32 (vw u.d) ∧ e1 = .int .u32 (vw u.e) ∧ f1 = .int .u32 (vw u.f) ∧ g1 = .int .u32 (vw u.g) ∧ h1 = .int .u32 (vw u.h) ∧
              Blk wr3 w.heap.size 114 (cw L) ∧ Below w.heap.size w wr3)
            (fun _ _ _ _ _ _ _ _ i _ => (64 - intOf i).toNat)
          case atStart => exact ⟨0, v, Nat.zero_le _, rfl, rfl, rfl, rfl, rfl, rfl, rfl, rfl, rfl, rfl, K0.out, HB⟩
          case round =>
            clear K0 K1 k0 f0 l0 m0 k1 f1 l1 m1 HB HZw' HK2
            obtain ⟨k, u, hk, hu, rfl, rfl, rfl, rfl, rfl, rfl, rfl, rfl, rfl, K0, HB⟩ := hrel
            by_cases hlt : k < 64
            · have HS := HR k hlt
              rw [← hu] at HS
              have hgk := hg k hlt
              have HK1 := HK.out.from HB hkl
              have hkk := HK1.1 k hlt
              have hk0 := HK1.2
              clear HR hg HK1 hu
              generalize L.getD k 0 = y at *
              generalize kTab.getD k 0 = kk at *
              replace HS := Lib.hid HS
              replace K0 := Lib.hid K0
              (have k0 := Blk.cell K0.out; have f0 := Blk.free K0.out; have l0 := Blk.lt K0.out; have m0 := Nat.le_of_lt l0)
              go_wp2_with fail
              (refine wp_region_later (by kernel_rfl) (by kernel_rfl) ?_; (repeat (go_big_quiet_step ((go_at_call 100; with_reducible exact lw (turn_of _ _ (by decide) _))))); refine wpQuiet_nil ?_; intro w' hB)
              (have HBn : Below w.heap.size w w' := Below.on hB (by repeat (first | assumption | exact Below.refl _ _ | refine Below.setCell ?_ (by first | exact Nat.le_refl _ | (simp; done) | omega | (simp; omega)) _ | refine Below.alloc ?_ (by first | exact Nat.le_refl _ | (simp; done) | omega | (simp; omega)) _ | refine below_drewN ?_ _ | refine Below.drew ?_ | refine Below.on (by assumption) ?_ | refine Below.via (by assumption) (by first | exact Nat.le_refl _ | (simp; done) | omega | (simp; omega)) ?_)); have N0 := Lib.hid (Blk.below (g := w.heap.size) (by repeat (first | with_reducible exact K0.out | with_reducible exact Blk.new0 _ _ _ | with_reducible exact Blk.new1 _ _ _ _ | with_reducible exact Blk.new2 _ _ _ _ _ | with_reducible exact Blk.new3 _ _ _ _ _ _ | with_reducible exact Blk.new4 _ _ _ _ _ _ _ | with_reducible exact Blk.newS1 _ _ _ _ _ | with_reducible exact Blk.newS2 _ _ _ _ _ _ _ | with_reducible exact Blk.newS3 _ _ _ _ _ _ _ _ _ | with_reducible apply Blk.set_ | with_reducible apply Blk.alloc | with_reducible apply Blk.drewN | with_reducible apply Blk.drew | (with_reducible apply Blk.over2; first | assumption | omega))) hB); (try simp only [List.setIfInBounds_toArray, List.set_cons_succ, List.set_cons_zero] at N0); clear K0 k0 f0 l0 m0; (try clear HB); clear hB; have HB := HBn; clear HBn; have HZw' := HB.size; have K0 := N0; clear N0; have k0 := Blk.cell K0.out; have f0 := Blk.free K0.out; have l0 := Blk.lt K0.out; have m0 := Nat.le_of_lt l0)
              go_wp2_with fail
              refine (turn_of _ _ (by decide) _).mono ?_
              rintro e w' ⟨rfl, rfl⟩
              go_wp2_with fail
              refine (turn_of _ _ (by decide) _).mono ?_
              rintro e w' ⟨rfl, rfl⟩
              go_wp2_with fail
              refine (turn_of _ _ (by decide) _).mono ?_
              rintro e w' ⟨rfl, rfl⟩
              go_wp2_with fail
              go_roundw
              case rel => exact ⟨k + 1, rnd u kk y, by omega, HS.out.symm, by congr 1 <;> omega, rfl, rfl, rfl, rfl, rfl, rfl, rfl, rfl, K0.out, HB⟩
              case measure => simp [intOf]; omega
            · obtain rfl : k = 64 := by omega
              have HU := Lib.hid hu
              clear hu HR hg
              have K1 := KH.out.on HB hbl
              have G := grown_of (b := b) HB
              clear KH HK K0 HB
              unfold cS at K1
              replace K1 := Lib.hid K1
              go_wp2_with fail
              refine wp_loop_rounds 9 ?_
              rw [rounds_succ]
              (have k1 := Blk.cell K1.out; have f1 := Blk.free K1.out; have l1 := Blk.lt K1.out; have m1 := Nat.le_of_lt l1)
              go_wp2_with fail
              (refine wp_region_later_tail 9 (by kernel_rfl) (by kernel_rfl) ?_; simp only [List.take_succ_cons, List.take_zero, List.drop_succ_cons, List.drop_zero]; (repeat (go_big_quiet_step (fail))); refine wpQuiet_nil ?_; intro w' hB)
              clear k1 f1 l1 m1
              replace K1 := Lib.hid (K1.out.below hB)
              replace G := grown_on G hB
              clear hB
              (have k1 := Blk.cell K1.out; have f1 := Blk.free K1.out; have l1 := Blk.lt K1.out; have m1 := Nat.le_of_lt l1)
              go_wp2_with fail
              clear k1 f1 l1 m1
              replace K1 := Lib.hid (K1.out.set_ 0 (.int .u32 (vw (v.a + u.a))))
              replace G := grown_set (i := 0) (u := .int .u32 (vw (v.a + u.a))) G
              simp only [List.setIfInBounds_toArray, List.set_cons_succ, List.set_cons_zero] at K1
              generalize w'.setCell ⟨b, 0, none⟩ (.int .u32 (vw (v.a + u.a))) = v0 at K1 G ⊢
              rw [rounds_succ]
              (have k1 := Blk.cell K1.out; have f1 := Blk.free K1.out; have l1 := Blk.lt K1.out; have m1 := Nat.le_of_lt l1)
              go_wp2_with fail
              (refine wp_region_later_tail 9 (by kernel_rfl) (by kernel_rfl) ?_; simp only [List.take_succ_cons, List.take_zero, List.drop_succ_cons, List.drop_zero]; (repeat (go_big_quiet_step (fail))); refine wpQuiet_nil ?_; intro w' hB)
              clear k1 f1 l1 m1
              replace K1 := Lib.hid (K1.out.below hB)
              replace G := grown_on G hB
              clear hB
              (have k1 := Blk.cell K1.out; have f1 := Blk.free K1.out; have l1 := Blk.lt K1.out; have m1 := Nat.le_of_lt l1)
              go_wp2_with fail
              clear k1 f1 l1 m1
              replace K1 := Lib.hid (K1.out.set_ 1 (.int .u32 (vw (v.b + u.b))))
              replace G := grown_set (i := 1) (u := .int .u32 (vw (v.b + u.b))) G
              simp only [List.setIfInBounds_toArray, List.set_cons_succ, List.set_cons_zero] at K1
              generalize w'.setCell ⟨b, 1, none⟩ (.int .u32 (vw (v.b + u.b))) = v1 at K1 G ⊢
              rw [rounds_succ]
              (have k1 := Blk.cell K1.out; have f1 := Blk.free K1.out; have l1 := Blk.lt K1.out; have m1 := Nat.le_of_lt l1)
              go_wp2_with fail
              (refine wp_region_later_tail 9 (by kernel_rfl) (by kernel_rfl) ?_; simp only [List.take_succ_cons, List.take_zero, List.drop_succ_cons, List.drop_zero]; (repeat (go_big_quiet_step (fail))); refine wpQuiet_nil ?_; intro w' hB)
              clear k1 f1 l1 m1
              replace K1 := Lib.hid (K1.out.below hB)
              replace G := grown_on G hB
              clear hB
              (have k1 := Blk.cell K1.out; have f1 := Blk.free K1.out; have l1 := Blk.lt K1.out; have m1 := Nat.le_of_lt l1)
              go_wp2_with fail
              clear k1 f1 l1 m1
              replace K1 := Lib.hid (K1.out.set_ 2 (.int .u32 (vw (v.c + u.c))))
              replace G := grown_set (i := 2) (u := .int .u32 (vw (v.c + u.c))) G
              simp only [List.setIfInBounds_toArray, List.set_cons_succ, List.set_cons_zero] at K1
              generalize w'.setCell ⟨b, 2, none⟩ (.int .u32 (vw (v.c + u.c))) = v2 at K1 G ⊢
              rw [rounds_succ]
              (have k1 := Blk.cell K1.out; have f1 := Blk.free K1.out; have l1 := Blk.lt K1.out; have m1 := Nat.le_of_lt l1)
              go_wp2_with fail
              (refine wp_region_later_tail 9 (by kernel_rfl) (by kernel_rfl) ?_; simp only [List.take_succ_cons, List.take_zero, List.drop_succ_cons, List.drop_zero]; (repeat (go_big_quiet_step (fail))); refine wpQuiet_nil ?_; intro w' hB)
              clear k1 f1 l1 m1
              replace K1 := Lib.hid (K1.out.below hB)
              replace G := grown_on G hB
              clear hB
              (have k1 := Blk.cell K1.out; have f1 := Blk.free K1.out; have l1 := Blk.lt K1.out; have m1 := Nat.le_of_lt l1)
              go_wp2_with fail
              clear k1 f1 l1 m1
              replace K1 := Lib.hid (K1.out.set_ 3 (.int .u32 (vw (v.d + u.d))))
              replace G := grown_set (i := 3) (u := .int .u32 (vw (v.d + u.d))) G
              simp only [List.setIfInBounds_toArray, List.set_cons_succ, List.set_cons_zero] at K1
              generalize w'.setCell ⟨b, 3, none⟩ (.int .u32 (vw (v.d + u.d))) = v3 at K1 G ⊢
              rw [rounds_succ]
              (have k1 := Blk.cell K1.out; have f1 := Blk.free K1.out; have l1 := Blk.lt K1.out; have m1 := Nat.le_of_lt l1)
              go_wp2_with fail
              (refine wp_region_later_tail 9 (by kernel_rfl) (by kernel_rfl) ?_; simp only [List.take_succ_cons, List.take_zero, List.drop_succ_cons, List.drop_zero]; (repeat (go_big_quiet_step (fail))); refine wpQuiet_nil ?_; intro w' hB)
              clear k1 f1 l1 m1
              replace K1 := Lib.hid (K1.out.below hB)
              replace G := grown_on G hB
              clear hB
              (have k1 := Blk.cell K1.out; have f1 := Blk.free K1.out; have l1 := Blk.lt K1.out; have m1 := Nat.le_of_lt l1)
              go_wp2_with fail
              clear k1 f1 l1 m1
              replace K1 := Lib.hid (K1.out.set_ 4 (.int .u32 (vw (v.e + u.e))))
              replace G := grown_set (i := 4) (u := .int .u32 (vw (v.e + u.e))) G
              simp only [List.setIfInBounds_toArray, List.set_cons_succ, List.set_cons_zero] at K1
              generalize w'.setCell ⟨b, 4, none⟩ (.int .u32 (vw (v.e + u.e))) = v4 at K1 G ⊢
              rw [rounds_succ]
              (have k1 := Blk.cell K1.out; have f1 := Blk.free K1.out; have l1 := Blk.lt K1.out; have m1 := Nat.le_of_lt l1)
              go_wp2_with fail
              (refine wp_region_later_tail 9 (by kernel_rfl) (by kernel_rfl) ?_; simp only [List.take_succ_cons, List.take_zero, List.drop_succ_cons, List.drop_zero]; (repeat (go_big_quiet_step (fail))); refine wpQuiet_nil ?_; intro w' hB)
              clear k1 f1 l1 m1
              replace K1 := Lib.hid (K1.out.below hB)
              replace G := grown_on G hB
              clear hB
              (have k1 := Blk.cell K1.out; have f1 := Blk.free K1.out; have l1 := Blk.lt K1.out; have m1 := Nat.le_of_lt l1)
              go_wp2_with fail
              clear k1 f1 l1 m1
              replace K1 := Lib.hid (K1.out.set_ 5 (.int .u32 (vw (v.f + u.f))))
              replace G := grown_set (i := 5) (u := .int .u32 (vw (v.f + u.f))) G
              simp only [List.setIfInBounds_toArray, List.set_cons_succ, List.set_cons_zero] at K1
              generalize w'.setCell ⟨b, 5, none⟩ (.int .u32 (vw (v.f + u.f))) = v5 at K1 G ⊢
              rw [rounds_succ]
              (have k1 := Blk.cell K1.out; have f1 := Blk.free K1.out; have l1 := Blk.lt K1.out; have m1 := Nat.le_of_lt l1)
              go_wp2_with fail
              (refine wp_region_later_tail 9 (by kernel_rfl) (by kernel_rfl) ?_; simp only [List.take_succ_cons, List.take_zero, List.drop_succ_cons, List.drop_zero]; (repeat (go_big_quiet_step (fail))); refine wpQuiet_nil ?_; intro w' hB)
              clear k1 f1 l1 m1
              replace K1 := Lib.hid (K1.out.below hB)
              replace G := grown_on G hB
              clear hB
              (have k1 := Blk.cell K1.out; have f1 := Blk.free K1.out; have l1 := Blk.lt K1.out; have m1 := Nat.le_of_lt l1)
              go_wp2_with fail
              clear k1 f1 l1 m1
              replace K1 := Lib.hid (K1.out.set_ 6 (.int .u32 (vw (v.g + u.g))))
              replace G := grown_set (i := 6) (u := .int .u32 (vw (v.g + u.g))) G
              simp only [List.setIfInBounds_toArray, List.set_cons_succ, List.set_cons_zero] at K1
              generalize w'.setCell ⟨b, 6, none⟩ (.int .u32 (vw (v.g + u.g))) = v6 at K1 G ⊢
              rw [rounds_succ]
              (have k1 := Blk.cell K1.out; have f1 := Blk.free K1.out; have l1 := Blk.lt K1.out; have m1 := Nat.le_of_lt l1)
              go_wp2_with fail
              (refine wp_region_later_tail 9 (by kernel_rfl) (by kernel_rfl) ?_; simp only [List.take_succ_cons, List.take_zero, List.drop_succ_cons, List.drop_zero]; (repeat (go_big_quiet_step (fail))); refine wpQuiet_nil ?_; intro w' hB)
              clear k1 f1 l1 m1
              replace K1 := Lib.hid (K1.out.below hB)
              replace G := grown_on G hB
              clear hB
              (have k1 := Blk.cell K1.out; have f1 := Blk.free K1.out; have l1 := Blk.lt K1.out; have m1 := Nat.le_of_lt l1)
              go_wp2_with fail
              clear k1 f1 l1 m1
              replace K1 := Lib.hid (K1.out.set_ 7 (.int .u32 (vw (v.h + u.h))))
              replace G := grown_set (i := 7) (u := .int .u32 (vw (v.h + u.h))) G
              simp only [List.setIfInBounds_toArray, List.set_cons_succ, List.set_cons_zero] at K1
              generalize w'.setCell ⟨b, 7, none⟩ (.int .u32 (vw (v.h + u.h))) = v7 at K1 G ⊢
              rw [rounds_succ]
              go_wp2_with fail
              refine bodyPost_end (results_none rfl _ _ _) rfl ?_

              exact ⟨rfl, G, by rw [← HU.out]; exact K1.out⟩
end Go.Proofs.YtpmmjomejackkaaDoor
