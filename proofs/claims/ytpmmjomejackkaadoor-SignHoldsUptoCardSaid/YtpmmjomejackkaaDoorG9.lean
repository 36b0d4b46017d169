/- What the later texts stand on (Crv15): plain laws and walks, each by its own conditions. -/
import Derived.Test.YtpmmjomejackkaaDoorG8
set_option linter.unusedSimpArgs false
set_option linter.unusedVariables false
section
set_option linter.unusedSimpArgs false
set_option linter.unusedVariables false
namespace Go.Proofs.YtpmmjomejackkaaDoor
open BigFrame Go.RowKit Go.Phx Go.Shelf
attribute [local go_sem] Oper.semAt_some fldInf

/-- a text of five bytes, as the walk meets it -/
def Five (s : ByteArray) (t a b c d : Int) : Prop := ((s.size : Int) != 5) = false ∧
  (∀ w, (Instr.index 9 (.string s) (.int .i64 0)).run Tryd.prog w = .ok (.int .u8 t) w) ∧ (∀ w, (Instr.index 9 (.string s) (.int .i64 1)).run Tryd.prog w = .ok (.int .u8 a) w) ∧
  (∀ w, (Instr.index 9 (.string s) (.int .i64 2)).run Tryd.prog w = .ok (.int .u8 b) w) ∧ (∀ w, (Instr.index 9 (.string s) (.int .i64 3)).run Tryd.prog w = .ok (.int .u8 c) w) ∧
  (∀ w, (Instr.index 9 (.string s) (.int .i64 4)).run Tryd.prog w = .ok (.int .u8 d) w)
theorem five_of (t a b c d : UInt8) : Five ⟨#[t, a, b, c, d]⟩ t.toNat a.toNat b.toNat c.toNat d.toNat :=
  ⟨rfl, fun _ => by kernel_rfl, fun _ => by kernel_rfl, fun _ => by kernel_rfl, fun _ => by kernel_rfl, fun _ => by kernel_rfl⟩

/-- the number of four bytes -/
def word4 (a b c d : Int) : Int := a * 16777216 + b * 65536 + c * 256 + d
theorem or_low (x b : Int) (h0 : 0 ≤ x) (h1 : x < 16777216) (h2 : 0 ≤ b) (h3 : b < 256) : bits .or .u64 (IntKind.u64.wrap (x * 256)) b = x * 256 + b := by
  have e : IntKind.u64.wrap (x * 256) = x * 256 := by
    simp [IntKind.wrap, IntKind.bits, IntKind.signed]
    omega
  rw [e, u64_or (x * 256) b (by omega) (by omega) h2 (by omega)]
  rw [nat_join 8 (x * 256).toNat b.toNat (by omega) (by show b.toNat < 256; omega)]
  omega
theorem or_zero (b : Int) (h2 : 0 ≤ b) (h3 : b < 256) : bits .or .u64 0 b = b := by
  rw [u64_or 0 b (by decide) (by decide) h2 (by omega)]
  simp
  omega
theorem word4_up (a b c d : Int) (ha : 0 ≤ a ∧ a < 256) (hb : 0 ≤ b ∧ b < 256) (hc : 0 ≤ c ∧ c < 256) (hd : 0 ≤ d ∧ d < 256) :
    bits .or .u64 (IntKind.u64.wrap (bits .or .u64 (IntKind.u64.wrap (bits .or .u64 (IntKind.u64.wrap (bits .or .u64 0 a * 256)) b * 256)) c * 256)) d = word4 a b c d := by
  rw [or_zero a ha.1 ha.2, or_low a b ha.1 (by omega) hb.1 hb.2, or_low _ c (by omega) (by omega) hc.1 hc.2, or_low _ d (by omega) (by omega) hd.1 hd.2]
  unfold word4
  omega
theorem word4_bd (a b c d : Int) (ha : 0 ≤ a ∧ a < 256) (hb : 0 ≤ b ∧ b < 256) (hc : 0 ≤ c ∧ c < 256) (hd : 0 ≤ d ∧ d < 256) : 0 ≤ word4 a b c d ∧ word4 a b c d < 4294967296 := by
  unfold word4
  omega

set_option maxRecDepth 100000 in
set_option maxHeartbeats 2000000 in
theorem from_len (s : ByteArray) (hl : ((s.size : Int) != 5) = true) (w : World) :
    Calls Tryd.prog 88 #[.string s] w (Ret w (.tuple #[.agg #[.int .u64 0, .int .u64 0, .bool false], .int .i64 100])) := by
  go_enter Tryd.func88, Tryd.ntmps88
  go_wp2_with fail
  have HB : Below w.heap.size w (w.alloc (.cells #[.int .u64 0, .int .u64 0, .bool false] 52)) := (by repeat (first | assumption | exact Below.refl _ _ | refine Below.setCell ?_ (by first | exact Nat.le_refl _ | (simp; done) | omega | (simp; omega)) _ | refine Below.alloc ?_ (by first | exact Nat.le_refl _ | (simp; done) | omega | (simp; omega)) _ | refine below_drewN ?_ _ | refine Below.drew ?_ | refine Below.on (by assumption) ?_ | refine Below.via (by assumption) (by first | exact Nat.le_refl _ | (simp; done) | omega | (simp; omega)) ?_))
  exact bodyPost_ret (v := .tuple #[.agg #[.int .u64 0, .int .u64 0, .bool false], .int .i64 100]) (by simp (maxDischargeDepth := 9) [results, Tryd.results88, go_sem, vp, v2, *]) rfl ⟨rfl, (by repeat (first | assumption | exact Below.refl _ _ | refine Below.setCell ?_ (by first | exact Nat.le_refl _ | (simp; done) | omega | (simp; omega)) _ | refine Below.alloc ?_ (by first | exact Nat.le_refl _ | (simp; done) | omega | (simp; omega)) _ | refine below_drewN ?_ _ | refine Below.drew ?_ | refine Below.on (by assumption) ?_ | refine Below.via (by assumption) (by first | exact Nat.le_refl _ | (simp; done) | omega | (simp; omega)) ?_))⟩
set_option maxRecDepth 100000 in
set_option maxHeartbeats 2000000 in
theorem from_t1 (s : ByteArray) (hl : ((s.size : Int) != 5) = false) (i0 : ∀ w, (Instr.index 9 (.string s) (.int .i64 0)).run Tryd.prog w = .ok (.int .u8 1) w) (w : World) :
    Calls Tryd.prog 88 #[.string s] w (Ret w (.tuple #[.agg #[.int .u64 0, .int .u64 0, .bool false], .int .i64 100])) := by
  go_enter Tryd.func88, Tryd.ntmps88
  go_wp2_with fail
  have HB : Below w.heap.size w (w.alloc (.cells #[.int .u64 0, .int .u64 0, .bool false] 52)) := (by repeat (first | assumption | exact Below.refl _ _ | refine Below.setCell ?_ (by first | exact Nat.le_refl _ | (simp; done) | omega | (simp; omega)) _ | refine Below.alloc ?_ (by first | exact Nat.le_refl _ | (simp; done) | omega | (simp; omega)) _ | refine below_drewN ?_ _ | refine Below.drew ?_ | refine Below.on (by assumption) ?_ | refine Below.via (by assumption) (by first | exact Nat.le_refl _ | (simp; done) | omega | (simp; omega)) ?_))
  exact bodyPost_ret (v := .tuple #[.agg #[.int .u64 0, .int .u64 0, .bool false], .int .i64 100]) (by simp (maxDischargeDepth := 9) [results, Tryd.results88, go_sem, vp, v2, *]) rfl ⟨rfl, (by repeat (first | assumption | exact Below.refl _ _ | refine Below.setCell ?_ (by first | exact Nat.le_refl _ | (simp; done) | omega | (simp; omega)) _ | refine Below.alloc ?_ (by first | exact Nat.le_refl _ | (simp; done) | omega | (simp; omega)) _ | refine below_drewN ?_ _ | refine Below.drew ?_ | refine Below.on (by assumption) ?_ | refine Below.via (by assumption) (by first | exact Nat.le_refl _ | (simp; done) | omega | (simp; omega)) ?_))⟩
set_option maxRecDepth 100000 in
set_option maxHeartbeats 2000000 in
theorem from_gt (s : ByteArray) (t : Int) (hl : ((s.size : Int) != 5) = false) (i0 : ∀ w, (Instr.index 9 (.string s) (.int .i64 0)).run Tryd.prog w = .ok (.int .u8 t) w) (h1 : (t == 1) = false) (h3 : decide (3 < t) = true) (w : World) :
    Calls Tryd.prog 88 #[.string s] w (Ret w (.tuple #[.agg #[.int .u64 0, .int .u64 0, .bool false], .int .i64 100])) := by
  go_enter Tryd.func88, Tryd.ntmps88
  go_wp2_with fail
  have HB : Below w.heap.size w (w.alloc (.cells #[.int .u64 0, .int .u64 0, .bool false] 52)) := (by repeat (first | assumption | exact Below.refl _ _ | refine Below.setCell ?_ (by first | exact Nat.le_refl _ | (simp; done) | omega | (simp; omega)) _ | refine Below.alloc ?_ (by first | exact Nat.le_refl _ | (simp; done) | omega | (simp; omega)) _ | refine below_drewN ?_ _ | refine Below.drew ?_ | refine Below.on (by assumption) ?_ | refine Below.via (by assumption) (by first | exact Nat.le_refl _ | (simp; done) | omega | (simp; omega)) ?_))
  exact bodyPost_ret (v := .tuple #[.agg #[.int .u64 0, .int .u64 0, .bool false], .int .i64 100]) (by simp (maxDischargeDepth := 9) [results, Tryd.results88, go_sem, vp, v2, *]) rfl ⟨rfl, (by repeat (first | assumption | exact Below.refl _ _ | refine Below.setCell ?_ (by first | exact Nat.le_refl _ | (simp; done) | omega | (simp; omega)) _ | refine Below.alloc ?_ (by first | exact Nat.le_refl _ | (simp; done) | omega | (simp; omega)) _ | refine below_drewN ?_ _ | refine Below.drew ?_ | refine Below.on (by assumption) ?_ | refine Below.via (by assumption) (by first | exact Nat.le_refl _ | (simp; done) | omega | (simp; omega)) ?_))⟩
set_option maxRecDepth 100000 in
set_option maxHeartbeats 2000000 in
theorem from_0 (s : ByteArray) (a b c d : Int) (h : Five s 0 a b c d) (ha : 0 ≤ a ∧ a < 256) (hb : 0 ≤ b ∧ b < 256) (hc : 0 ≤ c ∧ c < 256) (hd : 0 ≤ d ∧ d < 256) (h0 : (word4 a b c d == 0) = true) (w : World) :
    Calls Tryd.prog 88 #[.string s] w (Ret w (.tuple #[vp none, .int .i64 0])) := by
  have n1 := none_x
  have hX' := word4_up a b c d ha hb hc hd
  rw [beq_iff_eq.1 h0] at hX'
  clear h0
  obtain ⟨hl, i0, i1, i2, i3, i4⟩ := h
  obtain ⟨a1, a2⟩ := ha
  obtain ⟨b1, b2⟩ := hb
  obtain ⟨c1, c2⟩ := hc
  obtain ⟨d1, d2⟩ := hd
  go_enter Tryd.func88, Tryd.ntmps88
  go_wp2_with fail
  refine wp_loop_rounds 5 ?_
  iterate 5 (rw [rounds_succ]; go_wp2_with fail)
  refine (n1 _).mono ?_
  rintro e w1 ⟨rfl, hB⟩
  (have HBn : Below w.heap.size w w1 := Below.on hB (by repeat (first | assumption | exact Below.refl _ _ | refine Below.setCell ?_ (by first | exact Nat.le_refl _ | (simp; done) | omega | (simp; omega)) _ | refine Below.alloc ?_ (by first | exact Nat.le_refl _ | (simp; done) | omega | (simp; omega)) _ | refine below_drewN ?_ _ | refine Below.drew ?_ | refine Below.on (by assumption) ?_ | refine Below.via (by assumption) (by first | exact Nat.le_refl _ | (simp; done) | omega | (simp; omega)) ?_)); have N0 := Lib.hid (Blk.below (g := w.heap.size) (by repeat (first | with_reducible exact Blk.new0 _ _ _ | with_reducible exact Blk.new1 _ _ _ _ | with_reducible exact Blk.new2 _ _ _ _ _ | with_reducible exact Blk.new3 _ _ _ _ _ _ | with_reducible exact Blk.new4 _ _ _ _ _ _ _ | with_reducible apply Blk.set_ | with_reducible apply Blk.alloc | with_reducible apply Blk.drewN | with_reducible apply Blk.drew | (with_reducible apply Blk.over; first | (intro h; omega) | (simp; done) | (simp; omega)))) hB); (try simp only [List.setIfInBounds_toArray, List.set_cons_succ, List.set_cons_zero] at N0); (try clear HB); clear hB; have HB := HBn; clear HBn; have HZw1 := HB.size; have K0 := N0; clear N0; have k0 := Blk.cell K0.out; have f0 := Blk.free K0.out; have l0 := Blk.lt K0.out; have m0 := Nat.le_of_lt l0)
  go_wp2_with fail
  exact bodyPost_ret (v := .tuple #[vp none, .int .i64 0]) (by simp (maxDischargeDepth := 9) [results, Tryd.results88, go_sem, vp, v2, *]) rfl ⟨rfl, (by repeat (first | assumption | exact Below.refl _ _ | refine Below.setCell ?_ (by first | exact Nat.le_refl _ | (simp; done) | omega | (simp; omega)) _ | refine Below.alloc ?_ (by first | exact Nat.le_refl _ | (simp; done) | omega | (simp; omega)) _ | refine below_drewN ?_ _ | refine Below.drew ?_ | refine Below.on (by assumption) ?_ | refine Below.via (by assumption) (by first | exact Nat.le_refl _ | (simp; done) | omega | (simp; omega)) ?_))⟩
set_option maxRecDepth 100000 in
set_option maxHeartbeats 2000000 in
theorem from_0_false (s : ByteArray) (a b c d : Int) (h : Five s 0 a b c d) (ha : 0 ≤ a ∧ a < 256) (hb : 0 ≤ b ∧ b < 256) (hc : 0 ≤ c ∧ c < 256) (hd : 0 ≤ d ∧ d < 256) (S : Int) (y : F)
    (hs : ∀ w, Calls Tryd.prog 121 #[.int .u64 (word4 a b c d)] w fun e w' => e = .returned (.int .u64 S) ∧ w = w')
    (hr : ∀ w, Calls Tryd.prog 111 #[.int .u64 S] w (Ret w (.tuple #[.int .u64 (vz y), .bool false])))
    (h0 : (word4 a b c d == 0) = false) (hp : vz y % 2 = 0) (w : World) :
    Calls Tryd.prog 88 #[.string s] w (Ret w (.tuple #[.agg #[.int .u64 0, .int .u64 0, .bool false], .int .i64 100])) := by
  have e1 := bits_and1 y
  rw [hp] at e1
  have e2 : bits .and .u8 0 1 = 0 := by decide
  have hX' : (bits .or .u64 (IntKind.u64.wrap (bits .or .u64 (IntKind.u64.wrap (bits .or .u64 (IntKind.u64.wrap (bits .or .u64 0 a * 256)) b * 256)) c * 256)) d == 0) = false := by rw [word4_up a b c d ha hb hc hd]; exact h0
  clear hp h0
  obtain ⟨hl, i0, i1, i2, i3, i4⟩ := h
  have hX := word4_up a b c d ha hb hc hd
  obtain ⟨a1, a2⟩ := ha
  obtain ⟨b1, b2⟩ := hb
  obtain ⟨c1, c2⟩ := hc
  obtain ⟨d1, d2⟩ := hd
  generalize word4 a b c d = X at *
  replace hX := Lib.hid hX
  go_enter Tryd.func88, Tryd.ntmps88
  go_wp2_with fail
  refine wp_loop_rounds 5 ?_
  iterate 5 (rw [rounds_succ]; go_wp2_with fail)
  rw [hX.out]
  refine (hs _).mono ?_
  rintro e w' ⟨rfl, rfl⟩
  go_wp2_with fail
  refine (hr _).mono ?_
  rintro e w1 ⟨rfl, hB⟩
  (have HBn : Below w.heap.size w w1 := Below.on hB (by repeat (first | assumption | exact Below.refl _ _ | refine Below.setCell ?_ (by first | exact Nat.le_refl _ | (simp; done) | omega | (simp; omega)) _ | refine Below.alloc ?_ (by first | exact Nat.le_refl _ | (simp; done) | omega | (simp; omega)) _ | refine below_drewN ?_ _ | refine Below.drew ?_ | refine Below.on (by assumption) ?_ | refine Below.via (by assumption) (by first | exact Nat.le_refl _ | (simp; done) | omega | (simp; omega)) ?_)); have N0 := Lib.hid (Blk.below (g := w.heap.size) (by repeat (first | with_reducible exact Blk.new0 _ _ _ | with_reducible exact Blk.new1 _ _ _ _ | with_reducible exact Blk.new2 _ _ _ _ _ | with_reducible exact Blk.new3 _ _ _ _ _ _ | with_reducible exact Blk.new4 _ _ _ _ _ _ _ | with_reducible apply Blk.set_ | with_reducible apply Blk.alloc | with_reducible apply Blk.drewN | with_reducible apply Blk.drew | (with_reducible apply Blk.over; first | (intro h; omega) | (simp; done) | (simp; omega)))) hB); (try simp only [List.setIfInBounds_toArray, List.set_cons_succ, List.set_cons_zero] at N0); (try clear HB); clear hB; have HB := HBn; clear HBn; have HZw1 := HB.size; have K0 := N0; clear N0; have k0 := Blk.cell K0.out; have f0 := Blk.free K0.out; have l0 := Blk.lt K0.out; have m0 := Nat.le_of_lt l0)
  go_wp2_with fail
  (refine wp_region_later (by kernel_rfl) (by kernel_rfl) ?_; (repeat (go_big_quiet_step (fail))); refine wpQuiet_nil ?_; intro w' hB)
  (have HBn : Below w.heap.size w w' := Below.on hB (by repeat (first | assumption | exact Below.refl _ _ | refine Below.setCell ?_ (by first | exact Nat.le_refl _ | (simp; done) | omega | (simp; omega)) _ | refine Below.alloc ?_ (by first | exact Nat.le_refl _ | (simp; done) | omega | (simp; omega)) _ | refine below_drewN ?_ _ | refine Below.drew ?_ | refine Below.on (by assumption) ?_ | refine Below.via (by assumption) (by first | exact Nat.le_refl _ | (simp; done) | omega | (simp; omega)) ?_)); have N0 := Lib.hid (Blk.below (g := w.heap.size) (by repeat (first | with_reducible exact K0.out | with_reducible exact Blk.new0 _ _ _ | with_reducible exact Blk.new1 _ _ _ _ | with_reducible exact Blk.new2 _ _ _ _ _ | with_reducible exact Blk.new3 _ _ _ _ _ _ | with_reducible exact Blk.new4 _ _ _ _ _ _ _ | with_reducible apply Blk.set_ | with_reducible apply Blk.alloc | with_reducible apply Blk.drewN | with_reducible apply Blk.drew | (with_reducible apply Blk.over; first | (intro h; omega) | (simp; done) | (simp; omega)))) hB); (try simp only [List.setIfInBounds_toArray, List.set_cons_succ, List.set_cons_zero] at N0); have N1 := Lib.hid (Blk.below (g := w1.heap.size) (by repeat (first | with_reducible exact Blk.new0 _ _ _ | with_reducible exact Blk.new1 _ _ _ _ | with_reducible exact Blk.new2 _ _ _ _ _ | with_reducible exact Blk.new3 _ _ _ _ _ _ | with_reducible exact Blk.new4 _ _ _ _ _ _ _ | with_reducible apply Blk.set_ | with_reducible apply Blk.alloc | with_reducible apply Blk.drewN | with_reducible apply Blk.drew | (with_reducible apply Blk.over; first | (intro h; omega) | (simp; done) | (simp; omega)))) hB); (try simp only [List.setIfInBounds_toArray, List.set_cons_succ, List.set_cons_zero] at N1); clear K0 k0 f0 l0 m0; (try clear HB); clear hB; have HB := HBn; clear HBn; have HZw' := HB.size; have K0 := N0; clear N0; have k0 := Blk.cell K0.out; have f0 := Blk.free K0.out; have l0 := Blk.lt K0.out; have m0 := Nat.le_of_lt l0; have K1 := N1; clear N1; have k1 := Blk.cell K1.out; have f1 := Blk.free K1.out; have l1 := Blk.lt K1.out; have m1 := Nat.le_of_lt l1)
  go_wp2_with fail
  exact bodyPost_ret (v := .tuple #[.agg #[.int .u64 0, .int .u64 0, .bool false], .int .i64 100]) (by simp (maxDischargeDepth := 9) [results, Tryd.results88, go_sem, vp, v2, *]) rfl ⟨rfl, (by repeat (first | assumption | exact Below.refl _ _ | refine Below.setCell ?_ (by first | exact Nat.le_refl _ | (simp; done) | omega | (simp; omega)) _ | refine Below.alloc ?_ (by first | exact Nat.le_refl _ | (simp; done) | omega | (simp; omega)) _ | refine below_drewN ?_ _ | refine Below.drew ?_ | refine Below.on (by assumption) ?_ | refine Below.via (by assumption) (by first | exact Nat.le_refl _ | (simp; done) | omega | (simp; omega)) ?_))⟩
set_option maxRecDepth 100000 in
set_option maxHeartbeats 2000000 in
theorem from_0_true (s : ByteArray) (a b c d : Int) (h : Five s 0 a b c d) (ha : 0 ≤ a ∧ a < 256) (hb : 0 ≤ b ∧ b < 256) (hc : 0 ≤ c ∧ c < 256) (hd : 0 ≤ d ∧ d < 256) (S : Int) (y : F)
    (hs : ∀ w, Calls Tryd.prog 121 #[.int .u64 (word4 a b c d)] w fun e w' => e = .returned (.int .u64 S) ∧ w = w')
    (hr : ∀ w, Calls Tryd.prog 111 #[.int .u64 S] w (Ret w (.tuple #[.int .u64 (vz y), .bool true])))
    (h0 : (word4 a b c d == 0) = false) (hp : vz y % 2 = 0) (w : World) :
    Calls Tryd.prog 88 #[.string s] w (Ret w (.tuple #[.agg #[.int .u64 0, .int .u64 0, .bool false], .int .i64 100])) := by
  have e1 := bits_and1 y
  rw [hp] at e1
  have e2 : bits .and .u8 0 1 = 0 := by decide
  have hX' : (bits .or .u64 (IntKind.u64.wrap (bits .or .u64 (IntKind.u64.wrap (bits .or .u64 (IntKind.u64.wrap (bits .or .u64 0 a * 256)) b * 256)) c * 256)) d == 0) = false := by rw [word4_up a b c d ha hb hc hd]; exact h0
  clear hp h0
  obtain ⟨hl, i0, i1, i2, i3, i4⟩ := h
  have hX := word4_up a b c d ha hb hc hd
  obtain ⟨a1, a2⟩ := ha
  obtain ⟨b1, b2⟩ := hb
  obtain ⟨c1, c2⟩ := hc
  obtain ⟨d1, d2⟩ := hd
  generalize word4 a b c d = X at *
  replace hX := Lib.hid hX
  go_enter Tryd.func88, Tryd.ntmps88
  go_wp2_with fail
  refine wp_loop_rounds 5 ?_
  iterate 5 (rw [rounds_succ]; go_wp2_with fail)
  rw [hX.out]
  refine (hs _).mono ?_
  rintro e w' ⟨rfl, rfl⟩
  go_wp2_with fail
  refine (hr _).mono ?_
  rintro e w1 ⟨rfl, hB⟩
  (have HBn : Below w.heap.size w w1 := Below.on hB (by repeat (first | assumption | exact Below.refl _ _ | refine Below.setCell ?_ (by first | exact Nat.le_refl _ | (simp; done) | omega | (simp; omega)) _ | refine Below.alloc ?_ (by first | exact Nat.le_refl _ | (simp; done) | omega | (simp; omega)) _ | refine below_drewN ?_ _ | refine Below.drew ?_ | refine Below.on (by assumption) ?_ | refine Below.via (by assumption) (by first | exact Nat.le_refl _ | (simp; done) | omega | (simp; omega)) ?_)); have N0 := Lib.hid (Blk.below (g := w.heap.size) (by repeat (first | with_reducible exact Blk.new0 _ _ _ | with_reducible exact Blk.new1 _ _ _ _ | with_reducible exact Blk.new2 _ _ _ _ _ | with_reducible exact Blk.new3 _ _ _ _ _ _ | with_reducible exact Blk.new4 _ _ _ _ _ _ _ | with_reducible apply Blk.set_ | with_reducible apply Blk.alloc | with_reducible apply Blk.drewN | with_reducible apply Blk.drew | (with_reducible apply Blk.over; first | (intro h; omega) | (simp; done) | (simp; omega)))) hB); (try simp only [List.setIfInBounds_toArray, List.set_cons_succ, List.set_cons_zero] at N0); (try clear HB); clear hB; have HB := HBn; clear HBn; have HZw1 := HB.size; have K0 := N0; clear N0; have k0 := Blk.cell K0.out; have f0 := Blk.free K0.out; have l0 := Blk.lt K0.out; have m0 := Nat.le_of_lt l0)
  go_wp2_with fail
  (refine wp_region_later (by kernel_rfl) (by kernel_rfl) ?_; (repeat (go_big_quiet_step (fail))); refine wpQuiet_nil ?_; intro w' hB)
  (have HBn : Below w.heap.size w w' := Below.on hB (by repeat (first | assumption | exact Below.refl _ _ | refine Below.setCell ?_ (by first | exact Nat.le_refl _ | (simp; done) | omega | (simp; omega)) _ | refine Below.alloc ?_ (by first | exact Nat.le_refl _ | (simp; done) | omega | (simp; omega)) _ | refine below_drewN ?_ _ | refine Below.drew ?_ | refine Below.on (by assumption) ?_ | refine Below.via (by assumption) (by first | exact Nat.le_refl _ | (simp; done) | omega | (simp; omega)) ?_)); have N0 := Lib.hid (Blk.below (g := w.heap.size) (by repeat (first | with_reducible exact K0.out | with_reducible exact Blk.new0 _ _ _ | with_reducible exact Blk.new1 _ _ _ _ | with_reducible exact Blk.new2 _ _ _ _ _ | with_reducible exact Blk.new3 _ _ _ _ _ _ | with_reducible exact Blk.new4 _ _ _ _ _ _ _ | with_reducible apply Blk.set_ | with_reducible apply Blk.alloc | with_reducible apply Blk.drewN | with_reducible apply Blk.drew | (with_reducible apply Blk.over; first | (intro h; omega) | (simp; done) | (simp; omega)))) hB); (try simp only [List.setIfInBounds_toArray, List.set_cons_succ, List.set_cons_zero] at N0); have N1 := Lib.hid (Blk.below (g := w1.heap.size) (by repeat (first | with_reducible exact Blk.new0 _ _ _ | with_reducible exact Blk.new1 _ _ _ _ | with_reducible exact Blk.new2 _ _ _ _ _ | with_reducible exact Blk.new3 _ _ _ _ _ _ | with_reducible exact Blk.new4 _ _ _ _ _ _ _ | with_reducible apply Blk.set_ | with_reducible apply Blk.alloc | with_reducible apply Blk.drewN | with_reducible apply Blk.drew | (with_reducible apply Blk.over; first | (intro h; omega) | (simp; done) | (simp; omega)))) hB); (try simp only [List.setIfInBounds_toArray, List.set_cons_succ, List.set_cons_zero] at N1); clear K0 k0 f0 l0 m0; (try clear HB); clear hB; have HB := HBn; clear HBn; have HZw' := HB.size; have K0 := N0; clear N0; have k0 := Blk.cell K0.out; have f0 := Blk.free K0.out; have l0 := Blk.lt K0.out; have m0 := Nat.le_of_lt l0; have K1 := N1; clear N1; have k1 := Blk.cell K1.out; have f1 := Blk.free K1.out; have l1 := Blk.lt K1.out; have m1 := Nat.le_of_lt l1)
  go_wp2_with fail
  exact bodyPost_ret (v := .tuple #[.agg #[.int .u64 0, .int .u64 0, .bool false], .int .i64 100]) (by simp (maxDischargeDepth := 9) [results, Tryd.results88, go_sem, vp, v2, *]) rfl ⟨rfl, (by repeat (first | assumption | exact Below.refl _ _ | refine Below.setCell ?_ (by first | exact Nat.le_refl _ | (simp; done) | omega | (simp; omega)) _ | refine Below.alloc ?_ (by first | exact Nat.le_refl _ | (simp; done) | omega | (simp; omega)) _ | refine below_drewN ?_ _ | refine Below.drew ?_ | refine Below.on (by assumption) ?_ | refine Below.via (by assumption) (by first | exact Nat.le_refl _ | (simp; done) | omega | (simp; omega)) ?_))⟩
set_option maxRecDepth 100000 in
set_option maxHeartbeats 2000000 in
theorem from_2_no (s : ByteArray) (a b c d : Int) (h : Five s 2 a b c d) (ha : 0 ≤ a ∧ a < 256) (hb : 0 ≤ b ∧ b < 256) (hc : 0 ≤ c ∧ c < 256) (hd : 0 ≤ d ∧ d < 256) (S : Int) (y : F)
    (hs : ∀ w, Calls Tryd.prog 121 #[.int .u64 (word4 a b c d)] w fun e w' => e = .returned (.int .u64 S) ∧ w = w')
    (hr : ∀ w, Calls Tryd.prog 111 #[.int .u64 S] w (Ret w (.tuple #[.int .u64 (vz y), .bool false])))
     (w : World) :
    Calls Tryd.prog 88 #[.string s] w (Ret w (.tuple #[.agg #[.int .u64 0, .int .u64 0, .bool false], .int .i64 100])) := by
  obtain ⟨hl, i0, i1, i2, i3, i4⟩ := h
  have hX := word4_up a b c d ha hb hc hd
  obtain ⟨a1, a2⟩ := ha
  obtain ⟨b1, b2⟩ := hb
  obtain ⟨c1, c2⟩ := hc
  obtain ⟨d1, d2⟩ := hd
  generalize word4 a b c d = X at *
  replace hX := Lib.hid hX
  go_enter Tryd.func88, Tryd.ntmps88
  go_wp2_with fail
  refine wp_loop_rounds 5 ?_
  iterate 5 (rw [rounds_succ]; go_wp2_with fail)
  rw [hX.out]
  refine (hs _).mono ?_
  rintro e w' ⟨rfl, rfl⟩
  go_wp2_with fail
  refine (hr _).mono ?_
  rintro e w1 ⟨rfl, hB⟩
  (have HBn : Below w.heap.size w w1 := Below.on hB (by repeat (first | assumption | exact Below.refl _ _ | refine Below.setCell ?_ (by first | exact Nat.le_refl _ | (simp; done) | omega | (simp; omega)) _ | refine Below.alloc ?_ (by first | exact Nat.le_refl _ | (simp; done) | omega | (simp; omega)) _ | refine below_drewN ?_ _ | refine Below.drew ?_ | refine Below.on (by assumption) ?_ | refine Below.via (by assumption) (by first | exact Nat.le_refl _ | (simp; done) | omega | (simp; omega)) ?_)); have N0 := Lib.hid (Blk.below (g := w.heap.size) (by repeat (first | with_reducible exact Blk.new0 _ _ _ | with_reducible exact Blk.new1 _ _ _ _ | with_reducible exact Blk.new2 _ _ _ _ _ | with_reducible exact Blk.new3 _ _ _ _ _ _ | with_reducible exact Blk.new4 _ _ _ _ _ _ _ | with_reducible apply Blk.set_ | with_reducible apply Blk.alloc | with_reducible apply Blk.drewN | with_reducible apply Blk.drew | (with_reducible apply Blk.over; first | (intro h; omega) | (simp; done) | (simp; omega)))) hB); (try simp only [List.setIfInBounds_toArray, List.set_cons_succ, List.set_cons_zero] at N0); (try clear HB); clear hB; have HB := HBn; clear HBn; have HZw1 := HB.size; have K0 := N0; clear N0; have k0 := Blk.cell K0.out; have f0 := Blk.free K0.out; have l0 := Blk.lt K0.out; have m0 := Nat.le_of_lt l0)
  go_wp2_with fail
  (refine wp_region_later (by kernel_rfl) (by kernel_rfl) ?_; (repeat (go_big_quiet_step (fail))); refine wpQuiet_nil ?_; intro w' hB)
  (have HBn : Below w.heap.size w w' := Below.on hB (by repeat (first | assumption | exact Below.refl _ _ | refine Below.setCell ?_ (by first | exact Nat.le_refl _ | (simp; done) | omega | (simp; omega)) _ | refine Below.alloc ?_ (by first | exact Nat.le_refl _ | (simp; done) | omega | (simp; omega)) _ | refine below_drewN ?_ _ | refine Below.drew ?_ | refine Below.on (by assumption) ?_ | refine Below.via (by assumption) (by first | exact Nat.le_refl _ | (simp; done) | omega | (simp; omega)) ?_)); have N0 := Lib.hid (Blk.below (g := w.heap.size) (by repeat (first | with_reducible exact K0.out | with_reducible exact Blk.new0 _ _ _ | with_reducible exact Blk.new1 _ _ _ _ | with_reducible exact Blk.new2 _ _ _ _ _ | with_reducible exact Blk.new3 _ _ _ _ _ _ | with_reducible exact Blk.new4 _ _ _ _ _ _ _ | with_reducible apply Blk.set_ | with_reducible apply Blk.alloc | with_reducible apply Blk.drewN | with_reducible apply Blk.drew | (with_reducible apply Blk.over; first | (intro h; omega) | (simp; done) | (simp; omega)))) hB); (try simp only [List.setIfInBounds_toArray, List.set_cons_succ, List.set_cons_zero] at N0); have N1 := Lib.hid (Blk.below (g := w1.heap.size) (by repeat (first | with_reducible exact Blk.new0 _ _ _ | with_reducible exact Blk.new1 _ _ _ _ | with_reducible exact Blk.new2 _ _ _ _ _ | with_reducible exact Blk.new3 _ _ _ _ _ _ | with_reducible exact Blk.new4 _ _ _ _ _ _ _ | with_reducible apply Blk.set_ | with_reducible apply Blk.alloc | with_reducible apply Blk.drewN | with_reducible apply Blk.drew | (with_reducible apply Blk.over; first | (intro h; omega) | (simp; done) | (simp; omega)))) hB); (try simp only [List.setIfInBounds_toArray, List.set_cons_succ, List.set_cons_zero] at N1); clear K0 k0 f0 l0 m0; (try clear HB); clear hB; have HB := HBn; clear HBn; have HZw' := HB.size; have K0 := N0; clear N0; have k0 := Blk.cell K0.out; have f0 := Blk.free K0.out; have l0 := Blk.lt K0.out; have m0 := Nat.le_of_lt l0; have K1 := N1; clear N1; have k1 := Blk.cell K1.out; have f1 := Blk.free K1.out; have l1 := Blk.lt K1.out; have m1 := Nat.le_of_lt l1)
  go_wp2_with fail
  exact bodyPost_ret (v := .tuple #[.agg #[.int .u64 0, .int .u64 0, .bool false], .int .i64 100]) (by simp (maxDischargeDepth := 9) [results, Tryd.results88, go_sem, vp, v2, *]) rfl ⟨rfl, (by repeat (first | assumption | exact Below.refl _ _ | refine Below.setCell ?_ (by first | exact Nat.le_refl _ | (simp; done) | omega | (simp; omega)) _ | refine Below.alloc ?_ (by first | exact Nat.le_refl _ | (simp; done) | omega | (simp; omega)) _ | refine below_drewN ?_ _ | refine Below.drew ?_ | refine Below.on (by assumption) ?_ | refine Below.via (by assumption) (by first | exact Nat.le_refl _ | (simp; done) | omega | (simp; omega)) ?_))⟩
set_option maxRecDepth 100000 in
set_option maxHeartbeats 2000000 in
theorem from_2_out (s : ByteArray) (a b c d : Int) (h : Five s 2 a b c d) (ha : 0 ≤ a ∧ a < 256) (hb : 0 ≤ b ∧ b < 256) (hc : 0 ≤ c ∧ c < 256) (hd : 0 ≤ d ∧ d < 256) (S : Int) (y : F)
    (hs : ∀ w, Calls Tryd.prog 121 #[.int .u64 (word4 a b c d)] w fun e w' => e = .returned (.int .u64 S) ∧ w = w')
    (hr : ∀ w, Calls Tryd.prog 111 #[.int .u64 S] w (Ret w (.tuple #[.int .u64 (vz y), .bool true])))
    (hp : vz y % 2 = 0) (hg : ∀ w, Calls Tryd.prog 123 #[.agg #[.int .u64 (word4 a b c d), .int .u64 (vz y), .bool false]] w (Ret w (.bool false))) (w : World) :
    Calls Tryd.prog 88 #[.string s] w (Ret w (.tuple #[.agg #[.int .u64 0, .int .u64 0, .bool false], .int .i64 100])) := by
  have e1 := bits_and1 y
  rw [hp] at e1
  have e2 : bits .and .u8 2 1 = 0 := by decide
  clear hp
  obtain ⟨hl, i0, i1, i2, i3, i4⟩ := h
  have hX := word4_up a b c d ha hb hc hd
  obtain ⟨a1, a2⟩ := ha
  obtain ⟨b1, b2⟩ := hb
  obtain ⟨c1, c2⟩ := hc
  obtain ⟨d1, d2⟩ := hd
  generalize word4 a b c d = X at *
  replace hX := Lib.hid hX
  go_enter Tryd.func88, Tryd.ntmps88
  go_wp2_with fail
  refine wp_loop_rounds 5 ?_
  iterate 5 (rw [rounds_succ]; go_wp2_with fail)
  rw [hX.out]
  refine (hs _).mono ?_
  rintro e w' ⟨rfl, rfl⟩
  go_wp2_with fail
  refine (hr _).mono ?_
  rintro e w1 ⟨rfl, hB⟩
  (have HBn : Below w.heap.size w w1 := Below.on hB (by repeat (first | assumption | exact Below.refl _ _ | refine Below.setCell ?_ (by first | exact Nat.le_refl _ | (simp; done) | omega | (simp; omega)) _ | refine Below.alloc ?_ (by first | exact Nat.le_refl _ | (simp; done) | omega | (simp; omega)) _ | refine below_drewN ?_ _ | refine Below.drew ?_ | refine Below.on (by assumption) ?_ | refine Below.via (by assumption) (by first | exact Nat.le_refl _ | (simp; done) | omega | (simp; omega)) ?_)); have N0 := Lib.hid (Blk.below (g := w.heap.size) (by repeat (first | with_reducible exact Blk.new0 _ _ _ | with_reducible exact Blk.new1 _ _ _ _ | with_reducible exact Blk.new2 _ _ _ _ _ | with_reducible exact Blk.new3 _ _ _ _ _ _ | with_reducible exact Blk.new4 _ _ _ _ _ _ _ | with_reducible apply Blk.set_ | with_reducible apply Blk.alloc | with_reducible apply Blk.drewN | with_reducible apply Blk.drew | (with_reducible apply Blk.over; first | (intro h; omega) | (simp; done) | (simp; omega)))) hB); (try simp only [List.setIfInBounds_toArray, List.set_cons_succ, List.set_cons_zero] at N0); (try clear HB); clear hB; have HB := HBn; clear HBn; have HZw1 := HB.size; have K0 := N0; clear N0; have k0 := Blk.cell K0.out; have f0 := Blk.free K0.out; have l0 := Blk.lt K0.out; have m0 := Nat.le_of_lt l0)
  go_wp2_with fail
  (refine wp_region_later (by kernel_rfl) (by kernel_rfl) ?_; (repeat (go_big_quiet_step ((go_at_call 123; exact lq (hg _))))); refine wpQuiet_nil ?_; intro w' hB)
  (have HBn : Below w.heap.size w w' := Below.on hB (by repeat (first | assumption | exact Below.refl _ _ | refine Below.setCell ?_ (by first | exact Nat.le_refl _ | (simp; done) | omega | (simp; omega)) _ | refine Below.alloc ?_ (by first | exact Nat.le_refl _ | (simp; done) | omega | (simp; omega)) _ | refine below_drewN ?_ _ | refine Below.drew ?_ | refine Below.on (by assumption) ?_ | refine Below.via (by assumption) (by first | exact Nat.le_refl _ | (simp; done) | omega | (simp; omega)) ?_)); have N0 := Lib.hid (Blk.below (g := w.heap.size) (by repeat (first | with_reducible exact K0.out | with_reducible exact Blk.new0 _ _ _ | with_reducible exact Blk.new1 _ _ _ _ | with_reducible exact Blk.new2 _ _ _ _ _ | with_reducible exact Blk.new3 _ _ _ _ _ _ | with_reducible exact Blk.new4 _ _ _ _ _ _ _ | with_reducible apply Blk.set_ | with_reducible apply Blk.alloc | with_reducible apply Blk.drewN | with_reducible apply Blk.drew | (with_reducible apply Blk.over; first | (intro h; omega) | (simp; done) | (simp; omega)))) hB); (try simp only [List.setIfInBounds_toArray, List.set_cons_succ, List.set_cons_zero] at N0); have N1 := Lib.hid (Blk.below (g := w1.heap.size) (by repeat (first | with_reducible exact Blk.new0 _ _ _ | with_reducible exact Blk.new1 _ _ _ _ | with_reducible exact Blk.new2 _ _ _ _ _ | with_reducible exact Blk.new3 _ _ _ _ _ _ | with_reducible exact Blk.new4 _ _ _ _ _ _ _ | with_reducible apply Blk.set_ | with_reducible apply Blk.alloc | with_reducible apply Blk.drewN | with_reducible apply Blk.drew | (with_reducible apply Blk.over; first | (intro h; omega) | (simp; done) | (simp; omega)))) hB); (try simp only [List.setIfInBounds_toArray, List.set_cons_succ, List.set_cons_zero] at N1); clear K0 k0 f0 l0 m0; (try clear HB); clear hB; have HB := HBn; clear HBn; have HZw' := HB.size; have K0 := N0; clear N0; have k0 := Blk.cell K0.out; have f0 := Blk.free K0.out; have l0 := Blk.lt K0.out; have m0 := Nat.le_of_lt l0; have K1 := N1; clear N1; have k1 := Blk.cell K1.out; have f1 := Blk.free K1.out; have l1 := Blk.lt K1.out; have m1 := Nat.le_of_lt l1)
  go_wp2_with fail
  exact bodyPost_ret (v := .tuple #[.agg #[.int .u64 0, .int .u64 0, .bool false], .int .i64 100]) (by simp (maxDischargeDepth := 9) [results, Tryd.results88, go_sem, vp, v2, *]) rfl ⟨rfl, (by repeat (first | assumption | exact Below.refl _ _ | refine Below.setCell ?_ (by first | exact Nat.le_refl _ | (simp; done) | omega | (simp; omega)) _ | refine Below.alloc ?_ (by first | exact Nat.le_refl _ | (simp; done) | omega | (simp; omega)) _ | refine below_drewN ?_ _ | refine Below.drew ?_ | refine Below.on (by assumption) ?_ | refine Below.via (by assumption) (by first | exact Nat.le_refl _ | (simp; done) | omega | (simp; omega)) ?_))⟩
set_option maxRecDepth 100000 in
set_option maxHeartbeats 2000000 in
theorem from_2 (s : ByteArray) (a b c d : Int) (h : Five s 2 a b c d) (ha : 0 ≤ a ∧ a < 256) (hb : 0 ≤ b ∧ b < 256) (hc : 0 ≤ c ∧ c < 256) (hd : 0 ≤ d ∧ d < 256) (S : Int) (y : F)
    (hs : ∀ w, Calls Tryd.prog 121 #[.int .u64 (word4 a b c d)] w fun e w' => e = .returned (.int .u64 S) ∧ w = w')
    (hr : ∀ w, Calls Tryd.prog 111 #[.int .u64 S] w (Ret w (.tuple #[.int .u64 (vz y), .bool true])))
    (hp : vz y % 2 = 0) (hg : ∀ w, Calls Tryd.prog 123 #[.agg #[.int .u64 (word4 a b c d), .int .u64 (vz y), .bool false]] w (Ret w (.bool true))) (w : World) :
    Calls Tryd.prog 88 #[.string s] w (Ret w (.tuple #[.agg #[.int .u64 (word4 a b c d), .int .u64 (vz y), .bool false], .int .i64 0])) := by
  have e1 := bits_and1 y
  rw [hp] at e1
  have e2 : bits .and .u8 2 1 = 0 := by decide
  clear hp
  obtain ⟨hl, i0, i1, i2, i3, i4⟩ := h
  have hX := word4_up a b c d ha hb hc hd
  obtain ⟨a1, a2⟩ := ha
  obtain ⟨b1, b2⟩ := hb
  obtain ⟨c1, c2⟩ := hc
  obtain ⟨d1, d2⟩ := hd
  generalize word4 a b c d = X at *
  replace hX := Lib.hid hX
  go_enter Tryd.func88, Tryd.ntmps88
  go_wp2_with fail
  refine wp_loop_rounds 5 ?_
  iterate 5 (rw [rounds_succ]; go_wp2_with fail)
  rw [hX.out]
  refine (hs _).mono ?_
  rintro e w' ⟨rfl, rfl⟩
  go_wp2_with fail
  refine (hr _).mono ?_
  rintro e w1 ⟨rfl, hB⟩
  (have HBn : Below w.heap.size w w1 := Below.on hB (by repeat (first | assumption | exact Below.refl _ _ | refine Below.setCell ?_ (by first | exact Nat.le_refl _ | (simp; done) | omega | (simp; omega)) _ | refine Below.alloc ?_ (by first | exact Nat.le_refl _ | (simp; done) | omega | (simp; omega)) _ | refine below_drewN ?_ _ | refine Below.drew ?_ | refine Below.on (by assumption) ?_ | refine Below.via (by assumption) (by first | exact Nat.le_refl _ | (simp; done) | omega | (simp; omega)) ?_)); have N0 := Lib.hid (Blk.below (g := w.heap.size) (by repeat (first | with_reducible exact Blk.new0 _ _ _ | with_reducible exact Blk.new1 _ _ _ _ | with_reducible exact Blk.new2 _ _ _ _ _ | with_reducible exact Blk.new3 _ _ _ _ _ _ | with_reducible exact Blk.new4 _ _ _ _ _ _ _ | with_reducible apply Blk.set_ | with_reducible apply Blk.alloc | with_reducible apply Blk.drewN | with_reducible apply Blk.drew | (with_reducible apply Blk.over; first | (intro h; omega) | (simp; done) | (simp; omega)))) hB); (try simp only [List.setIfInBounds_toArray, List.set_cons_succ, List.set_cons_zero] at N0); (try clear HB); clear hB; have HB := HBn; clear HBn; have HZw1 := HB.size; have K0 := N0; clear N0; have k0 := Blk.cell K0.out; have f0 := Blk.free K0.out; have l0 := Blk.lt K0.out; have m0 := Nat.le_of_lt l0)
  go_wp2_with fail
  (refine wp_region_later (by kernel_rfl) (by kernel_rfl) ?_; (repeat (go_big_quiet_step ((go_at_call 123; exact lq (hg _))))); refine wpQuiet_nil ?_; intro w' hB)
  (have HBn : Below w.heap.size w w' := Below.on hB (by repeat (first | assumption | exact Below.refl _ _ | refine Below.setCell ?_ (by first | exact Nat.le_refl _ | (simp; done) | omega | (simp; omega)) _ | refine Below.alloc ?_ (by first | exact Nat.le_refl _ | (simp; done) | omega | (simp; omega)) _ | refine below_drewN ?_ _ | refine Below.drew ?_ | refine Below.on (by assumption) ?_ | refine Below.via (by assumption) (by first | exact Nat.le_refl _ | (simp; done) | omega | (simp; omega)) ?_)); have N0 := Lib.hid (Blk.below (g := w.heap.size) (by repeat (first | with_reducible exact K0.out | with_reducible exact Blk.new0 _ _ _ | with_reducible exact Blk.new1 _ _ _ _ | with_reducible exact Blk.new2 _ _ _ _ _ | with_reducible exact Blk.new3 _ _ _ _ _ _ | with_reducible exact Blk.new4 _ _ _ _ _ _ _ | with_reducible apply Blk.set_ | with_reducible apply Blk.alloc | with_reducible apply Blk.drewN | with_reducible apply Blk.drew | (with_reducible apply Blk.over; first | (intro h; omega) | (simp; done) | (simp; omega)))) hB); (try simp only [List.setIfInBounds_toArray, List.set_cons_succ, List.set_cons_zero] at N0); have N1 := Lib.hid (Blk.below (g := w1.heap.size) (by repeat (first | with_reducible exact Blk.new0 _ _ _ | with_reducible exact Blk.new1 _ _ _ _ | with_reducible exact Blk.new2 _ _ _ _ _ | with_reducible exact Blk.new3 _ _ _ _ _ _ | with_reducible exact Blk.new4 _ _ _ _ _ _ _ | with_reducible apply Blk.set_ | with_reducible apply Blk.alloc | with_reducible apply Blk.drewN | with_reducible apply Blk.drew | (with_reducible apply Blk.over; first | (intro h; omega) | (simp; done) | (simp; omega)))) hB); (try simp only [List.setIfInBounds_toArray, List.set_cons_succ, List.set_cons_zero] at N1); clear K0 k0 f0 l0 m0; (try clear HB); clear hB; have HB := HBn; clear HBn; have HZw' := HB.size; have K0 := N0; clear N0; have k0 := Blk.cell K0.out; have f0 := Blk.free K0.out; have l0 := Blk.lt K0.out; have m0 := Nat.le_of_lt l0; have K1 := N1; clear N1; have k1 := Blk.cell K1.out; have f1 := Blk.free K1.out; have l1 := Blk.lt K1.out; have m1 := Nat.le_of_lt l1)
  go_wp2_with fail
  exact bodyPost_ret (v := .tuple #[.agg #[.int .u64 X, .int .u64 (vz y), .bool false], .int .i64 0]) (by simp (maxDischargeDepth := 9) [results, Tryd.results88, go_sem, vp, v2, *]) rfl ⟨rfl, (by repeat (first | assumption | exact Below.refl _ _ | refine Below.setCell ?_ (by first | exact Nat.le_refl _ | (simp; done) | omega | (simp; omega)) _ | refine Below.alloc ?_ (by first | exact Nat.le_refl _ | (simp; done) | omega | (simp; omega)) _ | refine below_drewN ?_ _ | refine Below.drew ?_ | refine Below.on (by assumption) ?_ | refine Below.via (by assumption) (by first | exact Nat.le_refl _ | (simp; done) | omega | (simp; omega)) ?_))⟩
set_option maxRecDepth 100000 in
set_option maxHeartbeats 2000000 in
theorem from_3_no (s : ByteArray) (a b c d : Int) (h : Five s 3 a b c d) (ha : 0 ≤ a ∧ a < 256) (hb : 0 ≤ b ∧ b < 256) (hc : 0 ≤ c ∧ c < 256) (hd : 0 ≤ d ∧ d < 256) (S : Int) (y : F)
    (hs : ∀ w, Calls Tryd.prog 121 #[.int .u64 (word4 a b c d)] w fun e w' => e = .returned (.int .u64 S) ∧ w = w')
    (hr : ∀ w, Calls Tryd.prog 111 #[.int .u64 S] w (Ret w (.tuple #[.int .u64 (vz y), .bool false])))
    (y' : F) (hm : ∀ w, Calls Tryd.prog 122 #[.agg #[.int .u64 (word4 a b c d), .int .u64 (vz y), .bool false]] w (Ret w (.agg #[.int .u64 (word4 a b c d), .int .u64 (vz y'), .bool false])))
     (w : World) :
    Calls Tryd.prog 88 #[.string s] w (Ret w (.tuple #[.agg #[.int .u64 0, .int .u64 0, .bool false], .int .i64 100])) := by
  obtain ⟨hl, i0, i1, i2, i3, i4⟩ := h
  have hX := word4_up a b c d ha hb hc hd
  obtain ⟨a1, a2⟩ := ha
  obtain ⟨b1, b2⟩ := hb
  obtain ⟨c1, c2⟩ := hc
  obtain ⟨d1, d2⟩ := hd
  generalize word4 a b c d = X at *
  replace hX := Lib.hid hX
  go_enter Tryd.func88, Tryd.ntmps88
  go_wp2_with fail
  refine wp_loop_rounds 5 ?_
  iterate 5 (rw [rounds_succ]; go_wp2_with fail)
  rw [hX.out]
  refine (hs _).mono ?_
  rintro e w' ⟨rfl, rfl⟩
  go_wp2_with fail
  refine (hr _).mono ?_
  rintro e w1 ⟨rfl, hB⟩
  (have HBn : Below w.heap.size w w1 := Below.on hB (by repeat (first | assumption | exact Below.refl _ _ | refine Below.setCell ?_ (by first | exact Nat.le_refl _ | (simp; done) | omega | (simp; omega)) _ | refine Below.alloc ?_ (by first | exact Nat.le_refl _ | (simp; done) | omega | (simp; omega)) _ | refine below_drewN ?_ _ | refine Below.drew ?_ | refine Below.on (by assumption) ?_ | refine Below.via (by assumption) (by first | exact Nat.le_refl _ | (simp; done) | omega | (simp; omega)) ?_)); have N0 := Lib.hid (Blk.below (g := w.heap.size) (by repeat (first | with_reducible exact Blk.new0 _ _ _ | with_reducible exact Blk.new1 _ _ _ _ | with_reducible exact Blk.new2 _ _ _ _ _ | with_reducible exact Blk.new3 _ _ _ _ _ _ | with_reducible exact Blk.new4 _ _ _ _ _ _ _ | with_reducible apply Blk.set_ | with_reducible apply Blk.alloc | with_reducible apply Blk.drewN | with_reducible apply Blk.drew | (with_reducible apply Blk.over; first | (intro h; omega) | (simp; done) | (simp; omega)))) hB); (try simp only [List.setIfInBounds_toArray, List.set_cons_succ, List.set_cons_zero] at N0); (try clear HB); clear hB; have HB := HBn; clear HBn; have HZw1 := HB.size; have K0 := N0; clear N0; have k0 := Blk.cell K0.out; have f0 := Blk.free K0.out; have l0 := Blk.lt K0.out; have m0 := Nat.le_of_lt l0)
  go_wp2_with fail
  have z1 : w.heap.size ≠ w1.heap.size := Nat.ne_of_lt l0
  have z2 : w1.heap.size ≠ w.heap.size := z1.symm
  refine (hm _).mono ?_
  rintro e w2 ⟨rfl, hB⟩
  (have HBn : Below w.heap.size w w2 := Below.on hB (by repeat (first | assumption | exact Below.refl _ _ | refine Below.setCell ?_ (by first | exact Nat.le_refl _ | (simp; done) | omega | (simp; omega)) _ | refine Below.alloc ?_ (by first | exact Nat.le_refl _ | (simp; done) | omega | (simp; omega)) _ | refine below_drewN ?_ _ | refine Below.drew ?_ | refine Below.on (by assumption) ?_ | refine Below.via (by assumption) (by first | exact Nat.le_refl _ | (simp; done) | omega | (simp; omega)) ?_)); have N0 := Lib.hid (Blk.below (g := w.heap.size) (by repeat (first | with_reducible exact K0.out | with_reducible exact Blk.new0 _ _ _ | with_reducible exact Blk.new1 _ _ _ _ | with_reducible exact Blk.new2 _ _ _ _ _ | with_reducible exact Blk.new3 _ _ _ _ _ _ | with_reducible exact Blk.new4 _ _ _ _ _ _ _ | with_reducible apply Blk.set_ | with_reducible apply Blk.alloc | with_reducible apply Blk.drewN | with_reducible apply Blk.drew | (with_reducible apply Blk.over; first | (intro h; omega) | (simp; done) | (simp; omega)))) hB); (try simp only [List.setIfInBounds_toArray, List.set_cons_succ, List.set_cons_zero] at N0); have N1 := Lib.hid (Blk.below (g := w1.heap.size) (by repeat (first | with_reducible exact Blk.new0 _ _ _ | with_reducible exact Blk.new1 _ _ _ _ | with_reducible exact Blk.new2 _ _ _ _ _ | with_reducible exact Blk.new3 _ _ _ _ _ _ | with_reducible exact Blk.new4 _ _ _ _ _ _ _ | with_reducible apply Blk.set_ | with_reducible apply Blk.alloc | with_reducible apply Blk.drewN | with_reducible apply Blk.drew | (with_reducible apply Blk.over; first | (intro h; omega) | (simp; done) | (simp; omega)))) hB); (try simp only [List.setIfInBounds_toArray, List.set_cons_succ, List.set_cons_zero] at N1); clear K0 k0 f0 l0 m0; (try clear HB); clear hB; have HB := HBn; clear HBn; have HZw2 := HB.size; have K0 := N0; clear N0; have k0 := Blk.cell K0.out; have f0 := Blk.free K0.out; have l0 := Blk.lt K0.out; have m0 := Nat.le_of_lt l0; have K1 := N1; clear N1; have k1 := Blk.cell K1.out; have f1 := Blk.free K1.out; have l1 := Blk.lt K1.out; have m1 := Nat.le_of_lt l1)
  go_wp2_with fail
  (refine wp_region_later (by kernel_rfl) (by kernel_rfl) ?_; (repeat (go_big_quiet_step (fail))); refine wpQuiet_nil ?_; intro w' hB)
  (have HBn : Below w.heap.size w w' := Below.on hB (by repeat (first | assumption | exact Below.refl _ _ | refine Below.setCell ?_ (by first | exact Nat.le_refl _ | (simp; done) | omega | (simp; omega)) _ | refine Below.alloc ?_ (by first | exact Nat.le_refl _ | (simp; done) | omega | (simp; omega)) _ | refine below_drewN ?_ _ | refine Below.drew ?_ | refine Below.on (by assumption) ?_ | refine Below.via (by assumption) (by first | exact Nat.le_refl _ | (simp; done) | omega | (simp; omega)) ?_)); have N0 := Lib.hid (Blk.below (g := w.heap.size) (by repeat (first | with_reducible exact K0.out | with_reducible exact Blk.new0 _ _ _ | with_reducible exact Blk.new1 _ _ _ _ | with_reducible exact Blk.new2 _ _ _ _ _ | with_reducible exact Blk.new3 _ _ _ _ _ _ | with_reducible exact Blk.new4 _ _ _ _ _ _ _ | with_reducible apply Blk.set_ | with_reducible apply Blk.alloc | with_reducible apply Blk.drewN | with_reducible apply Blk.drew | (with_reducible apply Blk.over; first | (intro h; omega) | (simp; done) | (simp; omega)))) hB); (try simp only [List.setIfInBounds_toArray, List.set_cons_succ, List.set_cons_zero] at N0); have N1 := Lib.hid (Blk.below (g := w1.heap.size) (by repeat (first | with_reducible exact K1.out | with_reducible exact Blk.new0 _ _ _ | with_reducible exact Blk.new1 _ _ _ _ | with_reducible exact Blk.new2 _ _ _ _ _ | with_reducible exact Blk.new3 _ _ _ _ _ _ | with_reducible exact Blk.new4 _ _ _ _ _ _ _ | with_reducible apply Blk.set_ | with_reducible apply Blk.alloc | with_reducible apply Blk.drewN | with_reducible apply Blk.drew | (with_reducible apply Blk.over; first | (intro h; omega) | (simp; done) | (simp; omega)))) hB); (try simp only [List.setIfInBounds_toArray, List.set_cons_succ, List.set_cons_zero] at N1); clear K0 k0 f0 l0 m0 K1 k1 f1 l1 m1; (try clear HB); clear hB; have HB := HBn; clear HBn; have HZw' := HB.size; have K0 := N0; clear N0; have k0 := Blk.cell K0.out; have f0 := Blk.free K0.out; have l0 := Blk.lt K0.out; have m0 := Nat.le_of_lt l0; have K1 := N1; clear N1; have k1 := Blk.cell K1.out; have f1 := Blk.free K1.out; have l1 := Blk.lt K1.out; have m1 := Nat.le_of_lt l1)
  go_wp2_with fail
  exact bodyPost_ret (v := .tuple #[.agg #[.int .u64 0, .int .u64 0, .bool false], .int .i64 100]) (by simp (maxDischargeDepth := 9) [results, Tryd.results88, go_sem, vp, v2, *]) rfl ⟨rfl, (by repeat (first | assumption | exact Below.refl _ _ | refine Below.setCell ?_ (by first | exact Nat.le_refl _ | (simp; done) | omega | (simp; omega)) _ | refine Below.alloc ?_ (by first | exact Nat.le_refl _ | (simp; done) | omega | (simp; omega)) _ | refine below_drewN ?_ _ | refine Below.drew ?_ | refine Below.on (by assumption) ?_ | refine Below.via (by assumption) (by first | exact Nat.le_refl _ | (simp; done) | omega | (simp; omega)) ?_))⟩
set_option maxRecDepth 100000 in
set_option maxHeartbeats 2000000 in
theorem from_3_zero (s : ByteArray) (a b c d : Int) (h : Five s 3 a b c d) (ha : 0 ≤ a ∧ a < 256) (hb : 0 ≤ b ∧ b < 256) (hc : 0 ≤ c ∧ c < 256) (hd : 0 ≤ d ∧ d < 256) (S : Int) (y : F)
    (hs : ∀ w, Calls Tryd.prog 121 #[.int .u64 (word4 a b c d)] w fun e w' => e = .returned (.int .u64 S) ∧ w = w')
    (hr : ∀ w, Calls Tryd.prog 111 #[.int .u64 S] w (Ret w (.tuple #[.int .u64 (vz y), .bool true])))
    (y' : F) (hm : ∀ w, Calls Tryd.prog 122 #[.agg #[.int .u64 (word4 a b c d), .int .u64 (vz y), .bool false]] w (Ret w (.agg #[.int .u64 (word4 a b c d), .int .u64 (vz y'), .bool false])))
    (hp : vz y' % 2 = 0)  (w : World) :
    Calls Tryd.prog 88 #[.string s] w (Ret w (.tuple #[.agg #[.int .u64 0, .int .u64 0, .bool false], .int .i64 100])) := by
  have e1 := bits_and1 y'
  rw [hp] at e1
  have e2 : bits .and .u8 3 1 = 1 := by decide
  clear hp
  obtain ⟨hl, i0, i1, i2, i3, i4⟩ := h
  have hX := word4_up a b c d ha hb hc hd
  obtain ⟨a1, a2⟩ := ha
  obtain ⟨b1, b2⟩ := hb
  obtain ⟨c1, c2⟩ := hc
  obtain ⟨d1, d2⟩ := hd
  generalize word4 a b c d = X at *
  replace hX := Lib.hid hX
  go_enter Tryd.func88, Tryd.ntmps88
  go_wp2_with fail
  refine wp_loop_rounds 5 ?_
  iterate 5 (rw [rounds_succ]; go_wp2_with fail)
  rw [hX.out]
  refine (hs _).mono ?_
  rintro e w' ⟨rfl, rfl⟩
  go_wp2_with fail
  refine (hr _).mono ?_
  rintro e w1 ⟨rfl, hB⟩
  (have HBn : Below w.heap.size w w1 := Below.on hB (by repeat (first | assumption | exact Below.refl _ _ | refine Below.setCell ?_ (by first | exact Nat.le_refl _ | (simp; done) | omega | (simp; omega)) _ | refine Below.alloc ?_ (by first | exact Nat.le_refl _ | (simp; done) | omega | (simp; omega)) _ | refine below_drewN ?_ _ | refine Below.drew ?_ | refine Below.on (by assumption) ?_ | refine Below.via (by assumption) (by first | exact Nat.le_refl _ | (simp; done) | omega | (simp; omega)) ?_)); have N0 := Lib.hid (Blk.below (g := w.heap.size) (by repeat (first | with_reducible exact Blk.new0 _ _ _ | with_reducible exact Blk.new1 _ _ _ _ | with_reducible exact Blk.new2 _ _ _ _ _ | with_reducible exact Blk.new3 _ _ _ _ _ _ | with_reducible exact Blk.new4 _ _ _ _ _ _ _ | with_reducible apply Blk.set_ | with_reducible apply Blk.alloc | with_reducible apply Blk.drewN | with_reducible apply Blk.drew | (with_reducible apply Blk.over; first | (intro h; omega) | (simp; done) | (simp; omega)))) hB); (try simp only [List.setIfInBounds_toArray, List.set_cons_succ, List.set_cons_zero] at N0); (try clear HB); clear hB; have HB := HBn; clear HBn; have HZw1 := HB.size; have K0 := N0; clear N0; have k0 := Blk.cell K0.out; have f0 := Blk.free K0.out; have l0 := Blk.lt K0.out; have m0 := Nat.le_of_lt l0)
  go_wp2_with fail
  have z1 : w.heap.size ≠ w1.heap.size := Nat.ne_of_lt l0
  have z2 : w1.heap.size ≠ w.heap.size := z1.symm
  refine (hm _).mono ?_
  rintro e w2 ⟨rfl, hB⟩
  (have HBn : Below w.heap.size w w2 := Below.on hB (by repeat (first | assumption | exact Below.refl _ _ | refine Below.setCell ?_ (by first | exact Nat.le_refl _ | (simp; done) | omega | (simp; omega)) _ | refine Below.alloc ?_ (by first | exact Nat.le_refl _ | (simp; done) | omega | (simp; omega)) _ | refine below_drewN ?_ _ | refine Below.drew ?_ | refine Below.on (by assumption) ?_ | refine Below.via (by assumption) (by first | exact Nat.le_refl _ | (simp; done) | omega | (simp; omega)) ?_)); have N0 := Lib.hid (Blk.below (g := w.heap.size) (by repeat (first | with_reducible exact K0.out | with_reducible exact Blk.new0 _ _ _ | with_reducible exact Blk.new1 _ _ _ _ | with_reducible exact Blk.new2 _ _ _ _ _ | with_reducible exact Blk.new3 _ _ _ _ _ _ | with_reducible exact Blk.new4 _ _ _ _ _ _ _ | with_reducible apply Blk.set_ | with_reducible apply Blk.alloc | with_reducible apply Blk.drewN | with_reducible apply Blk.drew | (with_reducible apply Blk.over; first | (intro h; omega) | (simp; done) | (simp; omega)))) hB); (try simp only [List.setIfInBounds_toArray, List.set_cons_succ, List.set_cons_zero] at N0); have N1 := Lib.hid (Blk.below (g := w1.heap.size) (by repeat (first | with_reducible exact Blk.new0 _ _ _ | with_reducible exact Blk.new1 _ _ _ _ | with_reducible exact Blk.new2 _ _ _ _ _ | with_reducible exact Blk.new3 _ _ _ _ _ _ | with_reducible exact Blk.new4 _ _ _ _ _ _ _ | with_reducible apply Blk.set_ | with_reducible apply Blk.alloc | with_reducible apply Blk.drewN | with_reducible apply Blk.drew | (with_reducible apply Blk.over; first | (intro h; omega) | (simp; done) | (simp; omega)))) hB); (try simp only [List.setIfInBounds_toArray, List.set_cons_succ, List.set_cons_zero] at N1); clear K0 k0 f0 l0 m0; (try clear HB); clear hB; have HB := HBn; clear HBn; have HZw2 := HB.size; have K0 := N0; clear N0; have k0 := Blk.cell K0.out; have f0 := Blk.free K0.out; have l0 := Blk.lt K0.out; have m0 := Nat.le_of_lt l0; have K1 := N1; clear N1; have k1 := Blk.cell K1.out; have f1 := Blk.free K1.out; have l1 := Blk.lt K1.out; have m1 := Nat.le_of_lt l1)
  go_wp2_with fail
  (refine wp_region_later (by kernel_rfl) (by kernel_rfl) ?_; (repeat (go_big_quiet_step (fail))); refine wpQuiet_nil ?_; intro w' hB)
  (have HBn : Below w.heap.size w w' := Below.on hB (by repeat (first | assumption | exact Below.refl _ _ | refine Below.setCell ?_ (by first | exact Nat.le_refl _ | (simp; done) | omega | (simp; omega)) _ | refine Below.alloc ?_ (by first | exact Nat.le_refl _ | (simp; done) | omega | (simp; omega)) _ | refine below_drewN ?_ _ | refine Below.drew ?_ | refine Below.on (by assumption) ?_ | refine Below.via (by assumption) (by first | exact Nat.le_refl _ | (simp; done) | omega | (simp; omega)) ?_)); have N0 := Lib.hid (Blk.below (g := w.heap.size) (by repeat (first | with_reducible exact K0.out | with_reducible exact Blk.new0 _ _ _ | with_reducible exact Blk.new1 _ _ _ _ | with_reducible exact Blk.new2 _ _ _ _ _ | with_reducible exact Blk.new3 _ _ _ _ _ _ | with_reducible exact Blk.new4 _ _ _ _ _ _ _ | with_reducible apply Blk.set_ | with_reducible apply Blk.alloc | with_reducible apply Blk.drewN | with_reducible apply Blk.drew | (with_reducible apply Blk.over; first | (intro h; omega) | (simp; done) | (simp; omega)))) hB); (try simp only [List.setIfInBounds_toArray, List.set_cons_succ, List.set_cons_zero] at N0); have N1 := Lib.hid (Blk.below (g := w1.heap.size) (by repeat (first | with_reducible exact K1.out | with_reducible exact Blk.new0 _ _ _ | with_reducible exact Blk.new1 _ _ _ _ | with_reducible exact Blk.new2 _ _ _ _ _ | with_reducible exact Blk.new3 _ _ _ _ _ _ | with_reducible exact Blk.new4 _ _ _ _ _ _ _ | with_reducible apply Blk.set_ | with_reducible apply Blk.alloc | with_reducible apply Blk.drewN | with_reducible apply Blk.drew | (with_reducible apply Blk.over; first | (intro h; omega) | (simp; done) | (simp; omega)))) hB); (try simp only [List.setIfInBounds_toArray, List.set_cons_succ, List.set_cons_zero] at N1); clear K0 k0 f0 l0 m0 K1 k1 f1 l1 m1; (try clear HB); clear hB; have HB := HBn; clear HBn; have HZw' := HB.size; have K0 := N0; clear N0; have k0 := Blk.cell K0.out; have f0 := Blk.free K0.out; have l0 := Blk.lt K0.out; have m0 := Nat.le_of_lt l0; have K1 := N1; clear N1; have k1 := Blk.cell K1.out; have f1 := Blk.free K1.out; have l1 := Blk.lt K1.out; have m1 := Nat.le_of_lt l1)
  go_wp2_with fail
  exact bodyPost_ret (v := .tuple #[.agg #[.int .u64 0, .int .u64 0, .bool false], .int .i64 100]) (by simp (maxDischargeDepth := 9) [results, Tryd.results88, go_sem, vp, v2, *]) rfl ⟨rfl, (by repeat (first | assumption | exact Below.refl _ _ | refine Below.setCell ?_ (by first | exact Nat.le_refl _ | (simp; done) | omega | (simp; omega)) _ | refine Below.alloc ?_ (by first | exact Nat.le_refl _ | (simp; done) | omega | (simp; omega)) _ | refine below_drewN ?_ _ | refine Below.drew ?_ | refine Below.on (by assumption) ?_ | refine Below.via (by assumption) (by first | exact Nat.le_refl _ | (simp; done) | omega | (simp; omega)) ?_))⟩
set_option maxRecDepth 100000 in
set_option maxHeartbeats 2000000 in
theorem from_3_out (s : ByteArray) (a b c d : Int) (h : Five s 3 a b c d) (ha : 0 ≤ a ∧ a < 256) (hb : 0 ≤ b ∧ b < 256) (hc : 0 ≤ c ∧ c < 256) (hd : 0 ≤ d ∧ d < 256) (S : Int) (y : F)
    (hs : ∀ w, Calls Tryd.prog 121 #[.int .u64 (word4 a b c d)] w fun e w' => e = .returned (.int .u64 S) ∧ w = w')
    (hr : ∀ w, Calls Tryd.prog 111 #[.int .u64 S] w (Ret w (.tuple #[.int .u64 (vz y), .bool true])))
    (y' : F) (hm : ∀ w, Calls Tryd.prog 122 #[.agg #[.int .u64 (word4 a b c d), .int .u64 (vz y), .bool false]] w (Ret w (.agg #[.int .u64 (word4 a b c d), .int .u64 (vz y'), .bool false])))
    (hp : vz y' % 2 = 1) (hg : ∀ w, Calls Tryd.prog 123 #[.agg #[.int .u64 (word4 a b c d), .int .u64 (vz y'), .bool false]] w (Ret w (.bool false))) (w : World) :
    Calls Tryd.prog 88 #[.string s] w (Ret w (.tuple #[.agg #[.int .u64 0, .int .u64 0, .bool false], .int .i64 100])) := by
  have e1 := bits_and1 y'
  rw [hp] at e1
  have e2 : bits .and .u8 3 1 = 1 := by decide
  clear hp
  obtain ⟨hl, i0, i1, i2, i3, i4⟩ := h
  have hX := word4_up a b c d ha hb hc hd
  obtain ⟨a1, a2⟩ := ha
  obtain ⟨b1, b2⟩ := hb
  obtain ⟨c1, c2⟩ := hc
  obtain ⟨d1, d2⟩ := hd
  generalize word4 a b c d = X at *
  replace hX := Lib.hid hX
  go_enter Tryd.func88, Tryd.ntmps88
  go_wp2_with fail
  refine wp_loop_rounds 5 ?_
  iterate 5 (rw [rounds_succ]; go_wp2_with fail)
  rw [hX.out]
  refine (hs _).mono ?_
  rintro e w' ⟨rfl, rfl⟩
  go_wp2_with fail
  refine (hr _).mono ?_
  rintro e w1 ⟨rfl, hB⟩
  (have HBn : Below w.heap.size w w1 := Below.on hB (by repeat (first | assumption | exact Below.refl _ _ | refine Below.setCell ?_ (by first | exact Nat.le_refl _ | (simp; done) | omega | (simp; omega)) _ | refine Below.alloc ?_ (by first | exact Nat.le_refl _ | (simp; done) | omega | (simp; omega)) _ | refine below_drewN ?_ _ | refine Below.drew ?_ | refine Below.on (by assumption) ?_ | refine Below.via (by assumption) (by first | exact Nat.le_refl _ | (simp; done) | omega | (simp; omega)) ?_)); have N0 := Lib.hid (Blk.below (g := w.heap.size) (by repeat (first | with_reducible exact Blk.new0 _ _ _ | with_reducible exact Blk.new1 _ _ _ _ | with_reducible exact Blk.new2 _ _ _ _ _ | with_reducible exact Blk.new3 _ _ _ _ _ _ | with_reducible exact Blk.new4 _ _ _ _ _ _ _ | with_reducible apply Blk.set_ | with_reducible apply Blk.alloc | with_reducible apply Blk.drewN | with_reducible apply Blk.drew | (with_reducible apply Blk.over; first | (intro h; omega) | (simp; done) | (simp; omega)))) hB); (try simp only [List.setIfInBounds_toArray, List.set_cons_succ, List.set_cons_zero] at N0); (try clear HB); clear hB; have HB := HBn; clear HBn; have HZw1 := HB.size; have K0 := N0; clear N0; have k0 := Blk.cell K0.out; have f0 := Blk.free K0.out; have l0 := Blk.lt K0.out; have m0 := Nat.le_of_lt l0)
  go_wp2_with fail
  have z1 : w.heap.size ≠ w1.heap.size := Nat.ne_of_lt l0
  have z2 : w1.heap.size ≠ w.heap.size := z1.symm
  refine (hm _).mono ?_
  rintro e w2 ⟨rfl, hB⟩
  (have HBn : Below w.heap.size w w2 := Below.on hB (by repeat (first | assumption | exact Below.refl _ _ | refine Below.setCell ?_ (by first | exact Nat.le_refl _ | (simp; done) | omega | (simp; omega)) _ | refine Below.alloc ?_ (by first | exact Nat.le_refl _ | (simp; done) | omega | (simp; omega)) _ | refine below_drewN ?_ _ | refine Below.drew ?_ | refine Below.on (by assumption) ?_ | refine Below.via (by assumption) (by first | exact Nat.le_refl _ | (simp; done) | omega | (simp; omega)) ?_)); have N0 := Lib.hid (Blk.below (g := w.heap.size) (by repeat (first | with_reducible exact K0.out | with_reducible exact Blk.new0 _ _ _ | with_reducible exact Blk.new1 _ _ _ _ | with_reducible exact Blk.new2 _ _ _ _ _ | with_reducible exact Blk.new3 _ _ _ _ _ _ | with_reducible exact Blk.new4 _ _ _ _ _ _ _ | with_reducible apply Blk.set_ | with_reducible apply Blk.alloc | with_reducible apply Blk.drewN | with_reducible apply Blk.drew | (with_reducible apply Blk.over; first | (intro h; omega) | (simp; done) | (simp; omega)))) hB); (try simp only [List.setIfInBounds_toArray, List.set_cons_succ, List.set_cons_zero] at N0); have N1 := Lib.hid (Blk.below (g := w1.heap.size) (by repeat (first | with_reducible exact Blk.new0 _ _ _ | with_reducible exact Blk.new1 _ _ _ _ | with_reducible exact Blk.new2 _ _ _ _ _ | with_reducible exact Blk.new3 _ _ _ _ _ _ | with_reducible exact Blk.new4 _ _ _ _ _ _ _ | with_reducible apply Blk.set_ | with_reducible apply Blk.alloc | with_reducible apply Blk.drewN | with_reducible apply Blk.drew | (with_reducible apply Blk.over; first | (intro h; omega) | (simp; done) | (simp; omega)))) hB); (try simp only [List.setIfInBounds_toArray, List.set_cons_succ, List.set_cons_zero] at N1); clear K0 k0 f0 l0 m0; (try clear HB); clear hB; have HB := HBn; clear HBn; have HZw2 := HB.size; have K0 := N0; clear N0; have k0 := Blk.cell K0.out; have f0 := Blk.free K0.out; have l0 := Blk.lt K0.out; have m0 := Nat.le_of_lt l0; have K1 := N1; clear N1; have k1 := Blk.cell K1.out; have f1 := Blk.free K1.out; have l1 := Blk.lt K1.out; have m1 := Nat.le_of_lt l1)
  go_wp2_with fail
  (refine wp_region_later (by kernel_rfl) (by kernel_rfl) ?_; (repeat (go_big_quiet_step ((go_at_call 123; exact lq (hg _))))); refine wpQuiet_nil ?_; intro w' hB)
  (have HBn : Below w.heap.size w w' := Below.on hB (by repeat (first | assumption | exact Below.refl _ _ | refine Below.setCell ?_ (by first | exact Nat.le_refl _ | (simp; done) | omega | (simp; omega)) _ | refine Below.alloc ?_ (by first | exact Nat.le_refl _ | (simp; done) | omega | (simp; omega)) _ | refine below_drewN ?_ _ | refine Below.drew ?_ | refine Below.on (by assumption) ?_ | refine Below.via (by assumption) (by first | exact Nat.le_refl _ | (simp; done) | omega | (simp; omega)) ?_)); have N0 := Lib.hid (Blk.below (g := w.heap.size) (by repeat (first | with_reducible exact K0.out | with_reducible exact Blk.new0 _ _ _ | with_reducible exact Blk.new1 _ _ _ _ | with_reducible exact Blk.new2 _ _ _ _ _ | with_reducible exact Blk.new3 _ _ _ _ _ _ | with_reducible exact Blk.new4 _ _ _ _ _ _ _ | with_reducible apply Blk.set_ | with_reducible apply Blk.alloc | with_reducible apply Blk.drewN | with_reducible apply Blk.drew | (with_reducible apply Blk.over; first | (intro h; omega) | (simp; done) | (simp; omega)))) hB); (try simp only [List.setIfInBounds_toArray, List.set_cons_succ, List.set_cons_zero] at N0); have N1 := Lib.hid (Blk.below (g := w1.heap.size) (by repeat (first | with_reducible exact K1.out | with_reducible exact Blk.new0 _ _ _ | with_reducible exact Blk.new1 _ _ _ _ | with_reducible exact Blk.new2 _ _ _ _ _ | with_reducible exact Blk.new3 _ _ _ _ _ _ | with_reducible exact Blk.new4 _ _ _ _ _ _ _ | with_reducible apply Blk.set_ | with_reducible apply Blk.alloc | with_reducible apply Blk.drewN | with_reducible apply Blk.drew | (with_reducible apply Blk.over; first | (intro h; omega) | (simp; done) | (simp; omega)))) hB); (try simp only [List.setIfInBounds_toArray, List.set_cons_succ, List.set_cons_zero] at N1); clear K0 k0 f0 l0 m0 K1 k1 f1 l1 m1; (try clear HB); clear hB; have HB := HBn; clear HBn; have HZw' := HB.size; have K0 := N0; clear N0; have k0 := Blk.cell K0.out; have f0 := Blk.free K0.out; have l0 := Blk.lt K0.out; have m0 := Nat.le_of_lt l0; have K1 := N1; clear N1; have k1 := Blk.cell K1.out; have f1 := Blk.free K1.out; have l1 := Blk.lt K1.out; have m1 := Nat.le_of_lt l1)
  go_wp2_with fail
  exact bodyPost_ret (v := .tuple #[.agg #[.int .u64 0, .int .u64 0, .bool false], .int .i64 100]) (by simp (maxDischargeDepth := 9) [results, Tryd.results88, go_sem, vp, v2, *]) rfl ⟨rfl, (by repeat (first | assumption | exact Below.refl _ _ | refine Below.setCell ?_ (by first | exact Nat.le_refl _ | (simp; done) | omega | (simp; omega)) _ | refine Below.alloc ?_ (by first | exact Nat.le_refl _ | (simp; done) | omega | (simp; omega)) _ | refine below_drewN ?_ _ | refine Below.drew ?_ | refine Below.on (by assumption) ?_ | refine Below.via (by assumption) (by first | exact Nat.le_refl _ | (simp; done) | omega | (simp; omega)) ?_))⟩
set_option maxRecDepth 100000 in
set_option maxHeartbeats 2000000 in
theorem from_3 (s : ByteArray) (a b c d : Int) (h : Five s 3 a b c d) (ha : 0 ≤ a ∧ a < 256) (hb : 0 ≤ b ∧ b < 256) (hc : 0 ≤ c ∧ c < 256) (hd : 0 ≤ d ∧ d < 256) (S : Int) (y : F)
    (hs : ∀ w, Calls Tryd.prog 121 #[.int .u64 (word4 a b c d)] w fun e w' => e = .returned (.int .u64 S) ∧ w = w')
    (hr : ∀ w, Calls Tryd.prog 111 #[.int .u64 S] w (Ret w (.tuple #[.int .u64 (vz y), .bool true])))
    (y' : F) (hm : ∀ w, Calls Tryd.prog 122 #[.agg #[.int .u64 (word4 a b c d), .int .u64 (vz y), .bool false]] w (Ret w (.agg #[.int .u64 (word4 a b c d), .int .u64 (vz y'), .bool false])))
    (hp : vz y' % 2 = 1) (hg : ∀ w, Calls Tryd.prog 123 #[.agg #[.int .u64 (word4 a b c d), .int .u64 (vz y'), .bool false]] w (Ret w (.bool true))) (w : World) :
    Calls Tryd.prog 88 #[.string s] w (Ret w (.tuple #[.agg #[.int .u64 (word4 a b c d), .int .u64 (vz y'), .bool false], .int .i64 0])) := by
  have e1 := bits_and1 y'
  rw [hp] at e1
  have e2 : bits .and .u8 3 1 = 1 := by decide
  clear hp
  obtain ⟨hl, i0, i1, i2, i3, i4⟩ := h
  have hX := word4_up a b c d ha hb hc hd
  obtain ⟨a1, a2⟩ := ha
  obtain ⟨b1, b2⟩ := hb
  obtain ⟨c1, c2⟩ := hc
  obtain ⟨d1, d2⟩ := hd
  generalize word4 a b c d = X at *
  replace hX := Lib.hid hX
  go_enter Tryd.func88, Tryd.ntmps88
  go_wp2_with fail
  refine wp_loop_rounds 5 ?_
  iterate 5 (rw [rounds_succ]; go_wp2_with fail)
  rw [hX.out]
  refine (hs _).mono ?_
  rintro e w' ⟨rfl, rfl⟩
  go_wp2_with fail
  refine (hr _).mono ?_
  rintro e w1 ⟨rfl, hB⟩
  (have HBn : Below w.heap.size w w1 := Below.on hB (by repeat (first | assumption | exact Below.refl _ _ | refine Below.setCell ?_ (by first | exact Nat.le_refl _ | (simp; done) | omega | (simp; omega)) _ | refine Below.alloc ?_ (by first | exact Nat.le_refl _ | (simp; done) | omega | (simp; omega)) _ | refine below_drewN ?_ _ | refine Below.drew ?_ | refine Below.on (by assumption) ?_ | refine Below.via (by assumption) (by first | exact Nat.le_refl _ | (simp; done) | omega | (simp; omega)) ?_)); have N0 := Lib.hid (Blk.below (g := w.heap.size) (by repeat (first | with_reducible exact Blk.new0 _ _ _ | with_reducible exact Blk.new1 _ _ _ _ | with_reducible exact Blk.new2 _ _ _ _ _ | with_reducible exact Blk.new3 _ _ _ _ _ _ | with_reducible exact Blk.new4 _ _ _ _ _ _ _ | with_reducible apply Blk.set_ | with_reducible apply Blk.alloc | with_reducible apply Blk.drewN | with_reducible apply Blk.drew | (with_reducible apply Blk.over; first | (intro h; omega) | (simp; done) | (simp; omega)))) hB); (try simp only [List.setIfInBounds_toArray, List.set_cons_succ, List.set_cons_zero] at N0); (try clear HB); clear hB; have HB := HBn; clear HBn; have HZw1 := HB.size; have K0 := N0; clear N0; have k0 := Blk.cell K0.out; have f0 := Blk.free K0.out; have l0 := Blk.lt K0.out; have m0 := Nat.le_of_lt l0)
  go_wp2_with fail
  have z1 : w.heap.size ≠ w1.heap.size := Nat.ne_of_lt l0
  have z2 : w1.heap.size ≠ w.heap.size := z1.symm
  refine (hm _).mono ?_
  rintro e w2 ⟨rfl, hB⟩
  (have HBn : Below w.heap.size w w2 := Below.on hB (by repeat (first | assumption | exact Below.refl _ _ | refine Below.setCell ?_ (by first | exact Nat.le_refl _ | (simp; done) | omega | (simp; omega)) _ | refine Below.alloc ?_ (by first | exact Nat.le_refl _ | (simp; done) | omega | (simp; omega)) _ | refine below_drewN ?_ _ | refine Below.drew ?_ | refine Below.on (by assumption) ?_ | refine Below.via (by assumption) (by first | exact Nat.le_refl _ | (simp; done) | omega | (simp; omega)) ?_)); have N0 := Lib.hid (Blk.below (g := w.heap.size) (by repeat (first | with_reducible exact K0.out | with_reducible exact Blk.new0 _ _ _ | with_reducible exact Blk.new1 _ _ _ _ | with_reducible exact Blk.new2 _ _ _ _ _ | with_reducible exact Blk.new3 _ _ _ _ _ _ | with_reducible exact Blk.new4 _ _ _ _ _ _ _ | with_reducible apply Blk.set_ | with_reducible apply Blk.alloc | with_reducible apply Blk.drewN | with_reducible apply Blk.drew | (with_reducible apply Blk.over; first | (intro h; omega) | (simp; done) | (simp; omega)))) hB); (try simp only [List.setIfInBounds_toArray, List.set_cons_succ, List.set_cons_zero] at N0); have N1 := Lib.hid (Blk.below (g := w1.heap.size) (by repeat (first | with_reducible exact Blk.new0 _ _ _ | with_reducible exact Blk.new1 _ _ _ _ | with_reducible exact Blk.new2 _ _ _ _ _ | with_reducible exact Blk.new3 _ _ _ _ _ _ | with_reducible exact Blk.new4 _ _ _ _ _ _ _ | with_reducible apply Blk.set_ | with_reducible apply Blk.alloc | with_reducible apply Blk.drewN | with_reducible apply Blk.drew | (with_reducible apply Blk.over; first | (intro h; omega) | (simp; done) | (simp; omega)))) hB); (try simp only [List.setIfInBounds_toArray, List.set_cons_succ, List.set_cons_zero] at N1); clear K0 k0 f0 l0 m0; (try clear HB); clear hB; have HB := HBn; clear HBn; have HZw2 := HB.size; have K0 := N0; clear N0; have k0 := Blk.cell K0.out; have f0 := Blk.free K0.out; have l0 := Blk.lt K0.out; have m0 := Nat.le_of_lt l0; have K1 := N1; clear N1; have k1 := Blk.cell K1.out; have f1 := Blk.free K1.out; have l1 := Blk.lt K1.out; have m1 := Nat.le_of_lt l1)
  go_wp2_with fail
  (refine wp_region_later (by kernel_rfl) (by kernel_rfl) ?_; (repeat (go_big_quiet_step ((go_at_call 123; exact lq (hg _))))); refine wpQuiet_nil ?_; intro w' hB)
  (have HBn : Below w.heap.size w w' := Below.on hB (by repeat (first | assumption | exact Below.refl _ _ | refine Below.setCell ?_ (by first | exact Nat.le_refl _ | (simp; done) | omega | (simp; omega)) _ | refine Below.alloc ?_ (by first | exact Nat.le_refl _ | (simp; done) | omega | (simp; omega)) _ | refine below_drewN ?_ _ | refine Below.drew ?_ | refine Below.on (by assumption) ?_ | refine Below.via (by assumption) (by first | exact Nat.le_refl _ | (simp; done) | omega | (simp; omega)) ?_)); have N0 := Lib.hid (Blk.below (g := w.heap.size) (by repeat (first | with_reducible exact K0.out | with_reducible exact Blk.new0 _ _ _ | with_reducible exact Blk.new1 _ _ _ _ | with_reducible exact Blk.new2 _ _ _ _ _ | with_reducible exact Blk.new3 _ _ _ _ _ _ | with_reducible exact Blk.new4 _ _ _ _ _ _ _ | with_reducible apply Blk.set_ | with_reducible apply Blk.alloc | with_reducible apply Blk.drewN | with_reducible apply Blk.drew | (with_reducible apply Blk.over; first | (intro h; omega) | (simp; done) | (simp; omega)))) hB); (try simp only [List.setIfInBounds_toArray, List.set_cons_succ, List.set_cons_zero] at N0); have N1 := Lib.hid (Blk.below (g := w1.heap.size) (by repeat (first | with_reducible exact K1.out | with_reducible exact Blk.new0 _ _ _ | with_reducible exact Blk.new1 _ _ _ _ | with_reducible exact Blk.new2 _ _ _ _ _ | with_reducible exact Blk.new3 _ _ _ _ _ _ | with_reducible exact Blk.new4 _ _ _ _ _ _ _ | with_reducible apply Blk.set_ | with_reducible apply Blk.alloc | with_reducible apply Blk.drewN | with_reducible apply Blk.drew | (with_reducible apply Blk.over; first | (intro h; omega) | (simp; done) | (simp; omega)))) hB); (try simp only [List.setIfInBounds_toArray, List.set_cons_succ, List.set_cons_zero] at N1); clear K0 k0 f0 l0 m0 K1 k1 f1 l1 m1; (try clear HB); clear hB; have HB := HBn; clear HBn; have HZw' := HB.size; have K0 := N0; clear N0; have k0 := Blk.cell K0.out; have f0 := Blk.free K0.out; have l0 := Blk.lt K0.out; have m0 := Nat.le_of_lt l0; have K1 := N1; clear N1; have k1 := Blk.cell K1.out; have f1 := Blk.free K1.out; have l1 := Blk.lt K1.out; have m1 := Nat.le_of_lt l1)
  go_wp2_with fail
  exact bodyPost_ret (v := .tuple #[.agg #[.int .u64 X, .int .u64 (vz y'), .bool false], .int .i64 0]) (by simp (maxDischargeDepth := 9) [results, Tryd.results88, go_sem, vp, v2, *]) rfl ⟨rfl, (by repeat (first | assumption | exact Below.refl _ _ | refine Below.setCell ?_ (by first | exact Nat.le_refl _ | (simp; done) | omega | (simp; omega)) _ | refine Below.alloc ?_ (by first | exact Nat.le_refl _ | (simp; done) | omega | (simp; omega)) _ | refine below_drewN ?_ _ | refine Below.drew ?_ | refine Below.on (by assumption) ?_ | refine Below.via (by assumption) (by first | exact Nat.le_refl _ | (simp; done) | omega | (simp; omega)) ?_))⟩
end Go.Proofs.YtpmmjomejackkaaDoor
end
