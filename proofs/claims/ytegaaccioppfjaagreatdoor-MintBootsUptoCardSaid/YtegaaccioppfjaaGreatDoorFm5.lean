/- Plain laws and walks, each by its own conditions. -/
import Derived.Test.YtegaaccioppfjaaGreatDoorFm4
set_option linter.unusedSimpArgs false
set_option linter.unusedVariables false
set_option maxRecDepth 100000
set_option maxHeartbeats 16000000
section
namespace Go.Proofs.YtegaaccioppfjaaGreatDoor
open BigFrame Go.RowKit Go.Phx Go.Shelf
attribute [local go_sem] Oper.semAt_some fldInf

def Five (s : ByteArray) (t a b c d : Int) : Prop := ((s.size : Int) != 5) = false ∧
 (∀ w, (Instr.index 9 (.string s) (.int .i64 0)).run Tryz.prog w = .ok (.int .u8 t) w) ∧ (∀ w, (Instr.index 9 (.string s) (.int .i64 1)).run Tryz.prog w = .ok (.int .u8 a) w) ∧
 (∀ w, (Instr.index 9 (.string s) (.int .i64 2)).run Tryz.prog w = .ok (.int .u8 b) w) ∧ (∀ w, (Instr.index 9 (.string s) (.int .i64 3)).run Tryz.prog w = .ok (.int .u8 c) w) ∧
 (∀ w, (Instr.index 9 (.string s) (.int .i64 4)).run Tryz.prog w = .ok (.int .u8 d) w)
theorem five_of (t a b c d : UInt8) : Five ⟨#[t, a, b, c, d]⟩ t.toNat a.toNat b.toNat c.toNat d.toNat :=
 ⟨rfl, fun _ => by kernel_rfl, fun _ => by kernel_rfl, fun _ => by kernel_rfl, fun _ => by kernel_rfl, fun _ => by kernel_rfl⟩

def word4 (a b c d : Int) : Int := a * 16777216 + b * 65536 + c * 256 + d
theorem or_low (x b : Int) (h0 : 0 ≤ x) (h1 : x < 16777216) (h2 : 0 ≤ b) (h3 : b < 256) : bits .or .u64 (IntKind.u64.wrap (x * 256)) b = x * 256 + b := by
 have e : IntKind.u64.wrap (x * 256) = x * 256 := by
  simp [IntKind.wrap, IntKind.bits, IntKind.signed]
  omega
 rw [e, u64_or (x * 256) b (by omega) (by omega) h2 (by omega)]
 rw [nat_join 8 (x * 256).toNat b.toNat (by omega) (by show b.toNat < 256; omega)]
 omega
theorem or_zero (b : Int) (h2 : 0 ≤ b) (h3 : b < 256) : bits .or .u64 0 b = b := by
 rw [u64_or 0 b (by decide) (by decide) h2 (by omega)]
 simp
 omega
theorem word4_up (a b c d : Int) (ha : 0 ≤ a ∧ a < 256) (hb : 0 ≤ b ∧ b < 256) (hc : 0 ≤ c ∧ c < 256) (hd : 0 ≤ d ∧ d < 256) :
  bits .or .u64 (IntKind.u64.wrap (bits .or .u64 (IntKind.u64.wrap (bits .or .u64 (IntKind.u64.wrap (bits .or .u64 0 a * 256)) b * 256)) c * 256)) d = word4 a b c d := by
 rw [or_zero a ha.1 ha.2, or_low a b ha.1 (by omega) hb.1 hb.2, or_low _ c (by omega) (by omega) hc.1 hc.2, or_low _ d (by omega) (by omega) hd.1 hd.2]
 unfold word4
 omega
theorem word4_bd (a b c d : Int) (ha : 0 ≤ a ∧ a < 256) (hb : 0 ≤ b ∧ b < 256) (hc : 0 ≤ c ∧ c < 256) (hd : 0 ≤ d ∧ d < 256) : 0 ≤ word4 a b c d ∧ word4 a b c d < 4294967296 := by
 unfold word4
 omega

theorem from_len (s : ByteArray) (hl : ((s.size : Int) != 5) = true) (w : World) :
  Calls Tryz.prog 152 #[.string s] w (Ret w (.tuple #[.agg #[.int .u64 0, .int .u64 0, .bool false], .int .i64 100])) := by
 go_enter Tryz.func152, Tryz.ntmps152
 go_wp2_with fail
 have HB : Below w.heap.size w (w.alloc (.cells #[.int .u64 0, .int .u64 0, .bool false] 96)) := bel
 exact bodyPost_ret (v := .tuple #[.agg #[.int .u64 0, .int .u64 0, .bool false], .int .i64 100]) (by simp (maxDischargeDepth := 9) [results, Tryz.results152, go_sem, vp, v2, *]) rfl ⟨rfl, bel⟩
theorem from_t1 (s : ByteArray) (hl : ((s.size : Int) != 5) = false) (i0 : ∀ w, (Instr.index 9 (.string s) (.int .i64 0)).run Tryz.prog w = .ok (.int .u8 1) w) (w : World) :
  Calls Tryz.prog 152 #[.string s] w (Ret w (.tuple #[.agg #[.int .u64 0, .int .u64 0, .bool false], .int .i64 100])) := by
 go_enter Tryz.func152, Tryz.ntmps152
 go_wp2_with fail
 have HB : Below w.heap.size w (w.alloc (.cells #[.int .u64 0, .int .u64 0, .bool false] 96)) := bel
 exact bodyPost_ret (v := .tuple #[.agg #[.int .u64 0, .int .u64 0, .bool false], .int .i64 100]) (by simp (maxDischargeDepth := 9) [results, Tryz.results152, go_sem, vp, v2, *]) rfl ⟨rfl, bel⟩
theorem from_gt (s : ByteArray) (t : Int) (hl : ((s.size : Int) != 5) = false) (i0 : ∀ w, (Instr.index 9 (.string s) (.int .i64 0)).run Tryz.prog w = .ok (.int .u8 t) w) (h1 : (t == 1) = false) (h3 : decide (3 < t) = true) (w : World) :
  Calls Tryz.prog 152 #[.string s] w (Ret w (.tuple #[.agg #[.int .u64 0, .int .u64 0, .bool false], .int .i64 100])) := by
 go_enter Tryz.func152, Tryz.ntmps152
 go_wp2_with fail
 have HB : Below w.heap.size w (w.alloc (.cells #[.int .u64 0, .int .u64 0, .bool false] 96)) := bel
 exact bodyPost_ret (v := .tuple #[.agg #[.int .u64 0, .int .u64 0, .bool false], .int .i64 100]) (by simp (maxDischargeDepth := 9) [results, Tryz.results152, go_sem, vp, v2, *]) rfl ⟨rfl, bel⟩
theorem from_0 (s : ByteArray) (a b c d : Int) (h : Five s 0 a b c d) (ha : 0 ≤ a ∧ a < 256) (hb : 0 ≤ b ∧ b < 256) (hc : 0 ≤ c ∧ c < 256) (hd : 0 ≤ d ∧ d < 256) (h0 : (word4 a b c d == 0) = true) (w : World) :
  Calls Tryz.prog 152 #[.string s] w (Ret w (.tuple #[vp none, .int .i64 0])) := by
 have n1 := none_x
 have hX' := word4_up a b c d ha hb hc hd
 rw [beq_iff_eq.1 h0] at hX'
 clear h0
 obtain ⟨hl, i0, i1, i2, i3, i4⟩ := h
 obtain ⟨a1, a2⟩ := ha
 obtain ⟨b1, b2⟩ := hb
 obtain ⟨c1, c2⟩ := hc
 obtain ⟨d1, d2⟩ := hd
 go_enter Tryz.func152, Tryz.ntmps152
 go_wp2_with fail
 refine wp_loop_rounds 5 ?_
 iterate 5 (rw [rounds_succ]; go_wp2_with fail)
 refine (n1 _).mono ?_
 rintro e w1 ⟨rfl, hB⟩
 (replace HB : Below w.heap.size w w1 := Below.on hB bel; replace K0 := hb_ (g := w.heap.size) blI hB; (try simp only [sB, sC, sD] at K0); clear hB; have HZw1 := HB.size; obtain ⟨k0, f0, l0, m0⟩ := rl_ K0)
 go_wp2_with fail
 exact bodyPost_ret (v := .tuple #[vp none, .int .i64 0]) (by simp (maxDischargeDepth := 9) [results, Tryz.results152, go_sem, vp, v2, *]) rfl ⟨rfl, bel⟩
theorem from_0_false (s : ByteArray) (a b c d : Int) (h : Five s 0 a b c d) (ha : 0 ≤ a ∧ a < 256) (hb : 0 ≤ b ∧ b < 256) (hc : 0 ≤ c ∧ c < 256) (hd : 0 ≤ d ∧ d < 256) (S : Int) (y : F)
  (hs : ∀ w, Calls Tryz.prog 193 #[.int .u64 (word4 a b c d)] w fun e w' => e = .returned (.int .u64 S) ∧ w = w')
  (hr : ∀ w, Calls Tryz.prog 192 #[.int .u64 S] w (Ret w (.tuple #[.int .u64 (vz y), .bool false])))
  (h0 : (word4 a b c d == 0) = false) (hp : vz y % 2 = 0) (w : World) :
  Calls Tryz.prog 152 #[.string s] w (Ret w (.tuple #[.agg #[.int .u64 0, .int .u64 0, .bool false], .int .i64 100])) := by
 have e1 := bits_and1 y
 rw [hp] at e1
 have e2 : bits .and .u8 0 1 = 0 := by decide
 have hX' : (bits .or .u64 (IntKind.u64.wrap (bits .or .u64 (IntKind.u64.wrap (bits .or .u64 (IntKind.u64.wrap (bits .or .u64 0 a * 256)) b * 256)) c * 256)) d == 0) = false := by rw [word4_up a b c d ha hb hc hd]; exact h0
 clear hp h0
 obtain ⟨hl, i0, i1, i2, i3, i4⟩ := h
 have hX := word4_up a b c d ha hb hc hd
 obtain ⟨a1, a2⟩ := ha
 obtain ⟨b1, b2⟩ := hb
 obtain ⟨c1, c2⟩ := hc
 obtain ⟨d1, d2⟩ := hd
 generalize word4 a b c d = X at *
 replace hX := Lib.hid hX
 go_enter Tryz.func152, Tryz.ntmps152
 go_wp2_with fail
 refine wp_loop_rounds 5 ?_
 iterate 5 (rw [rounds_succ]; go_wp2_with fail)
 rw [hX.out]
 refine (hs _).mono ?_
 rintro e w' ⟨rfl, rfl⟩
 go_wp2_with fail
 refine (hr _).mono ?_
 rintro e w1 ⟨rfl, hB⟩
 (replace HB : Below w.heap.size w w1 := Below.on hB bel; replace K0 := hb_ (g := w.heap.size) blI hB; (try simp only [sB, sC, sD] at K0); clear hB; have HZw1 := HB.size; obtain ⟨k0, f0, l0, m0⟩ := rl_ K0)
 go_wp2_with fail
 (refine wp_region_later (by kernel_rfl) (by kernel_rfl) ?_; (repeat (go_big_quiet_step (fail))); refine wpQuiet_nil ?_; intro w' hB)
 (replace HB : Below w.heap.size w w' := Below.on hB bel; replace K0 := hkI K0.out hB; replace K1 := hb_ (g := w1.heap.size) blI hB; (try simp only [sB, sC, sD] at K0 K1); clear k0 f0 l0 m0 hB; have HZw' := HB.size; obtain ⟨k0, f0, l0, m0⟩ := rl_ K0; obtain ⟨k1, f1, l1, m1⟩ := rl_ K1)
 go_wp2_with fail
 exact bodyPost_ret (v := .tuple #[.agg #[.int .u64 0, .int .u64 0, .bool false], .int .i64 100]) (by simp (maxDischargeDepth := 9) [results, Tryz.results152, go_sem, vp, v2, *]) rfl ⟨rfl, bel⟩
theorem from_0_true (s : ByteArray) (a b c d : Int) (h : Five s 0 a b c d) (ha : 0 ≤ a ∧ a < 256) (hb : 0 ≤ b ∧ b < 256) (hc : 0 ≤ c ∧ c < 256) (hd : 0 ≤ d ∧ d < 256) (S : Int) (y : F)
  (hs : ∀ w, Calls Tryz.prog 193 #[.int .u64 (word4 a b c d)] w fun e w' => e = .returned (.int .u64 S) ∧ w = w')
  (hr : ∀ w, Calls Tryz.prog 192 #[.int .u64 S] w (Ret w (.tuple #[.int .u64 (vz y), .bool true])))
  (h0 : (word4 a b c d == 0) = false) (hp : vz y % 2 = 0) (w : World) :
  Calls Tryz.prog 152 #[.string s] w (Ret w (.tuple #[.agg #[.int .u64 0, .int .u64 0, .bool false], .int .i64 100])) := by
 have e1 := bits_and1 y
 rw [hp] at e1
 have e2 : bits .and .u8 0 1 = 0 := by decide
 have hX' : (bits .or .u64 (IntKind.u64.wrap (bits .or .u64 (IntKind.u64.wrap (bits .or .u64 (IntKind.u64.wrap (bits .or .u64 0 a * 256)) b * 256)) c * 256)) d == 0) = false := by rw [word4_up a b c d ha hb hc hd]; exact h0
 clear hp h0
 obtain ⟨hl, i0, i1, i2, i3, i4⟩ := h
 have hX := word4_up a b c d ha hb hc hd
 obtain ⟨a1, a2⟩ := ha
 obtain ⟨b1, b2⟩ := hb
 obtain ⟨c1, c2⟩ := hc
 obtain ⟨d1, d2⟩ := hd
 generalize word4 a b c d = X at *
 replace hX := Lib.hid hX
 go_enter Tryz.func152, Tryz.ntmps152
 go_wp2_with fail
 refine wp_loop_rounds 5 ?_
 iterate 5 (rw [rounds_succ]; go_wp2_with fail)
 rw [hX.out]
 refine (hs _).mono ?_
 rintro e w' ⟨rfl, rfl⟩
 go_wp2_with fail
 refine (hr _).mono ?_
 rintro e w1 ⟨rfl, hB⟩
 (replace HB : Below w.heap.size w w1 := Below.on hB bel; replace K0 := hb_ (g := w.heap.size) blI hB; (try simp only [sB, sC, sD] at K0); clear hB; have HZw1 := HB.size; obtain ⟨k0, f0, l0, m0⟩ := rl_ K0)
 go_wp2_with fail
 (refine wp_region_later (by kernel_rfl) (by kernel_rfl) ?_; (repeat (go_big_quiet_step (fail))); refine wpQuiet_nil ?_; intro w' hB)
 (replace HB : Below w.heap.size w w' := Below.on hB bel; replace K0 := hkI K0.out hB; replace K1 := hb_ (g := w1.heap.size) blI hB; (try simp only [sB, sC, sD] at K0 K1); clear k0 f0 l0 m0 hB; have HZw' := HB.size; obtain ⟨k0, f0, l0, m0⟩ := rl_ K0; obtain ⟨k1, f1, l1, m1⟩ := rl_ K1)
 go_wp2_with fail
 exact bodyPost_ret (v := .tuple #[.agg #[.int .u64 0, .int .u64 0, .bool false], .int .i64 100]) (by simp (maxDischargeDepth := 9) [results, Tryz.results152, go_sem, vp, v2, *]) rfl ⟨rfl, bel⟩
theorem from_2_no (s : ByteArray) (a b c d : Int) (h : Five s 2 a b c d) (ha : 0 ≤ a ∧ a < 256) (hb : 0 ≤ b ∧ b < 256) (hc : 0 ≤ c ∧ c < 256) (hd : 0 ≤ d ∧ d < 256) (S : Int) (y : F)
  (hs : ∀ w, Calls Tryz.prog 193 #[.int .u64 (word4 a b c d)] w fun e w' => e = .returned (.int .u64 S) ∧ w = w')
  (hr : ∀ w, Calls Tryz.prog 192 #[.int .u64 S] w (Ret w (.tuple #[.int .u64 (vz y), .bool false])))
  (w : World) :
  Calls Tryz.prog 152 #[.string s] w (Ret w (.tuple #[.agg #[.int .u64 0, .int .u64 0, .bool false], .int .i64 100])) := by
 obtain ⟨hl, i0, i1, i2, i3, i4⟩ := h
 have hX := word4_up a b c d ha hb hc hd
 obtain ⟨a1, a2⟩ := ha
 obtain ⟨b1, b2⟩ := hb
 obtain ⟨c1, c2⟩ := hc
 obtain ⟨d1, d2⟩ := hd
 generalize word4 a b c d = X at *
 replace hX := Lib.hid hX
 go_enter Tryz.func152, Tryz.ntmps152
 go_wp2_with fail
 refine wp_loop_rounds 5 ?_
 iterate 5 (rw [rounds_succ]; go_wp2_with fail)
 rw [hX.out]
 refine (hs _).mono ?_
 rintro e w' ⟨rfl, rfl⟩
 go_wp2_with fail
 refine (hr _).mono ?_
 rintro e w1 ⟨rfl, hB⟩
 (replace HB : Below w.heap.size w w1 := Below.on hB bel; replace K0 := hb_ (g := w.heap.size) blI hB; (try simp only [sB, sC, sD] at K0); clear hB; have HZw1 := HB.size; obtain ⟨k0, f0, l0, m0⟩ := rl_ K0)
 go_wp2_with fail
 (refine wp_region_later (by kernel_rfl) (by kernel_rfl) ?_; (repeat (go_big_quiet_step (fail))); refine wpQuiet_nil ?_; intro w' hB)
 (replace HB : Below w.heap.size w w' := Below.on hB bel; replace K0 := hkI K0.out hB; replace K1 := hb_ (g := w1.heap.size) blI hB; (try simp only [sB, sC, sD] at K0 K1); clear k0 f0 l0 m0 hB; have HZw' := HB.size; obtain ⟨k0, f0, l0, m0⟩ := rl_ K0; obtain ⟨k1, f1, l1, m1⟩ := rl_ K1)
 go_wp2_with fail
 exact bodyPost_ret (v := .tuple #[.agg #[.int .u64 0, .int .u64 0, .bool false], .int .i64 100]) (by simp (maxDischargeDepth := 9) [results, Tryz.results152, go_sem, vp, v2, *]) rfl ⟨rfl, bel⟩
theorem from_2_out (s : ByteArray) (a b c d : Int) (h : Five s 2 a b c d) (ha : 0 ≤ a ∧ a < 256) (hb : 0 ≤ b ∧ b < 256) (hc : 0 ≤ c ∧ c < 256) (hd : 0 ≤ d ∧ d < 256) (S : Int) (y : F)
  (hs : ∀ w, Calls Tryz.prog 193 #[.int .u64 (word4 a b c d)] w fun e w' => e = .returned (.int .u64 S) ∧ w = w')
  (hr : ∀ w, Calls Tryz.prog 192 #[.int .u64 S] w (Ret w (.tuple #[.int .u64 (vz y), .bool true])))
  (hp : vz y % 2 = 0) (hg : ∀ w, Calls Tryz.prog 154 #[.agg #[.int .u64 (word4 a b c d), .int .u64 (vz y), .bool false]] w (Ret w (.bool false))) (w : World) :
  Calls Tryz.prog 152 #[.string s] w (Ret w (.tuple #[.agg #[.int .u64 0, .int .u64 0, .bool false], .int .i64 100])) := by
 have e1 := bits_and1 y
 rw [hp] at e1
 have e2 : bits .and .u8 2 1 = 0 := by decide
 clear hp
 obtain ⟨hl, i0, i1, i2, i3, i4⟩ := h
 have hX := word4_up a b c d ha hb hc hd
 obtain ⟨a1, a2⟩ := ha
 obtain ⟨b1, b2⟩ := hb
 obtain ⟨c1, c2⟩ := hc
 obtain ⟨d1, d2⟩ := hd
 generalize word4 a b c d = X at *
 replace hX := Lib.hid hX
 go_enter Tryz.func152, Tryz.ntmps152
 go_wp2_with fail
 refine wp_loop_rounds 5 ?_
 iterate 5 (rw [rounds_succ]; go_wp2_with fail)
 rw [hX.out]
 refine (hs _).mono ?_
 rintro e w' ⟨rfl, rfl⟩
 go_wp2_with fail
 refine (hr _).mono ?_
 rintro e w1 ⟨rfl, hB⟩
 (replace HB : Below w.heap.size w w1 := Below.on hB bel; replace K0 := hb_ (g := w.heap.size) blI hB; (try simp only [sB, sC, sD] at K0); clear hB; have HZw1 := HB.size; obtain ⟨k0, f0, l0, m0⟩ := rl_ K0)
 go_wp2_with fail
 (refine wp_region_later (by kernel_rfl) (by kernel_rfl) ?_; (repeat (go_big_quiet_step ((go_at_call 154; exact lq (hg _))))); refine wpQuiet_nil ?_; intro w' hB)
 (replace HB : Below w.heap.size w w' := Below.on hB bel; replace K0 := hkI K0.out hB; replace K1 := hb_ (g := w1.heap.size) blI hB; (try simp only [sB, sC, sD] at K0 K1); clear k0 f0 l0 m0 hB; have HZw' := HB.size; obtain ⟨k0, f0, l0, m0⟩ := rl_ K0; obtain ⟨k1, f1, l1, m1⟩ := rl_ K1)
 go_wp2_with fail
 exact bodyPost_ret (v := .tuple #[.agg #[.int .u64 0, .int .u64 0, .bool false], .int .i64 100]) (by simp (maxDischargeDepth := 9) [results, Tryz.results152, go_sem, vp, v2, *]) rfl ⟨rfl, bel⟩
theorem from_2 (s : ByteArray) (a b c d : Int) (h : Five s 2 a b c d) (ha : 0 ≤ a ∧ a < 256) (hb : 0 ≤ b ∧ b < 256) (hc : 0 ≤ c ∧ c < 256) (hd : 0 ≤ d ∧ d < 256) (S : Int) (y : F)
  (hs : ∀ w, Calls Tryz.prog 193 #[.int .u64 (word4 a b c d)] w fun e w' => e = .returned (.int .u64 S) ∧ w = w')
  (hr : ∀ w, Calls Tryz.prog 192 #[.int .u64 S] w (Ret w (.tuple #[.int .u64 (vz y), .bool true])))
  (hp : vz y % 2 = 0) (hg : ∀ w, Calls Tryz.prog 154 #[.agg #[.int .u64 (word4 a b c d), .int .u64 (vz y), .bool false]] w (Ret w (.bool true))) (w : World) :
  Calls Tryz.prog 152 #[.string s] w (Ret w (.tuple #[.agg #[.int .u64 (word4 a b c d), .int .u64 (vz y), .bool false], .int .i64 0])) := by
 have e1 := bits_and1 y
 rw [hp] at e1
 have e2 : bits .and .u8 2 1 = 0 := by decide
 clear hp
 obtain ⟨hl, i0, i1, i2, i3, i4⟩ := h
 have hX := word4_up a b c d ha hb hc hd
 obtain ⟨a1, a2⟩ := ha
 obtain ⟨b1, b2⟩ := hb
 obtain ⟨c1, c2⟩ := hc
 obtain ⟨d1, d2⟩ := hd
 generalize word4 a b c d = X at *
 replace hX := Lib.hid hX
 go_enter Tryz.func152, Tryz.ntmps152
 go_wp2_with fail
 refine wp_loop_rounds 5 ?_
 iterate 5 (rw [rounds_succ]; go_wp2_with fail)
 rw [hX.out]
 refine (hs _).mono ?_
 rintro e w' ⟨rfl, rfl⟩
 go_wp2_with fail
 refine (hr _).mono ?_
 rintro e w1 ⟨rfl, hB⟩
 (replace HB : Below w.heap.size w w1 := Below.on hB bel; replace K0 := hb_ (g := w.heap.size) blI hB; (try simp only [sB, sC, sD] at K0); clear hB; have HZw1 := HB.size; obtain ⟨k0, f0, l0, m0⟩ := rl_ K0)
 go_wp2_with fail
 (refine wp_region_later (by kernel_rfl) (by kernel_rfl) ?_; (repeat (go_big_quiet_step ((go_at_call 154; exact lq (hg _))))); refine wpQuiet_nil ?_; intro w' hB)
 (replace HB : Below w.heap.size w w' := Below.on hB bel; replace K0 := hkI K0.out hB; replace K1 := hb_ (g := w1.heap.size) blI hB; (try simp only [sB, sC, sD] at K0 K1); clear k0 f0 l0 m0 hB; have HZw' := HB.size; obtain ⟨k0, f0, l0, m0⟩ := rl_ K0; obtain ⟨k1, f1, l1, m1⟩ := rl_ K1)
 go_wp2_with fail
 exact bodyPost_ret (v := .tuple #[.agg #[.int .u64 X, .int .u64 (vz y), .bool false], .int .i64 0]) (by simp (maxDischargeDepth := 9) [results, Tryz.results152, go_sem, vp, v2, *]) rfl ⟨rfl, bel⟩
theorem from_3_no (s : ByteArray) (a b c d : Int) (h : Five s 3 a b c d) (ha : 0 ≤ a ∧ a < 256) (hb : 0 ≤ b ∧ b < 256) (hc : 0 ≤ c ∧ c < 256) (hd : 0 ≤ d ∧ d < 256) (S : Int) (y : F)
  (hs : ∀ w, Calls Tryz.prog 193 #[.int .u64 (word4 a b c d)] w fun e w' => e = .returned (.int .u64 S) ∧ w = w')
  (hr : ∀ w, Calls Tryz.prog 192 #[.int .u64 S] w (Ret w (.tuple #[.int .u64 (vz y), .bool false])))
  (y' : F) (hm : ∀ w, Calls Tryz.prog 194 #[.agg #[.int .u64 (word4 a b c d), .int .u64 (vz y), .bool false]] w (Ret w (.agg #[.int .u64 (word4 a b c d), .int .u64 (vz y'), .bool false])))
  (w : World) :
  Calls Tryz.prog 152 #[.string s] w (Ret w (.tuple #[.agg #[.int .u64 0, .int .u64 0, .bool false], .int .i64 100])) := by
 obtain ⟨hl, i0, i1, i2, i3, i4⟩ := h
 have hX := word4_up a b c d ha hb hc hd
 obtain ⟨a1, a2⟩ := ha
 obtain ⟨b1, b2⟩ := hb
 obtain ⟨c1, c2⟩ := hc
 obtain ⟨d1, d2⟩ := hd
 generalize word4 a b c d = X at *
 replace hX := Lib.hid hX
 go_enter Tryz.func152, Tryz.ntmps152
 go_wp2_with fail
 refine wp_loop_rounds 5 ?_
 iterate 5 (rw [rounds_succ]; go_wp2_with fail)
 rw [hX.out]
 refine (hs _).mono ?_
 rintro e w' ⟨rfl, rfl⟩
 go_wp2_with fail
 refine (hr _).mono ?_
 rintro e w1 ⟨rfl, hB⟩
 (replace HB : Below w.heap.size w w1 := Below.on hB bel; replace K0 := hb_ (g := w.heap.size) blI hB; (try simp only [sB, sC, sD] at K0); clear hB; have HZw1 := HB.size; obtain ⟨k0, f0, l0, m0⟩ := rl_ K0)
 go_wp2_with fail
 have z1 : w.heap.size ≠ w1.heap.size := Nat.ne_of_lt l0
 have z2 : w1.heap.size ≠ w.heap.size := z1.symm
 refine (hm _).mono ?_
 rintro e w2 ⟨rfl, hB⟩
 (replace HB : Below w.heap.size w w2 := Below.on hB bel; replace K0 := hkI K0.out hB; replace K1 := hb_ (g := w1.heap.size) blI hB; (try simp only [sB, sC, sD] at K0 K1); clear k0 f0 l0 m0 hB; have HZw2 := HB.size; obtain ⟨k0, f0, l0, m0⟩ := rl_ K0; obtain ⟨k1, f1, l1, m1⟩ := rl_ K1)
 go_wp2_with fail
 (refine wp_region_later (by kernel_rfl) (by kernel_rfl) ?_; (repeat (go_big_quiet_step (fail))); refine wpQuiet_nil ?_; intro w' hB)
 (replace HB : Below w.heap.size w w' := Below.on hB bel; replace K0 := hkI K0.out hB; replace K1 := hkI K1.out hB; (try simp only [sB, sC, sD] at K0 K1); clear k0 f0 l0 m0 k1 f1 l1 m1 hB; have HZw' := HB.size; obtain ⟨k0, f0, l0, m0⟩ := rl_ K0; obtain ⟨k1, f1, l1, m1⟩ := rl_ K1)
 go_wp2_with fail
 exact bodyPost_ret (v := .tuple #[.agg #[.int .u64 0, .int .u64 0, .bool false], .int .i64 100]) (by simp (maxDischargeDepth := 9) [results, Tryz.results152, go_sem, vp, v2, *]) rfl ⟨rfl, bel⟩
theorem from_3_zero (s : ByteArray) (a b c d : Int) (h : Five s 3 a b c d) (ha : 0 ≤ a ∧ a < 256) (hb : 0 ≤ b ∧ b < 256) (hc : 0 ≤ c ∧ c < 256) (hd : 0 ≤ d ∧ d < 256) (S : Int) (y : F)
  (hs : ∀ w, Calls Tryz.prog 193 #[.int .u64 (word4 a b c d)] w fun e w' => e = .returned (.int .u64 S) ∧ w = w')
  (hr : ∀ w, Calls Tryz.prog 192 #[.int .u64 S] w (Ret w (.tuple #[.int .u64 (vz y), .bool true])))
  (y' : F) (hm : ∀ w, Calls Tryz.prog 194 #[.agg #[.int .u64 (word4 a b c d), .int .u64 (vz y), .bool false]] w (Ret w (.agg #[.int .u64 (word4 a b c d), .int .u64 (vz y'), .bool false])))
  (hp : vz y' % 2 = 0)  (w : World) :
  Calls Tryz.prog 152 #[.string s] w (Ret w (.tuple #[.agg #[.int .u64 0, .int .u64 0, .bool false], .int .i64 100])) := by
 have e1 := bits_and1 y'
 rw [hp] at e1
 have e2 : bits .and .u8 3 1 = 1 := by decide
 clear hp
 obtain ⟨hl, i0, i1, i2, i3, i4⟩ := h
 have hX := word4_up a b c d ha hb hc hd
 obtain ⟨a1, a2⟩ := ha
 obtain ⟨b1, b2⟩ := hb
 obtain ⟨c1, c2⟩ := hc
 obtain ⟨d1, d2⟩ := hd
 generalize word4 a b c d = X at *
 replace hX := Lib.hid hX
 go_enter Tryz.func152, Tryz.ntmps152
 go_wp2_with fail
 refine wp_loop_rounds 5 ?_
 iterate 5 (rw [rounds_succ]; go_wp2_with fail)
 rw [hX.out]
 refine (hs _).mono ?_
 rintro e w' ⟨rfl, rfl⟩
 go_wp2_with fail
 refine (hr _).mono ?_
 rintro e w1 ⟨rfl, hB⟩
 (replace HB : Below w.heap.size w w1 := Below.on hB bel; replace K0 := hb_ (g := w.heap.size) blI hB; (try simp only [sB, sC, sD] at K0); clear hB; have HZw1 := HB.size; obtain ⟨k0, f0, l0, m0⟩ := rl_ K0)
 go_wp2_with fail
 have z1 : w.heap.size ≠ w1.heap.size := Nat.ne_of_lt l0
 have z2 : w1.heap.size ≠ w.heap.size := z1.symm
 refine (hm _).mono ?_
 rintro e w2 ⟨rfl, hB⟩
 (replace HB : Below w.heap.size w w2 := Below.on hB bel; replace K0 := hkI K0.out hB; replace K1 := hb_ (g := w1.heap.size) blI hB; (try simp only [sB, sC, sD] at K0 K1); clear k0 f0 l0 m0 hB; have HZw2 := HB.size; obtain ⟨k0, f0, l0, m0⟩ := rl_ K0; obtain ⟨k1, f1, l1, m1⟩ := rl_ K1)
 go_wp2_with fail
 (refine wp_region_later (by kernel_rfl) (by kernel_rfl) ?_; (repeat (go_big_quiet_step (fail))); refine wpQuiet_nil ?_; intro w' hB)
 (replace HB : Below w.heap.size w w' := Below.on hB bel; replace K0 := hkI K0.out hB; replace K1 := hkI K1.out hB; (try simp only [sB, sC, sD] at K0 K1); clear k0 f0 l0 m0 k1 f1 l1 m1 hB; have HZw' := HB.size; obtain ⟨k0, f0, l0, m0⟩ := rl_ K0; obtain ⟨k1, f1, l1, m1⟩ := rl_ K1)
 go_wp2_with fail
 exact bodyPost_ret (v := .tuple #[.agg #[.int .u64 0, .int .u64 0, .bool false], .int .i64 100]) (by simp (maxDischargeDepth := 9) [results, Tryz.results152, go_sem, vp, v2, *]) rfl ⟨rfl, bel⟩
theorem from_3_out (s : ByteArray) (a b c d : Int) (h : Five s 3 a b c d) (ha : 0 ≤ a ∧ a < 256) (hb : 0 ≤ b ∧ b < 256) (hc : 0 ≤ c ∧ c < 256) (hd : 0 ≤ d ∧ d < 256) (S : Int) (y : F)
  (hs : ∀ w, Calls Tryz.prog 193 #[.int .u64 (word4 a b c d)] w fun e w' => e = .returned (.int .u64 S) ∧ w = w')
  (hr : ∀ w, Calls Tryz.prog 192 #[.int .u64 S] w (Ret w (.tuple #[.int .u64 (vz y), .bool true])))
  (y' : F) (hm : ∀ w, Calls Tryz.prog 194 #[.agg #[.int .u64 (word4 a b c d), .int .u64 (vz y), .bool false]] w (Ret w (.agg #[.int .u64 (word4 a b c d), .int .u64 (vz y'), .bool false])))
  (hp : vz y' % 2 = 1) (hg : ∀ w, Calls Tryz.prog 154 #[.agg #[.int .u64 (word4 a b c d), .int .u64 (vz y'), .bool false]] w (Ret w (.bool false))) (w : World) :
  Calls Tryz.prog 152 #[.string s] w (Ret w (.tuple #[.agg #[.int .u64 0, .int .u64 0, .bool false], .int .i64 100])) := by
 have e1 := bits_and1 y'
 rw [hp] at e1
 have e2 : bits .and .u8 3 1 = 1 := by decide
 clear hp
 obtain ⟨hl, i0, i1, i2, i3, i4⟩ := h
 have hX := word4_up a b c d ha hb hc hd
 obtain ⟨a1, a2⟩ := ha
 obtain ⟨b1, b2⟩ := hb
 obtain ⟨c1, c2⟩ := hc
 obtain ⟨d1, d2⟩ := hd
 generalize word4 a b c d = X at *
 replace hX := Lib.hid hX
 go_enter Tryz.func152, Tryz.ntmps152
 go_wp2_with fail
 refine wp_loop_rounds 5 ?_
 iterate 5 (rw [rounds_succ]; go_wp2_with fail)
 rw [hX.out]
 refine (hs _).mono ?_
 rintro e w' ⟨rfl, rfl⟩
 go_wp2_with fail
 refine (hr _).mono ?_
 rintro e w1 ⟨rfl, hB⟩
 (replace HB : Below w.heap.size w w1 := Below.on hB bel; replace K0 := hb_ (g := w.heap.size) blI hB; (try simp only [sB, sC, sD] at K0); clear hB; have HZw1 := HB.size; obtain ⟨k0, f0, l0, m0⟩ := rl_ K0)
 go_wp2_with fail
 have z1 : w.heap.size ≠ w1.heap.size := Nat.ne_of_lt l0
 have z2 : w1.heap.size ≠ w.heap.size := z1.symm
 refine (hm _).mono ?_
 rintro e w2 ⟨rfl, hB⟩
 (replace HB : Below w.heap.size w w2 := Below.on hB bel; replace K0 := hkI K0.out hB; replace K1 := hb_ (g := w1.heap.size) blI hB; (try simp only [sB, sC, sD] at K0 K1); clear k0 f0 l0 m0 hB; have HZw2 := HB.size; obtain ⟨k0, f0, l0, m0⟩ := rl_ K0; obtain ⟨k1, f1, l1, m1⟩ := rl_ K1)
 go_wp2_with fail
 (refine wp_region_later (by kernel_rfl) (by kernel_rfl) ?_; (repeat (go_big_quiet_step ((go_at_call 154; exact lq (hg _))))); refine wpQuiet_nil ?_; intro w' hB)
 (replace HB : Below w.heap.size w w' := Below.on hB bel; replace K0 := hkI K0.out hB; replace K1 := hkI K1.out hB; (try simp only [sB, sC, sD] at K0 K1); clear k0 f0 l0 m0 k1 f1 l1 m1 hB; have HZw' := HB.size; obtain ⟨k0, f0, l0, m0⟩ := rl_ K0; obtain ⟨k1, f1, l1, m1⟩ := rl_ K1)
 go_wp2_with fail
 exact bodyPost_ret (v := .tuple #[.agg #[.int .u64 0, .int .u64 0, .bool false], .int .i64 100]) (by simp (maxDischargeDepth := 9) [results, Tryz.results152, go_sem, vp, v2, *]) rfl ⟨rfl, bel⟩
theorem from_3 (s : ByteArray) (a b c d : Int) (h : Five s 3 a b c d) (ha : 0 ≤ a ∧ a < 256) (hb : 0 ≤ b ∧ b < 256) (hc : 0 ≤ c ∧ c < 256) (hd : 0 ≤ d ∧ d < 256) (S : Int) (y : F)
  (hs : ∀ w, Calls Tryz.prog 193 #[.int .u64 (word4 a b c d)] w fun e w' => e = .returned (.int .u64 S) ∧ w = w')
  (hr : ∀ w, Calls Tryz.prog 192 #[.int .u64 S] w (Ret w (.tuple #[.int .u64 (vz y), .bool true])))
  (y' : F) (hm : ∀ w, Calls Tryz.prog 194 #[.agg #[.int .u64 (word4 a b c d), .int .u64 (vz y), .bool false]] w (Ret w (.agg #[.int .u64 (word4 a b c d), .int .u64 (vz y'), .bool false])))
  (hp : vz y' % 2 = 1) (hg : ∀ w, Calls Tryz.prog 154 #[.agg #[.int .u64 (word4 a b c d), .int .u64 (vz y'), .bool false]] w (Ret w (.bool true))) (w : World) :
  Calls Tryz.prog 152 #[.string s] w (Ret w (.tuple #[.agg #[.int .u64 (word4 a b c d), .int .u64 (vz y'), .bool false], .int .i64 0])) := by
 have e1 := bits_and1 y'
 rw [hp] at e1
 have e2 : bits .and .u8 3 1 = 1 := by decide
 clear hp
 obtain ⟨hl, i0, i1, i2, i3, i4⟩ := h
 have hX := word4_up a b c d ha hb hc hd
 obtain ⟨a1, a2⟩ := ha
 obtain ⟨b1, b2⟩ := hb
 obtain ⟨c1, c2⟩ := hc
 obtain ⟨d1, d2⟩ := hd
 generalize word4 a b c d = X at *
 replace hX := Lib.hid hX
 go_enter Tryz.func152, Tryz.ntmps152
 go_wp2_with fail
 refine wp_loop_rounds 5 ?_
 iterate 5 (rw [rounds_succ]; go_wp2_with fail)
 rw [hX.out]
 refine (hs _).mono ?_
 rintro e w' ⟨rfl, rfl⟩
 go_wp2_with fail
 refine (hr _).mono ?_
 rintro e w1 ⟨rfl, hB⟩
 (replace HB : Below w.heap.size w w1 := Below.on hB bel; replace K0 := hb_ (g := w.heap.size) blI hB; (try simp only [sB, sC, sD] at K0); clear hB; have HZw1 := HB.size; obtain ⟨k0, f0, l0, m0⟩ := rl_ K0)
 go_wp2_with fail
 have z1 : w.heap.size ≠ w1.heap.size := Nat.ne_of_lt l0
 have z2 : w1.heap.size ≠ w.heap.size := z1.symm
 refine (hm _).mono ?_
 rintro e w2 ⟨rfl, hB⟩
 (replace HB : Below w.heap.size w w2 := Below.on hB bel; replace K0 := hkI K0.out hB; replace K1 := hb_ (g := w1.heap.size) blI hB; (try simp only [sB, sC, sD] at K0 K1); clear k0 f0 l0 m0 hB; have HZw2 := HB.size; obtain ⟨k0, f0, l0, m0⟩ := rl_ K0; obtain ⟨k1, f1, l1, m1⟩ := rl_ K1)
 go_wp2_with fail
 (refine wp_region_later (by kernel_rfl) (by kernel_rfl) ?_; (repeat (go_big_quiet_step ((go_at_call 154; exact lq (hg _))))); refine wpQuiet_nil ?_; intro w' hB)
 (replace HB : Below w.heap.size w w' := Below.on hB bel; replace K0 := hkI K0.out hB; replace K1 := hkI K1.out hB; (try simp only [sB, sC, sD] at K0 K1); clear k0 f0 l0 m0 k1 f1 l1 m1 hB; have HZw' := HB.size; obtain ⟨k0, f0, l0, m0⟩ := rl_ K0; obtain ⟨k1, f1, l1, m1⟩ := rl_ K1)
 go_wp2_with fail
 exact bodyPost_ret (v := .tuple #[.agg #[.int .u64 X, .int .u64 (vz y'), .bool false], .int .i64 0]) (by simp (maxDischargeDepth := 9) [results, Tryz.results152, go_sem, vp, v2, *]) rfl ⟨rfl, bel⟩
theorem word4_ref (a b c d : Int) (ha : 0 ≤ a ∧ a < 256) (hb : 0 ≤ b ∧ b < 256) (hc : 0 ≤ c ∧ c < 256) (hd : 0 ≤ d ∧ d < 256) :
  bits .or .u64 (bits .or .u64 (bits .or .u64 (a * 16777216) (b * 65536)) (c * 256)) d = word4 a b c d := by
 have e1 : bits .or .u64 (a * 16777216) (b * 65536) = a * 16777216 + b * 65536 := by
  rw [u64_or _ _ (by omega) (by omega) (by omega) (by omega), nat_join 24 _ _ (by omega) (by show (b * 65536).toNat < 16777216; omega)]
  omega
 have e2 : bits .or .u64 (a * 16777216 + b * 65536) (c * 256) = a * 16777216 + b * 65536 + c * 256 := by
  rw [u64_or _ _ (by omega) (by omega) (by omega) (by omega), nat_join 16 _ _ (by omega) (by show (c * 256).toNat < 65536; omega)]
  omega
 rw [e1, e2, u64_or _ _ (by omega) (by omega) hd.1 (by omega), nat_join 8 _ _ (by omega) (by show d.toNat < 256; omega)]
 unfold word4
 omega

theorem rfrom_none (s : ByteArray) (hz : (s.toList == [0, 0, 0, 0, 0]) = true) (w : World) :
  Calls Tryz.prog 87 #[.string s] w (Ret w (.tuple #[vp none, .int .i64 0])) := by
 go_enter Tryz.func87, Tryz.ntmps87
 go_wp2_with fail
 refine (rnone_x _).mono ?_
 rintro e w1 ⟨rfl, hB⟩
 (replace HB : Below w.heap.size w w1 := Below.on hB bel; replace K0 := hb_ (g := w.heap.size) blI hB; (try simp only [sB, sC, sD] at K0); clear hB; have HZw1 := HB.size; obtain ⟨k0, f0, l0, m0⟩ := rl_ K0)
 go_wp2_with fail
 exact bodyPost_ret (v := .tuple #[vp none, .int .i64 0]) (by simp (maxDischargeDepth := 9) [results, Tryz.results87, go_sem, vp, v2, *]) rfl ⟨rfl, bel⟩
theorem rfrom_len (s : ByteArray) (hz : (s.toList == [0, 0, 0, 0, 0]) = false) (hl : ((s.size : Int) != 5) = true) (w : World) :
  Calls Tryz.prog 87 #[.string s] w (Ret w (.tuple #[.agg #[.int .u64 0, .int .u64 0, .bool false], .int .i64 100])) := by
 go_enter Tryz.func87, Tryz.ntmps87
 go_wp2_with fail
 exact bodyPost_ret (v := .tuple #[.agg #[.int .u64 0, .int .u64 0, .bool false], .int .i64 100]) (by simp (maxDischargeDepth := 9) [results, Tryz.results87, go_sem, vp, v2, *]) rfl ⟨rfl, bel⟩
theorem rfrom_tag (s : ByteArray) (hz : (s.toList == [0, 0, 0, 0, 0]) = false) (t : Int) (hl : ((s.size : Int) != 5) = false) (i0 : (∀ w, (Instr.index 9 (.string s) (.int .i64 0)).run Tryz.prog w = .ok (.int .u8 t) w)) (h2 : (t != 2) = true) (h3 : (t != 3) = true) (w : World) :
  Calls Tryz.prog 87 #[.string s] w (Ret w (.tuple #[.agg #[.int .u64 0, .int .u64 0, .bool false], .int .i64 100])) := by
 go_enter Tryz.func87, Tryz.ntmps87
 go_wp2_with fail
 exact bodyPost_ret (v := .tuple #[.agg #[.int .u64 0, .int .u64 0, .bool false], .int .i64 100]) (by simp (maxDischargeDepth := 9) [results, Tryz.results87, go_sem, vp, v2, *]) rfl ⟨rfl, bel⟩
theorem rfrom_2_big (s : ByteArray) (a b c d : Int) (h : Five s 2 a b c d) (ha : 0 ≤ a ∧ a < 256) (hb : 0 ≤ b ∧ b < 256) (hc : 0 ≤ c ∧ c < 256) (hd : 0 ≤ d ∧ d < 256) (hz : (s.toList == [0, 0, 0, 0, 0]) = false) (hlt : decide (2147482867 ≤ word4 a b c d) = true) (w : World) :
  Calls Tryz.prog 87 #[.string s] w (Ret w (.tuple #[.agg #[.int .u64 0, .int .u64 0, .bool false], .int .i64 100])) := by
 obtain ⟨hl, i0, i1, i2, i3, i4⟩ := h
 have hX := word4_ref a b c d ha hb hc hd
 obtain ⟨a1, a2⟩ := ha
 obtain ⟨b1, b2⟩ := hb
 obtain ⟨c1, c2⟩ := hc
 obtain ⟨d1, d2⟩ := hd
 generalize word4 a b c d = X at *
 replace hX := Lib.hid hX
 go_enter Tryz.func87, Tryz.ntmps87
 go_wp2_with fail
 (refine wp_region_later (by kernel_rfl) (by kernel_rfl) ?_; (repeat (go_big_quiet_step (fail))); refine wpQuiet_nil ?_; intro w' hB)
 (replace HB : Below w.heap.size w w' := Below.on hB bel; replace K0 := hb_ (g := w.heap.size) blI hB; (try simp only [sB, sC, sD] at K0); clear hB; have HZw' := HB.size; obtain ⟨k0, f0, l0, m0⟩ := rl_ K0)
 rw [hX.out]
 go_wp2_with fail
 exact bodyPost_ret (v := .tuple #[.agg #[.int .u64 0, .int .u64 0, .bool false], .int .i64 100]) (by simp (maxDischargeDepth := 9) [results, Tryz.results87, go_sem, vp, v2, *]) rfl ⟨rfl, bel⟩
theorem rfrom_3_big (s : ByteArray) (a b c d : Int) (h : Five s 3 a b c d) (ha : 0 ≤ a ∧ a < 256) (hb : 0 ≤ b ∧ b < 256) (hc : 0 ≤ c ∧ c < 256) (hd : 0 ≤ d ∧ d < 256) (hz : (s.toList == [0, 0, 0, 0, 0]) = false) (hlt : decide (2147482867 ≤ word4 a b c d) = true) (w : World) :
  Calls Tryz.prog 87 #[.string s] w (Ret w (.tuple #[.agg #[.int .u64 0, .int .u64 0, .bool false], .int .i64 100])) := by
 obtain ⟨hl, i0, i1, i2, i3, i4⟩ := h
 have hX := word4_ref a b c d ha hb hc hd
 obtain ⟨a1, a2⟩ := ha
 obtain ⟨b1, b2⟩ := hb
 obtain ⟨c1, c2⟩ := hc
 obtain ⟨d1, d2⟩ := hd
 generalize word4 a b c d = X at *
 replace hX := Lib.hid hX
 go_enter Tryz.func87, Tryz.ntmps87
 go_wp2_with fail
 (refine wp_region_later (by kernel_rfl) (by kernel_rfl) ?_; (repeat (go_big_quiet_step (fail))); refine wpQuiet_nil ?_; intro w' hB)
 (replace HB : Below w.heap.size w w' := Below.on hB bel; replace K0 := hb_ (g := w.heap.size) blI hB; (try simp only [sB, sC, sD] at K0); clear hB; have HZw' := HB.size; obtain ⟨k0, f0, l0, m0⟩ := rl_ K0)
 rw [hX.out]
 go_wp2_with fail
 exact bodyPost_ret (v := .tuple #[.agg #[.int .u64 0, .int .u64 0, .bool false], .int .i64 100]) (by simp (maxDischargeDepth := 9) [results, Tryz.results87, go_sem, vp, v2, *]) rfl ⟨rfl, bel⟩
theorem rfrom_2_no (s : ByteArray) (a b c d : Int) (h : Five s 2 a b c d) (ha : 0 ≤ a ∧ a < 256) (hb : 0 ≤ b ∧ b < 256) (hc : 0 ≤ c ∧ c < 256) (hd : 0 ≤ d ∧ d < 256) (hz : (s.toList == [0, 0, 0, 0, 0]) = false) (hlt : decide (2147482867 ≤ word4 a b c d) = false) (S : Int) (y : F)
  (hs : ∀ w, Calls Tryz.prog 131 #[.int .u64 (word4 a b c d)] w fun e w' => e = .returned (.int .u64 S) ∧ w = w')
  (hr : ∀ w, Calls Tryz.prog 130 #[.int .u64 S] w fun e w' => e = .returned (.tuple #[.int .u64 (vz y), .bool false]) ∧ w = w')
  (w : World) :
  Calls Tryz.prog 87 #[.string s] w (Ret w (.tuple #[.agg #[.int .u64 0, .int .u64 0, .bool false], .int .i64 100])) := by
 obtain ⟨hl, i0, i1, i2, i3, i4⟩ := h
 have hX := word4_ref a b c d ha hb hc hd
 obtain ⟨a1, a2⟩ := ha
 obtain ⟨b1, b2⟩ := hb
 obtain ⟨c1, c2⟩ := hc
 obtain ⟨d1, d2⟩ := hd
 generalize word4 a b c d = X at *
 replace hX := Lib.hid hX
 go_enter Tryz.func87, Tryz.ntmps87
 go_wp2_with fail
 (refine wp_region_later (by kernel_rfl) (by kernel_rfl) ?_; (repeat (go_big_quiet_step (fail))); refine wpQuiet_nil ?_; intro w' hB)
 (replace HB : Below w.heap.size w w' := Below.on hB bel; replace K0 := hb_ (g := w.heap.size) blI hB; (try simp only [sB, sC, sD] at K0); clear hB; have HZw' := HB.size; obtain ⟨k0, f0, l0, m0⟩ := rl_ K0)
 rw [hX.out]
 go_wp2_with fail
 refine (hs _).mono ?_
 rintro e w1 ⟨rfl, rfl⟩
 go_wp2_with fail
 refine (hr _).mono ?_
 rintro e w1 ⟨rfl, rfl⟩
 go_wp2_with fail
 exact bodyPost_ret (v := .tuple #[.agg #[.int .u64 0, .int .u64 0, .bool false], .int .i64 100]) (by simp (maxDischargeDepth := 9) [results, Tryz.results87, go_sem, vp, v2, *]) rfl ⟨rfl, bel⟩
theorem rfrom_2_out (s : ByteArray) (a b c d : Int) (h : Five s 2 a b c d) (ha : 0 ≤ a ∧ a < 256) (hb : 0 ≤ b ∧ b < 256) (hc : 0 ≤ c ∧ c < 256) (hd : 0 ≤ d ∧ d < 256) (hz : (s.toList == [0, 0, 0, 0, 0]) = false) (hlt : decide (2147482867 ≤ word4 a b c d) = false) (S : Int) (y : F)
  (hs : ∀ w, Calls Tryz.prog 131 #[.int .u64 (word4 a b c d)] w fun e w' => e = .returned (.int .u64 S) ∧ w = w')
  (hr : ∀ w, Calls Tryz.prog 130 #[.int .u64 S] w fun e w' => e = .returned (.tuple #[.int .u64 (vz y), .bool true]) ∧ w = w')
  (hg : ∀ w, Calls Tryz.prog 133 #[.agg #[.int .u64 (word4 a b c d), .int .u64 (vz y), .bool false]] w (Ret w (.bool false))) (w : World) :
  Calls Tryz.prog 87 #[.string s] w (Ret w (.tuple #[.agg #[.int .u64 0, .int .u64 0, .bool false], .int .i64 100])) := by
 obtain ⟨hl, i0, i1, i2, i3, i4⟩ := h
 have hX := word4_ref a b c d ha hb hc hd
 obtain ⟨a1, a2⟩ := ha
 obtain ⟨b1, b2⟩ := hb
 obtain ⟨c1, c2⟩ := hc
 obtain ⟨d1, d2⟩ := hd
 generalize word4 a b c d = X at *
 replace hX := Lib.hid hX
 go_enter Tryz.func87, Tryz.ntmps87
 go_wp2_with fail
 (refine wp_region_later (by kernel_rfl) (by kernel_rfl) ?_; (repeat (go_big_quiet_step (fail))); refine wpQuiet_nil ?_; intro w' hB)
 (replace HB : Below w.heap.size w w' := Below.on hB bel; replace K0 := hb_ (g := w.heap.size) blI hB; (try simp only [sB, sC, sD] at K0); clear hB; have HZw' := HB.size; obtain ⟨k0, f0, l0, m0⟩ := rl_ K0)
 rw [hX.out]
 go_wp2_with fail
 refine (hs _).mono ?_
 rintro e w1 ⟨rfl, rfl⟩
 go_wp2_with fail
 refine (hr _).mono ?_
 rintro e w1 ⟨rfl, rfl⟩
 go_wp2_with fail
 refine (hg _).mono ?_
 rintro e w2 ⟨rfl, hB⟩
 (replace HB : Below w.heap.size w w2 := Below.on hB bel; replace K0 := hkI K0.out hB; replace K1 := hb_ (g := w'.heap.size) blI hB; (try simp only [sB, sC, sD] at K0 K1); clear k0 f0 l0 m0 hB; have HZw2 := HB.size; obtain ⟨k0, f0, l0, m0⟩ := rl_ K0; obtain ⟨k1, f1, l1, m1⟩ := rl_ K1)
 go_wp2_with fail
 exact bodyPost_ret (v := .tuple #[.agg #[.int .u64 0, .int .u64 0, .bool false], .int .i64 100]) (by simp (maxDischargeDepth := 9) [results, Tryz.results87, go_sem, vp, v2, *]) rfl ⟨rfl, bel⟩
theorem rfrom_2 (s : ByteArray) (a b c d : Int) (h : Five s 2 a b c d) (ha : 0 ≤ a ∧ a < 256) (hb : 0 ≤ b ∧ b < 256) (hc : 0 ≤ c ∧ c < 256) (hd : 0 ≤ d ∧ d < 256) (hz : (s.toList == [0, 0, 0, 0, 0]) = false) (hlt : decide (2147482867 ≤ word4 a b c d) = false) (S : Int) (y : F)
  (hs : ∀ w, Calls Tryz.prog 131 #[.int .u64 (word4 a b c d)] w fun e w' => e = .returned (.int .u64 S) ∧ w = w')
  (hr : ∀ w, Calls Tryz.prog 130 #[.int .u64 S] w fun e w' => e = .returned (.tuple #[.int .u64 (vz y), .bool true]) ∧ w = w')
  (hg : ∀ w, Calls Tryz.prog 133 #[.agg #[.int .u64 (word4 a b c d), .int .u64 (vz y), .bool false]] w (Ret w (.bool true))) (w : World) :
  Calls Tryz.prog 87 #[.string s] w (Ret w (.tuple #[.agg #[.int .u64 (word4 a b c d), .int .u64 (vz y), .bool false], .int .i64 0])) := by
 obtain ⟨hl, i0, i1, i2, i3, i4⟩ := h
 have hX := word4_ref a b c d ha hb hc hd
 obtain ⟨a1, a2⟩ := ha
 obtain ⟨b1, b2⟩ := hb
 obtain ⟨c1, c2⟩ := hc
 obtain ⟨d1, d2⟩ := hd
 generalize word4 a b c d = X at *
 replace hX := Lib.hid hX
 go_enter Tryz.func87, Tryz.ntmps87
 go_wp2_with fail
 (refine wp_region_later (by kernel_rfl) (by kernel_rfl) ?_; (repeat (go_big_quiet_step (fail))); refine wpQuiet_nil ?_; intro w' hB)
 (replace HB : Below w.heap.size w w' := Below.on hB bel; replace K0 := hb_ (g := w.heap.size) blI hB; (try simp only [sB, sC, sD] at K0); clear hB; have HZw' := HB.size; obtain ⟨k0, f0, l0, m0⟩ := rl_ K0)
 rw [hX.out]
 go_wp2_with fail
 refine (hs _).mono ?_
 rintro e w1 ⟨rfl, rfl⟩
 go_wp2_with fail
 refine (hr _).mono ?_
 rintro e w1 ⟨rfl, rfl⟩
 go_wp2_with fail
 refine (hg _).mono ?_
 rintro e w2 ⟨rfl, hB⟩
 (replace HB : Below w.heap.size w w2 := Below.on hB bel; replace K0 := hkI K0.out hB; replace K1 := hb_ (g := w'.heap.size) blI hB; (try simp only [sB, sC, sD] at K0 K1); clear k0 f0 l0 m0 hB; have HZw2 := HB.size; obtain ⟨k0, f0, l0, m0⟩ := rl_ K0; obtain ⟨k1, f1, l1, m1⟩ := rl_ K1)
 go_wp2_with fail
 exact bodyPost_ret (v := .tuple #[.agg #[.int .u64 X, .int .u64 (vz y), .bool false], .int .i64 0]) (by simp (maxDischargeDepth := 9) [results, Tryz.results87, go_sem, vp, v2, *]) rfl ⟨rfl, bel⟩
theorem rfrom_3_no (s : ByteArray) (a b c d : Int) (h : Five s 3 a b c d) (ha : 0 ≤ a ∧ a < 256) (hb : 0 ≤ b ∧ b < 256) (hc : 0 ≤ c ∧ c < 256) (hd : 0 ≤ d ∧ d < 256) (hz : (s.toList == [0, 0, 0, 0, 0]) = false) (hlt : decide (2147482867 ≤ word4 a b c d) = false) (S : Int) (y : F)
  (hs : ∀ w, Calls Tryz.prog 131 #[.int .u64 (word4 a b c d)] w fun e w' => e = .returned (.int .u64 S) ∧ w = w')
  (hr : ∀ w, Calls Tryz.prog 130 #[.int .u64 S] w fun e w' => e = .returned (.tuple #[.int .u64 (vz y), .bool false]) ∧ w = w')
  (y' : F) (hm : ∀ w, Calls Tryz.prog 132 #[.int .u64 0, .int .u64 (vz y)] w fun e w' => e = .returned (.int .u64 (vz y')) ∧ w = w')
  (w : World) :
  Calls Tryz.prog 87 #[.string s] w (Ret w (.tuple #[.agg #[.int .u64 0, .int .u64 0, .bool false], .int .i64 100])) := by
 obtain ⟨hl, i0, i1, i2, i3, i4⟩ := h
 have hX := word4_ref a b c d ha hb hc hd
 obtain ⟨a1, a2⟩ := ha
 obtain ⟨b1, b2⟩ := hb
 obtain ⟨c1, c2⟩ := hc
 obtain ⟨d1, d2⟩ := hd
 generalize word4 a b c d = X at *
 replace hX := Lib.hid hX
 go_enter Tryz.func87, Tryz.ntmps87
 go_wp2_with fail
 (refine wp_region_later (by kernel_rfl) (by kernel_rfl) ?_; (repeat (go_big_quiet_step (fail))); refine wpQuiet_nil ?_; intro w' hB)
 (replace HB : Below w.heap.size w w' := Below.on hB bel; replace K0 := hb_ (g := w.heap.size) blI hB; (try simp only [sB, sC, sD] at K0); clear hB; have HZw' := HB.size; obtain ⟨k0, f0, l0, m0⟩ := rl_ K0)
 rw [hX.out]
 go_wp2_with fail
 refine (hs _).mono ?_
 rintro e w1 ⟨rfl, rfl⟩
 go_wp2_with fail
 refine (hr _).mono ?_
 rintro e w1 ⟨rfl, rfl⟩
 go_wp2_with fail
 refine (hm _).mono ?_
 rintro e w1 ⟨rfl, rfl⟩
 go_wp2_with fail
 exact bodyPost_ret (v := .tuple #[.agg #[.int .u64 0, .int .u64 0, .bool false], .int .i64 100]) (by simp (maxDischargeDepth := 9) [results, Tryz.results87, go_sem, vp, v2, *]) rfl ⟨rfl, bel⟩
theorem rfrom_3_zero (s : ByteArray) (a b c d : Int) (h : Five s 3 a b c d) (ha : 0 ≤ a ∧ a < 256) (hb : 0 ≤ b ∧ b < 256) (hc : 0 ≤ c ∧ c < 256) (hd : 0 ≤ d ∧ d < 256) (hz : (s.toList == [0, 0, 0, 0, 0]) = false) (hlt : decide (2147482867 ≤ word4 a b c d) = false) (S : Int) (y : F)
  (hs : ∀ w, Calls Tryz.prog 131 #[.int .u64 (word4 a b c d)] w fun e w' => e = .returned (.int .u64 S) ∧ w = w')
  (hr : ∀ w, Calls Tryz.prog 130 #[.int .u64 S] w fun e w' => e = .returned (.tuple #[.int .u64 (vz y), .bool true]) ∧ w = w')
  (y' : F) (hm : ∀ w, Calls Tryz.prog 132 #[.int .u64 0, .int .u64 (vz y)] w fun e w' => e = .returned (.int .u64 (vz y')) ∧ w = w')
  (hy : (vz y != 0) = false)  (w : World) :
  Calls Tryz.prog 87 #[.string s] w (Ret w (.tuple #[.agg #[.int .u64 0, .int .u64 0, .bool false], .int .i64 100])) := by
 obtain ⟨hl, i0, i1, i2, i3, i4⟩ := h
 have hX := word4_ref a b c d ha hb hc hd
 obtain ⟨a1, a2⟩ := ha
 obtain ⟨b1, b2⟩ := hb
 obtain ⟨c1, c2⟩ := hc
 obtain ⟨d1, d2⟩ := hd
 generalize word4 a b c d = X at *
 replace hX := Lib.hid hX
 go_enter Tryz.func87, Tryz.ntmps87
 go_wp2_with fail
 (refine wp_region_later (by kernel_rfl) (by kernel_rfl) ?_; (repeat (go_big_quiet_step (fail))); refine wpQuiet_nil ?_; intro w' hB)
 (replace HB : Below w.heap.size w w' := Below.on hB bel; replace K0 := hb_ (g := w.heap.size) blI hB; (try simp only [sB, sC, sD] at K0); clear hB; have HZw' := HB.size; obtain ⟨k0, f0, l0, m0⟩ := rl_ K0)
 rw [hX.out]
 go_wp2_with fail
 refine (hs _).mono ?_
 rintro e w1 ⟨rfl, rfl⟩
 go_wp2_with fail
 refine (hr _).mono ?_
 rintro e w1 ⟨rfl, rfl⟩
 go_wp2_with fail
 refine (hm _).mono ?_
 rintro e w1 ⟨rfl, rfl⟩
 go_wp2_with fail
 exact bodyPost_ret (v := .tuple #[.agg #[.int .u64 0, .int .u64 0, .bool false], .int .i64 100]) (by simp (maxDischargeDepth := 9) [results, Tryz.results87, go_sem, vp, v2, *]) rfl ⟨rfl, bel⟩
theorem rfrom_3_out (s : ByteArray) (a b c d : Int) (h : Five s 3 a b c d) (ha : 0 ≤ a ∧ a < 256) (hb : 0 ≤ b ∧ b < 256) (hc : 0 ≤ c ∧ c < 256) (hd : 0 ≤ d ∧ d < 256) (hz : (s.toList == [0, 0, 0, 0, 0]) = false) (hlt : decide (2147482867 ≤ word4 a b c d) = false) (S : Int) (y : F)
  (hs : ∀ w, Calls Tryz.prog 131 #[.int .u64 (word4 a b c d)] w fun e w' => e = .returned (.int .u64 S) ∧ w = w')
  (hr : ∀ w, Calls Tryz.prog 130 #[.int .u64 S] w fun e w' => e = .returned (.tuple #[.int .u64 (vz y), .bool true]) ∧ w = w')
  (y' : F) (hm : ∀ w, Calls Tryz.prog 132 #[.int .u64 0, .int .u64 (vz y)] w fun e w' => e = .returned (.int .u64 (vz y')) ∧ w = w')
  (hy : (vz y != 0) = true) (hg : ∀ w, Calls Tryz.prog 133 #[.agg #[.int .u64 (word4 a b c d), .int .u64 (vz y'), .bool false]] w (Ret w (.bool false))) (w : World) :
  Calls Tryz.prog 87 #[.string s] w (Ret w (.tuple #[.agg #[.int .u64 0, .int .u64 0, .bool false], .int .i64 100])) := by
 obtain ⟨hl, i0, i1, i2, i3, i4⟩ := h
 have hX := word4_ref a b c d ha hb hc hd
 obtain ⟨a1, a2⟩ := ha
 obtain ⟨b1, b2⟩ := hb
 obtain ⟨c1, c2⟩ := hc
 obtain ⟨d1, d2⟩ := hd
 generalize word4 a b c d = X at *
 replace hX := Lib.hid hX
 go_enter Tryz.func87, Tryz.ntmps87
 go_wp2_with fail
 (refine wp_region_later (by kernel_rfl) (by kernel_rfl) ?_; (repeat (go_big_quiet_step (fail))); refine wpQuiet_nil ?_; intro w' hB)
 (replace HB : Below w.heap.size w w' := Below.on hB bel; replace K0 := hb_ (g := w.heap.size) blI hB; (try simp only [sB, sC, sD] at K0); clear hB; have HZw' := HB.size; obtain ⟨k0, f0, l0, m0⟩ := rl_ K0)
 rw [hX.out]
 go_wp2_with fail
 refine (hs _).mono ?_
 rintro e w1 ⟨rfl, rfl⟩
 go_wp2_with fail
 refine (hr _).mono ?_
 rintro e w1 ⟨rfl, rfl⟩
 go_wp2_with fail
 refine (hm _).mono ?_
 rintro e w1 ⟨rfl, rfl⟩
 go_wp2_with fail
 refine (hg _).mono ?_
 rintro e w2 ⟨rfl, hB⟩
 (replace HB : Below w.heap.size w w2 := Below.on hB bel; replace K0 := hkI K0.out hB; replace K1 := hb_ (g := w'.heap.size) blI hB; (try simp only [sB, sC, sD] at K0 K1); clear k0 f0 l0 m0 hB; have HZw2 := HB.size; obtain ⟨k0, f0, l0, m0⟩ := rl_ K0; obtain ⟨k1, f1, l1, m1⟩ := rl_ K1)
 go_wp2_with fail
 exact bodyPost_ret (v := .tuple #[.agg #[.int .u64 0, .int .u64 0, .bool false], .int .i64 100]) (by simp (maxDischargeDepth := 9) [results, Tryz.results87, go_sem, vp, v2, *]) rfl ⟨rfl, bel⟩
theorem rfrom_3 (s : ByteArray) (a b c d : Int) (h : Five s 3 a b c d) (ha : 0 ≤ a ∧ a < 256) (hb : 0 ≤ b ∧ b < 256) (hc : 0 ≤ c ∧ c < 256) (hd : 0 ≤ d ∧ d < 256) (hz : (s.toList == [0, 0, 0, 0, 0]) = false) (hlt : decide (2147482867 ≤ word4 a b c d) = false) (S : Int) (y : F)
  (hs : ∀ w, Calls Tryz.prog 131 #[.int .u64 (word4 a b c d)] w fun e w' => e = .returned (.int .u64 S) ∧ w = w')
  (hr : ∀ w, Calls Tryz.prog 130 #[.int .u64 S] w fun e w' => e = .returned (.tuple #[.int .u64 (vz y), .bool true]) ∧ w = w')
  (y' : F) (hm : ∀ w, Calls Tryz.prog 132 #[.int .u64 0, .int .u64 (vz y)] w fun e w' => e = .returned (.int .u64 (vz y')) ∧ w = w')
  (hy : (vz y != 0) = true) (hg : ∀ w, Calls Tryz.prog 133 #[.agg #[.int .u64 (word4 a b c d), .int .u64 (vz y'), .bool false]] w (Ret w (.bool true))) (w : World) :
  Calls Tryz.prog 87 #[.string s] w (Ret w (.tuple #[.agg #[.int .u64 (word4 a b c d), .int .u64 (vz y'), .bool false], .int .i64 0])) := by
 obtain ⟨hl, i0, i1, i2, i3, i4⟩ := h
 have hX := word4_ref a b c d ha hb hc hd
 obtain ⟨a1, a2⟩ := ha
 obtain ⟨b1, b2⟩ := hb
 obtain ⟨c1, c2⟩ := hc
 obtain ⟨d1, d2⟩ := hd
 generalize word4 a b c d = X at *
 replace hX := Lib.hid hX
 go_enter Tryz.func87, Tryz.ntmps87
 go_wp2_with fail
 (refine wp_region_later (by kernel_rfl) (by kernel_rfl) ?_; (repeat (go_big_quiet_step (fail))); refine wpQuiet_nil ?_; intro w' hB)
 (replace HB : Below w.heap.size w w' := Below.on hB bel; replace K0 := hb_ (g := w.heap.size) blI hB; (try simp only [sB, sC, sD] at K0); clear hB; have HZw' := HB.size; obtain ⟨k0, f0, l0, m0⟩ := rl_ K0)
 rw [hX.out]
 go_wp2_with fail
 refine (hs _).mono ?_
 rintro e w1 ⟨rfl, rfl⟩
 go_wp2_with fail
 refine (hr _).mono ?_
 rintro e w1 ⟨rfl, rfl⟩
 go_wp2_with fail
 refine (hm _).mono ?_
 rintro e w1 ⟨rfl, rfl⟩
 go_wp2_with fail
 refine (hg _).mono ?_
 rintro e w2 ⟨rfl, hB⟩
 (replace HB : Below w.heap.size w w2 := Below.on hB bel; replace K0 := hkI K0.out hB; replace K1 := hb_ (g := w'.heap.size) blI hB; (try simp only [sB, sC, sD] at K0 K1); clear k0 f0 l0 m0 hB; have HZw2 := HB.size; obtain ⟨k0, f0, l0, m0⟩ := rl_ K0; obtain ⟨k1, f1, l1, m1⟩ := rl_ K1)
 go_wp2_with fail
 exact bodyPost_ret (v := .tuple #[.agg #[.int .u64 X, .int .u64 (vz y'), .bool false], .int .i64 0]) (by simp (maxDischargeDepth := 9) [results, Tryz.results87, go_sem, vp, v2, *]) rfl ⟨rfl, bel⟩
end Go.Proofs.YtegaaccioppfjaaGreatDoor
end
section
namespace Go.Proofs.YtegaaccioppfjaaGreatDoor
open BigFrame Go.RowKit Go.Phx Go.Shelf

def be : Option (List UInt8) → Int | none => 100 | some _ => 0
theorem inR_some {x y : Int} {i : Bool} (hx : 0 ≤ x) (hy : 0 ≤ y) (h : inR x y i = true) : ∃ p, inG p = true ∧ ptOf x y i = p ∧ x = px p ∧ y = py p ∧ i = pf p := by
 cases h1 : isOn x y i
 ·unfold inR at h
  rw [said_none h1] at h
  cases h
 ·obtain ⟨p, hp, h2, e1, e2, e3⟩ := said_some hx hy h1
  refine ⟨p, ?_, ?_, e1, e2, e3⟩
  ·unfold inR at h
   rw [h2] at h
   exact h
  ·unfold said at h2
   rw [h1] at h2
   injection h2
theorem inR_parts {p : E} (h : inG p = true) : inR (px p) (py p) (pf p) = true := by
 unfold inR
 rw [said_parts (inG_on h)]
 exact h
def wordU (a b c d : UInt8) : Int := word4 a.toNat b.toNat c.toNat d.toNat
theorem wordU_bd (a b c d : UInt8) : 0 ≤ wordU a b c d ∧ wordU a b c d < 4294967296 := by
 have := a.toNat_lt
 have := b.toNat_lt
 have := c.toNat_lt
 have := d.toNat_lt
 exact word4_bd _ _ _ _ (by omega) (by omega) (by omega) (by omega)
noncomputable def rootAt (X : Int) : F × Bool := rootS (zf X * zf X * zf X + zf X)
noncomputable def from5 (t a b c d : UInt8) : Option E :=
 if t = 0 then (if wordU a b c d = 0 then some none else none)
 else if t = 2 then (if wordU a b c d < 2147482867 ∧ (rootAt (wordU a b c d)).2 = true ∧ inG (some (zf (wordU a b c d), (rootAt (wordU a b c d)).1)) = true then some (some (zf (wordU a b c d), (rootAt (wordU a b c d)).1)) else none)
 else if t = 3 then (if wordU a b c d < 2147482867 ∧ (rootAt (wordU a b c d)).2 = true ∧ (rootAt (wordU a b c d)).1 ≠ 0 ∧ inG (some (zf (wordU a b c d), -(rootAt (wordU a b c d)).1)) = true then some (some (zf (wordU a b c d), -(rootAt (wordU a b c d)).1)) else none)
 else none
noncomputable def fromL : List UInt8 → Option E
 | [t, a, b, c, d] => from5 t a b c d
 | _ => none
theorem inR_lt {X : Int} (h0 : 0 ≤ X) (h : X < 2147482867) (y : F) : inR X (vz y) false = inG (some (zf X, y)) := by
 have e : X = vz (zf X) := by rw [vz_zf, Int.emod_eq_of_lt h0 h]
 generalize zf X = x at e ⊢
 subst e
 cases h1 : onE (some (x, y))
 ·have h2 : isOn (vz x) (vz y) false = false := by rw [isOn_vp]; exact h1
  unfold inR inG
  rw [said_none h2, h1]
  rfl
 ·have h2 := said_parts h1
  change said (vz x) (vz y) false = _ at h2
  unfold inR
  rw [h2]
  rfl
theorem inR_ge {X : Int} (h : ¬ X < 2147482867) (y : Int) : inR X y false = false := by
 unfold inR
 rw [said_none]
 ·rfl
 ·unfold isOn
  simp [h]
theorem vz_odd {y : F} (hy : y ≠ 0) (h : vz y % 2 = 0) : vz (-y) % 2 = 1 := by
 have h0 : vz y ≠ 0 := fun e => hy (vz_inj (by rw [e]; rfl))
 have := vz_neg y h0
 omega
theorem neg_0 : -(0 : F) = 0 := by decide
theorem minus_u64 (X : Int) (hX : 0 ≤ X) (y : F) (w : World) : Calls Tryz.prog 194 #[.agg #[.int .u64 X, .int .u64 (vz y), .bool false]] w (Ret w (.agg #[.int .u64 X, .int .u64 (vz (-y)), .bool false])) := by
 have h := minus_calls X (vz y) false hX (vz_nonneg _) w
 rw [zf_vz] at h
 exact h
theorem side_root (X : Int) (hX : 0 ≤ X) : (∀ w, Calls Tryz.prog 193 #[.int .u64 X] w fun e w' => e = .returned (.int .u64 (vz (zf X * zf X * zf X + zf X))) ∧ w = w') ∧
  ∀ w, Calls Tryz.prog 192 #[.int .u64 (vz (zf X * zf X * zf X + zf X))] w (Ret w (.tuple #[.int .u64 (vz (rootAt X).1), .bool (rootAt X).2])) := by
 refine ⟨fun w => side_calls X hX w, fun w => ?_⟩
 have h := root_calls (vz (zf X * zf X * zf X + zf X)) (vz_nonneg _) w
 rw [zf_vz] at h
 exact h
theorem rside_root (X : Int) (hX : 0 ≤ X) : (∀ w, Calls Tryz.prog 131 #[.int .u64 X] w fun e w' => e = .returned (.int .u64 (vz (zf X * zf X * zf X + zf X))) ∧ w = w') ∧
  ∀ w, Calls Tryz.prog 130 #[.int .u64 (vz (zf X * zf X * zf X + zf X))] w fun e w' => e = .returned (.tuple #[.int .u64 (vz (rootAt X).1), .bool (rootAt X).2]) ∧ w = w' := by
 refine ⟨fun w => rside_calls X hX w, fun w => ?_⟩
 have h := rroot_calls (vz (zf X * zf X * zf X + zf X)) (vz_nonneg _) w
 rw [zf_vz] at h
 exact h
theorem rsub_u (y : F) (w : World) : Calls Tryz.prog 132 #[.int .u64 0, .int .u64 (vz y)] w fun e w' => e = .returned (.int .u64 (vz (-y))) ∧ w = w' := by
 have h := rsub_calls 0 (vz y) (by decide) (vz_nonneg _) w
 rw [zf_vz, show zf 0 - y = -y from by rw [show zf 0 = 0 from rfl]; grind -lia -linarith] at h
 exact h
theorem out_none : outV none = .tuple #[.agg #[.int .u64 0, .int .u64 0, .bool false], .int .i64 100] := rfl
theorem out_some (X : Int) (h0 : 0 ≤ X) (h : X < 2147482867) (y : F) : outV (some (some (zf X, y))) = .tuple #[.agg #[.int .u64 X, .int .u64 (vz y), .bool false], .int .i64 0] := by
 show Value.tuple #[.agg #[.int .u64 (vz (zf X)), .int .u64 (vz y), .bool false], .int .i64 0] = _
 rw [vz_zf, Int.emod_eq_of_lt h0 h]

theorem from5_calls (t a b c d : UInt8) (w : World) : Calls Tryz.prog 152 #[.string ⟨#[t, a, b, c, d]⟩] w (Ret w (outV (from5 t a b c d))) := by
 have hF := five_of t a b c d
 have ha : (0 : Int) ≤ a.toNat ∧ (a.toNat : Int) < 256 := by have := a.toNat_lt; omega
 have hb : (0 : Int) ≤ b.toNat ∧ (b.toNat : Int) < 256 := by have := b.toNat_lt; omega
 have hc : (0 : Int) ≤ c.toNat ∧ (c.toNat : Int) < 256 := by have := c.toNat_lt; omega
 have hd : (0 : Int) ≤ d.toNat ∧ (d.toNat : Int) < 256 := by have := d.toNat_lt; omega
 obtain ⟨x0, x1⟩ := wordU_bd a b c d
 obtain ⟨hs, hr⟩ := side_root _ x0
 have hroot := rootS_cases (zf (wordU a b c d) * zf (wordU a b c d) * zf (wordU a b c d) + zf (wordU a b c d))
 change ((rootAt (wordU a b c d)).2 = false ∧ (rootAt (wordU a b c d)).1 = 0) ∨ ((rootAt (wordU a b c d)).2 = true ∧ _ ∧ vz (rootAt (wordU a b c d)).1 % 2 = 0) at hroot
 by_cases t0 : t = 0
 ·subst t0
  by_cases hx : wordU a b c d = 0
  ·rw [show from5 0 a b c d = some none from by unfold from5; rw [if_pos rfl, if_pos hx]]
   exact from_0 _ _ _ _ _ hF ha hb hc hd (beq_iff_eq.2 hx) w
  ·rw [show from5 0 a b c d = none from by unfold from5; rw [if_pos rfl, if_neg hx]]
   rcases hroot with ⟨h1, h2⟩ | ⟨h1, _, h2⟩
   ·rw [h1] at hr
    exact from_0_false _ _ _ _ _ hF ha hb hc hd _ _ hs hr (beq_eq_false_iff_ne.2 hx) (by rw [h2]; rfl) w
   ·rw [h1] at hr
    exact from_0_true _ _ _ _ _ hF ha hb hc hd _ _ hs hr (beq_eq_false_iff_ne.2 hx) h2 w
 by_cases t2 : t = 2
 ·subst t2
  rcases hroot with ⟨h1, h2⟩ | ⟨h1, _, h2⟩
  ·rw [show from5 2 a b c d = none from by unfold from5; rw [if_neg (by decide), if_pos rfl, if_neg (by rw [h1]; rintro ⟨_, h, _⟩; cases h)]]
   rw [h1] at hr
   exact from_2_no _ _ _ _ _ hF ha hb hc hd _ _ hs hr w
  ·rw [h1] at hr
   have hg := in_of (wordU a b c d) (vz (rootAt (wordU a b c d)).1) false x0 (vz_nonneg _)
   by_cases hx : wordU a b c d < 2147482867
   ·rw [inR_lt x0 hx] at hg
    cases hi : inG (some (zf (wordU a b c d), (rootAt (wordU a b c d)).1))
    ·rw [hi] at hg
     rw [show from5 2 a b c d = none from by unfold from5; rw [if_neg (by decide), if_pos rfl, if_neg (by rw [hi]; rintro ⟨_, _, h⟩; cases h)]]
     exact from_2_out _ _ _ _ _ hF ha hb hc hd _ _ hs hr h2 hg w
    ·rw [hi] at hg
     rw [show from5 2 a b c d = some (some (zf (wordU a b c d), (rootAt (wordU a b c d)).1)) from by unfold from5; rw [if_neg (by decide), if_pos rfl, if_pos ⟨hx, h1, hi⟩], out_some _ x0 hx]
     exact from_2 _ _ _ _ _ hF ha hb hc hd _ _ hs hr h2 hg w
   ·rw [inR_ge hx] at hg
    rw [show from5 2 a b c d = none from by unfold from5; rw [if_neg (by decide), if_pos rfl, if_neg (fun h => hx h.1)]]
    exact from_2_out _ _ _ _ _ hF ha hb hc hd _ _ hs hr h2 hg w
 by_cases t3 : t = 3
 ·subst t3
  have hm := minus_u64 (wordU a b c d) x0 (rootAt (wordU a b c d)).1
  rcases hroot with ⟨h1, h2⟩ | ⟨h1, _, h2⟩
  ·rw [show from5 3 a b c d = none from by unfold from5; rw [if_neg (by decide), if_neg (by decide), if_pos rfl, if_neg (by rw [h1]; rintro ⟨_, h, _⟩; cases h)]]
   rw [h1] at hr
   exact from_3_no _ _ _ _ _ hF ha hb hc hd _ _ hs hr _ hm w
  ·rw [h1] at hr
   by_cases hy : (rootAt (wordU a b c d)).1 = 0
   ·rw [show from5 3 a b c d = none from by unfold from5; rw [if_neg (by decide), if_neg (by decide), if_pos rfl, if_neg (fun h => h.2.2.1 hy)]]
    exact from_3_zero _ _ _ _ _ hF ha hb hc hd _ _ hs hr _ hm (by rw [hy, neg_0]; rfl) w
   ·have hg := in_of (wordU a b c d) (vz (-(rootAt (wordU a b c d)).1)) false x0 (vz_nonneg _)
    by_cases hx : wordU a b c d < 2147482867
    ·rw [inR_lt x0 hx] at hg
     cases hi : inG (some (zf (wordU a b c d), -(rootAt (wordU a b c d)).1))
     ·rw [hi] at hg
      rw [show from5 3 a b c d = none from by unfold from5; rw [if_neg (by decide), if_neg (by decide), if_pos rfl, if_neg (by rw [hi]; rintro ⟨_, _, _, h⟩; cases h)]]
      exact from_3_out _ _ _ _ _ hF ha hb hc hd _ _ hs hr _ hm (vz_odd hy h2) hg w
     ·rw [hi] at hg
      rw [show from5 3 a b c d = some (some (zf (wordU a b c d), -(rootAt (wordU a b c d)).1)) from by unfold from5; rw [if_neg (by decide), if_neg (by decide), if_pos rfl, if_pos ⟨hx, h1, hy, hi⟩], out_some _ x0 hx]
      exact from_3 _ _ _ _ _ hF ha hb hc hd _ _ hs hr _ hm (vz_odd hy h2) hg w
    ·rw [inR_ge hx] at hg
     rw [show from5 3 a b c d = none from by unfold from5; rw [if_neg (by decide), if_neg (by decide), if_pos rfl, if_neg (fun h => hx h.1)]]
     exact from_3_out _ _ _ _ _ hF ha hb hc hd _ _ hs hr _ hm (vz_odd hy h2) hg w
 ·rw [show from5 t a b c d = none from by unfold from5; rw [if_neg t0, if_neg t2, if_neg t3]]
  by_cases t1 : t = 1
  ·subst t1
   exact from_t1 _ hF.1 hF.2.1 w
  ·have h4 : 3 < t.toNat := by
    have h0 : t.toNat ≠ 0 := fun h => t0 (UInt8.toNat_inj.1 h)
    have h1 : t.toNat ≠ 1 := fun h => t1 (UInt8.toNat_inj.1 h)
    have h2 : t.toNat ≠ 2 := fun h => t2 (UInt8.toNat_inj.1 h)
    have h3 : t.toNat ≠ 3 := fun h => t3 (UInt8.toNat_inj.1 h)
    omega
   exact from_gt _ t.toNat hF.1 hF.2.1 (beq_eq_false_iff_ne.2 (by omega)) (decide_eq_true (by omega)) w

theorem toList_eq (s : ByteArray) : s.toList = s.data.toList := by
 have h : ∀ (n i : Nat) (r : List UInt8), i + n = s.size → ByteArray.toList.loop s i r = r.reverse ++ s.data.toList.drop i := by
  intro n
  induction n with
  | zero =>
   intro i r hi
   unfold ByteArray.toList.loop
   rw [if_neg (by omega), List.drop_eq_nil_of_le (by simp; show s.size ≤ i; omega), List.append_nil]
  | succ n ih =>
   intro i r hi
   unfold ByteArray.toList.loop
   rw [if_pos (by omega), ih _ _ (by omega)]
   have hlt : i < s.data.toList.length := by simp; show i < s.size; omega
   rw [List.drop_eq_getElem_cons hlt, List.reverse_cons, List.append_assoc]
   have e : s.get! i = s.data.toList[i] := by
    show s.data[i]! = _
    simp only [Array.getElem_toList]
    exact getElem!_pos s.data i (by simpa using hlt)
   rw [e]
   rfl
 have := h s.size 0 [] (by omega)
 simpa [ByteArray.toList] using this
theorem five_zero (t a b c d : UInt8) : ((⟨#[t, a, b, c, d]⟩ : ByteArray).toList == [0, 0, 0, 0, 0]) = ([t, a, b, c, d] == [0, 0, 0, 0, 0]) := by
 rw [toList_eq]
theorem wordU_zero {a b c d : UInt8} (h : wordU a b c d = 0) : a = 0 ∧ b = 0 ∧ c = 0 ∧ d = 0 := by
 unfold wordU word4 at h
 exact ⟨UInt8.toNat_inj.1 (by show a.toNat = 0; omega), UInt8.toNat_inj.1 (by show b.toNat = 0; omega), UInt8.toNat_inj.1 (by show c.toNat = 0; omega), UInt8.toNat_inj.1 (by show d.toNat = 0; omega)⟩
theorem rfrom5_calls (t a b c d : UInt8) (w : World) : Calls Tryz.prog 87 #[.string ⟨#[t, a, b, c, d]⟩] w (Ret w (outV (from5 t a b c d))) := by
 have hF := five_of t a b c d
 have ha : (0 : Int) ≤ a.toNat ∧ (a.toNat : Int) < 256 := by have := a.toNat_lt; omega
 have hb : (0 : Int) ≤ b.toNat ∧ (b.toNat : Int) < 256 := by have := b.toNat_lt; omega
 have hc : (0 : Int) ≤ c.toNat ∧ (c.toNat : Int) < 256 := by have := c.toNat_lt; omega
 have hd : (0 : Int) ≤ d.toNat ∧ (d.toNat : Int) < 256 := by have := d.toNat_lt; omega
 obtain ⟨x0, x1⟩ := wordU_bd a b c d
 obtain ⟨hs, hr⟩ := rside_root _ x0
 have hroot := rootS_cases (zf (wordU a b c d) * zf (wordU a b c d) * zf (wordU a b c d) + zf (wordU a b c d))
 change ((rootAt (wordU a b c d)).2 = false ∧ (rootAt (wordU a b c d)).1 = 0) ∨ ((rootAt (wordU a b c d)).2 = true ∧ _ ∧ vz (rootAt (wordU a b c d)).1 % 2 = 0) at hroot
 by_cases hzz : t = 0 ∧ wordU a b c d = 0
 ·obtain ⟨t0, hx⟩ := hzz
  obtain ⟨rfl, rfl, rfl, rfl⟩ := wordU_zero hx
  subst t0
  rw [show from5 0 0 0 0 0 = some none from by unfold from5; rw [if_pos rfl, if_pos hx]]
  exact rfrom_none _ (by rw [toList_eq]; rfl) w
 have hz : ((⟨#[t, a, b, c, d]⟩ : ByteArray).toList == [0, 0, 0, 0, 0]) = false := by
  rw [five_zero, beq_eq_false_iff_ne]
  intro h
  injection h with e1 h
  injection h with e2 h
  injection h with e3 h
  injection h with e4 h
  injection h with e5 h
  subst e1 e2 e3 e4 e5
  exact hzz ⟨rfl, rfl⟩
 by_cases t2 : t = 2
 ·subst t2
  by_cases hx : wordU a b c d < 2147482867
  ·have hlt : decide (2147482867 ≤ wordU a b c d) = false := decide_eq_false (by omega)
   rcases hroot with ⟨h1, h2⟩ | ⟨h1, _, h2⟩
   ·rw [show from5 2 a b c d = none from by unfold from5; rw [if_neg (by decide), if_pos rfl, if_neg (by rw [h1]; rintro ⟨_, h, _⟩; cases h)]]
    rw [h1] at hr
    exact rfrom_2_no _ _ _ _ _ hF ha hb hc hd hz hlt _ _ hs hr w
   ·rw [h1] at hr
    have hg := rin_of (wordU a b c d) (vz (rootAt (wordU a b c d)).1) false x0 (vz_nonneg _)
    rw [inR_lt x0 hx] at hg
    cases hi : inG (some (zf (wordU a b c d), (rootAt (wordU a b c d)).1))
    ·rw [hi] at hg
     rw [show from5 2 a b c d = none from by unfold from5; rw [if_neg (by decide), if_pos rfl, if_neg (by rw [hi]; rintro ⟨_, _, h⟩; cases h)]]
     exact rfrom_2_out _ _ _ _ _ hF ha hb hc hd hz hlt _ _ hs hr hg w
    ·rw [hi] at hg
     rw [show from5 2 a b c d = some (some (zf (wordU a b c d), (rootAt (wordU a b c d)).1)) from by unfold from5; rw [if_neg (by decide), if_pos rfl, if_pos ⟨hx, h1, hi⟩], out_some _ x0 hx]
     exact rfrom_2 _ _ _ _ _ hF ha hb hc hd hz hlt _ _ hs hr hg w
  ·rw [show from5 2 a b c d = none from by unfold from5; rw [if_neg (by decide), if_pos rfl, if_neg (fun h => hx h.1)]]
   exact rfrom_2_big _ _ _ _ _ hF ha hb hc hd hz (decide_eq_true (by show 2147482867 ≤ wordU a b c d; omega)) w
 by_cases t3 : t = 3
 ·subst t3
  by_cases hx : wordU a b c d < 2147482867
  ·have hlt : decide (2147482867 ≤ wordU a b c d) = false := decide_eq_false (by omega)
   have hm := rsub_u (rootAt (wordU a b c d)).1
   rcases hroot with ⟨h1, h2⟩ | ⟨h1, _, h2⟩
   ·rw [show from5 3 a b c d = none from by unfold from5; rw [if_neg (by decide), if_neg (by decide), if_pos rfl, if_neg (by rw [h1]; rintro ⟨_, h, _⟩; cases h)]]
    rw [h1] at hr
    exact rfrom_3_no _ _ _ _ _ hF ha hb hc hd hz hlt _ _ hs hr _ hm w
   ·rw [h1] at hr
    by_cases hy : (rootAt (wordU a b c d)).1 = 0
    ·rw [show from5 3 a b c d = none from by unfold from5; rw [if_neg (by decide), if_neg (by decide), if_pos rfl, if_neg (fun h => h.2.2.1 hy)]]
     exact rfrom_3_zero _ _ _ _ _ hF ha hb hc hd hz hlt _ _ hs hr _ hm (by rw [hy]; rfl) w
    ·have hg := rin_of (wordU a b c d) (vz (-(rootAt (wordU a b c d)).1)) false x0 (vz_nonneg _)
     have hy' : (vz (rootAt (wordU a b c d)).1 != 0) = true := by
      rw [bne_iff_ne]
      exact fun e => hy (vz_inj (by rw [e]; rfl))
     rw [inR_lt x0 hx] at hg
     cases hi : inG (some (zf (wordU a b c d), -(rootAt (wordU a b c d)).1))
     ·rw [hi] at hg
      rw [show from5 3 a b c d = none from by unfold from5; rw [if_neg (by decide), if_neg (by decide), if_pos rfl, if_neg (by rw [hi]; rintro ⟨_, _, _, h⟩; cases h)]]
      exact rfrom_3_out _ _ _ _ _ hF ha hb hc hd hz hlt _ _ hs hr _ hm hy' hg w
     ·rw [hi] at hg
      rw [show from5 3 a b c d = some (some (zf (wordU a b c d), -(rootAt (wordU a b c d)).1)) from by unfold from5; rw [if_neg (by decide), if_neg (by decide), if_pos rfl, if_pos ⟨hx, h1, hy, hi⟩], out_some _ x0 hx]
      exact rfrom_3 _ _ _ _ _ hF ha hb hc hd hz hlt _ _ hs hr _ hm hy' hg w
  ·rw [show from5 3 a b c d = none from by unfold from5; rw [if_neg (by decide), if_neg (by decide), if_pos rfl, if_neg (fun h => hx h.1)]]
   exact rfrom_3_big _ _ _ _ _ hF ha hb hc hd hz (decide_eq_true (by show 2147482867 ≤ wordU a b c d; omega)) w
 ·rw [show from5 t a b c d = none from by
   unfold from5
   by_cases t0 : t = 0
   ·rw [if_pos t0, if_neg (fun h => hzz ⟨t0, h⟩)]
   ·rw [if_neg t0, if_neg t2, if_neg t3]]
  have h2 : t.toNat ≠ 2 := fun h => t2 (UInt8.toNat_inj.1 h)
  have h3 : t.toNat ≠ 3 := fun h => t3 (UInt8.toNat_inj.1 h)
  exact rfrom_tag _ hz t.toNat hF.1 hF.2.1 (bne_iff_ne.2 (by omega)) (bne_iff_ne.2 (by omega)) w

theorem list5 (l : List UInt8) (h : l.length = 5) : ∃ t a b c d, l = [t, a, b, c, d] := by
 match l, h with
 | [t, a, b, c, d], _ => exact ⟨t, a, b, c, d, rfl⟩
theorem fromL_none (l : List UInt8) (h : l.length ≠ 5) : fromL l = none := by
 unfold fromL
 split
 ·exact absurd rfl h
 ·rfl
theorem ofList (s : ByteArray) : s = ⟨s.data.toList.toArray⟩ := by simp
theorem from_of (s : ByteArray) (w : World) : Calls Tryz.prog 152 #[.string s] w (Ret w (outV (fromL s.data.toList))) := by
 by_cases h : s.data.toList.length = 5
 ·obtain ⟨t, a, b, c, d, e⟩ := list5 _ h
  rw [ofList s, e]
  exact from5_calls t a b c d w
 ·rw [fromL_none _ h]
  exact from_len s (bne_iff_ne.2 (by have : s.data.toList.length = s.size := Array.length_toList; omega)) w
theorem rfrom_of (s : ByteArray) (w : World) : Calls Tryz.prog 87 #[.string s] w (Ret w (outV (fromL s.data.toList))) := by
 by_cases h : s.data.toList.length = 5
 ·obtain ⟨t, a, b, c, d, e⟩ := list5 _ h
  rw [ofList s, e]
  exact rfrom5_calls t a b c d w
 ·rw [fromL_none _ h]
  refine rfrom_len s ?_ (bne_iff_ne.2 (by have : s.data.toList.length = s.size := Array.length_toList; omega)) w
  rw [toList_eq, beq_eq_false_iff_ne]
  intro e
  rw [e] at h
  exact h rfl
end Go.Proofs.YtegaaccioppfjaaGreatDoor
end
