/- Whether a branch is a leaf's under a root, by the program. -/
import Derived.Test.YtpmmjomejackkaaDoorTxt
import Derived.Test.YtpmmjomejackkaaDoorSszR
set_option linter.unusedSimpArgs false
set_option linter.unusedVariables false
namespace Go.Proofs.YtpmmjomejackkaaDoor
open BigFrame Go.RowKit Go.Phx Go.Shelf
attribute [local go_sem] Oper.semAt_some

theorem isChunk_yes (l : List UInt8) (hl : l.length = 32) (w : World) : Calls Tryd.prog 74 #[.string (bs l)] w (fun e w' => e = .returned (.bool true) ∧ w = w') := by
  have e : ((l.length : Int) = 32) := by omega
  go_enter Tryd.func74, Tryd.ntmps74
  go_wp2_with fail
  go_ret
  exact ⟨by simp [hl], rfl⟩
theorem isChunk_no (l : List UInt8) (hl : l.length ≠ 32) (hb : l.length ≤ 9223372036854775807) (w : World) : Calls Tryd.prog 74 #[.string (bs l)] w (fun e w' => e = .returned (.bool false) ∧ w = w') := by
  have e : ¬ ((l.length : Int) = 32) := by omega
  go_enter Tryd.func74, Tryd.ntmps74
  go_wp2_with fail
  go_ret
  exact ⟨by simp [e], rfl⟩
set_option maxRecDepth 100000 in
set_option maxHeartbeats 4000000 in
theorem check_loop (x : Bytes) (A : Option Addr) (c : Nat) (L : List Bytes) (i : Nat) (root : Bytes) (hx : x.length = 32) (hr : root.length = 32) (hL : L.length ≤ 64) (hi : i < 18446744073709551616) (hi2 : i / 2 ^ L.length = 0)
    (hall : ∀ y ∈ L, y.length ≤ 1000000000) (w : World) (hk : HasK w) (hs : Txts w A L) :
    Calls Tryd.prog 37 #[.string (bs x), .slice A L.length c, .int .u64 i, .string (bs root)] w (Ret w (.bool (decide (CheckP x L i root)))) := by
  have hL1 : ¬ (64 < L.length) := by omega
  have hL2 : decide ((64 : Int) < (L.length : Int)) = false := decide_eq_false (by omega)
  have hi3 : (i : Int) / 2 ^ L.length = 0 := by
    have : ((i / 2 ^ L.length : Nat) : Int) = 0 := by rw [hi2]; rfl
    simpa using this
  go_enter Tryd.func37, Tryd.ntmps37
  go_wp2_with (first | (go_at_call 74; (with_reducible refine (isChunk_yes x hx _).mono ?_); rintro e w' ⟨rfl, rfl⟩) | (go_at_call 74; (with_reducible refine (isChunk_yes root hr _).mono ?_); rintro e w' ⟨rfl, rfl⟩))
  clear hL1 hL2 hi3
  go_loopw [0, 2, 33] (fun q j n wr => ∃ k : Nat, k ≤ L.length ∧ n = .int .i64 k ∧ q = .string (bs (wayP x (L.take k) i)) ∧ j = .int .u64 ((i / 2 ^ k : Nat) : Int) ∧ (∀ y ∈ L.take k, y.length = 32) ∧ Below w.heap.size w wr) (fun _ _ n _ => (L.length - intOf n).toNat)
  case atStart => exact ⟨0, by omega, rfl, rfl, by rw [Nat.pow_zero, Nat.div_one], by simp, Below.refl _ _⟩
  case round =>
    obtain ⟨k, hk2, rfl, rfl, rfl, h32, HB⟩ := hrel
    have hkr := hk.on HB
    by_cases hlt : k < L.length
    · have hw := Lib.hid (wayP_step L x i k hlt)
      have hql := wayP_32 (L.take k) x i hx
      obtain ⟨b, o, rfl, hb, hc⟩ := Txts.at (Txts.below hs HB) k hlt
      have htake := Lib.hid (take_step L [] k hlt)
      have hy := hall _ (getD_mem hlt)
      have hmem := Lib.hid (getD_mem hlt)
      generalize L.getD k [] = y at *
      generalize wayP x (L.take k) i = q at *
      have hdiv : i / 2 ^ k / 2 = i / 2 ^ (k + 1) := by rw [Nat.div_div_eq_div_mul, Nat.pow_succ]
      replace hdiv := Lib.hid hdiv
      have hstep : ∀ s t : Bytes, Phx.stepT s t i k = if i / 2 ^ k % 2 = 1 then s ++ t else t ++ s := fun _ _ => rfl
      replace hstep := Lib.hid hstep
      have hm : i / 2 ^ k < 18446744073709551616 := Nat.lt_of_le_of_lt (Nat.div_le_self _ _) hi
      generalize i / 2 ^ k = m at *
      clear hs hall
      replace h32 := Lib.hid h32
      by_cases hy32 : y.length = 32
      · have hnext : ∀ z ∈ L.take (k + 1), z.length = 32 := by
          rw [htake.out]
          intro z hz
          rcases List.mem_append.1 hz with h | h
          · exact h32.out z h
          · rw [List.mem_singleton.1 h]; exact hy32
        replace hnext := Lib.hid hnext
        rcases Nat.mod_two_eq_zero_or_one m with hm2 | hm2
        · have hm3 : ((m : Int) % 2 == 1) = false := by
            have : (m : Int) % 2 = 0 := by omega
            rw [this]; rfl
          have hm4 : ¬ (m : Int) % 2 = 1 := by omega
          rw [hstep.out, if_neg (by omega)] at hw
          clear hm2
          replace HB := Lib.hid HB
          replace hkr := Lib.hid hkr
          go_wp2_with (go_at_call 74; (with_reducible refine (isChunk_yes y hy32 _).mono ?_); rintro e w' ⟨rfl, rfl⟩)
          refine (sum2_calls q y (by omega) (by omega) _ _ (hkr.out.alloc _) (strs2 wr _ _)).mono ?_
          rintro e w2 ⟨rfl, h2⟩
          have HB2 : Below w.heap.size w w2 := Below.on h2 (HB.out.alloc HB.out.size _)
          go_wp2_with fail
          go_roundw
          case rel => exact ⟨k + 1, by omega, by go_num, by rw [hw.out], by rw [← hdiv.out]; go_num, hnext.out, HB2⟩
          case measure => simp [intOf]; omega
        · have hm3 : ((m : Int) % 2 == 1) = true := by
            have : (m : Int) % 2 = 1 := by omega
            rw [this]; rfl
          have hm4 : (m : Int) % 2 = 1 := by omega
          rw [hstep.out, if_pos hm2] at hw
          clear hm2
          replace HB := Lib.hid HB
          replace hkr := Lib.hid hkr
          go_wp2_with (go_at_call 74; (with_reducible refine (isChunk_yes y hy32 _).mono ?_); rintro e w' ⟨rfl, rfl⟩)
          refine (sum2_calls y q (by omega) (by omega) _ _ (hkr.out.alloc _) (strs2 wr _ _)).mono ?_
          rintro e w2 ⟨rfl, h2⟩
          have HB2 : Below w.heap.size w w2 := Below.on h2 (HB.out.alloc HB.out.size _)
          go_wp2_with fail
          go_roundw
          case rel => exact ⟨k + 1, by omega, by go_num, by rw [hw.out], by rw [← hdiv.out]; go_num, hnext.out, HB2⟩
          case measure => simp [intOf]; omega
      · have hno : decide (CheckP x L i root) = false := decide_eq_false fun h => hy32 (h.2.2.2.2.1 y hmem.out)
        replace hno := Lib.hid hno
        replace HB := Lib.hid HB
        replace hL := Lib.hid hL
        clear hkr
        go_wp2_with (go_at_call 74; (with_reducible refine (isChunk_no y hy32 (by omega) _).mono ?_); rintro e w' ⟨rfl, rfl⟩)
        go_ret
        exact ⟨by rw [hno.out]; rfl, HB.out⟩
    · obtain rfl : k = L.length := by omega
      rw [List.take_of_length_le (Nat.le_refl _)] at h32 ⊢
      have hq : (decide (CheckP x L i root)) = decide (wayP x L i = root) := by
        rw [decide_eq_decide]
        exact ⟨fun h => h.2.2.2.2.2, fun h => ⟨hL, hx, hr, (Nat.div_eq_zero_iff_lt (Nat.two_pow_pos _)).1 hi2, h32, h⟩⟩
      replace hq := Lib.hid hq
      have hql := wayP_32 L x i hx
      generalize wayP x L i = q at *
      replace HB := Lib.hid HB
      clear h32 hs hall
      by_cases hqr : q = root
      · subst hqr
        go_wp2_with fail
        go_ret
        exact ⟨by rw [hq.out]; simp, HB.out⟩
      · have hne : (q == root) = false := by simpa using hqr
        go_wp2_with fail
        go_ret
        exact ⟨by rw [hq.out]; simp [hqr], HB.out⟩
set_option maxRecDepth 100000 in
set_option maxHeartbeats 4000000 in
theorem check_no (x : Bytes) (A : Option Addr) (c : Nat) (L : List Bytes) (i : Nat) (root : Bytes) (hx : x.length ≤ 1000000000) (hr : root.length ≤ 1000000000) (hL : L.length ≤ 1000000000) (hi : i < 18446744073709551616)
    (hn : 64 < L.length ∨ x.length ≠ 32 ∨ root.length ≠ 32 ∨ L.length ≤ 64 ∧ x.length = 32 ∧ root.length = 32 ∧ i / 2 ^ L.length ≠ 0) (w : World) :
    Calls Tryd.prog 37 #[.string (bs x), .slice A L.length c, .int .u64 i, .string (bs root)] w (Ret w (.bool false)) := by
  by_cases h1 : 64 < L.length
  · have e1 : decide ((64 : Int) < (L.length : Int)) = true := decide_eq_true (by omega)
    clear hn
    go_enter Tryd.func37, Tryd.ntmps37
    go_wp2_with fail
    go_ret
    exact ⟨rfl, Below.refl _ _⟩
  · have e1 : decide ((64 : Int) < (L.length : Int)) = false := decide_eq_false (by omega)
    by_cases h2 : x.length = 32
    · by_cases h3 : root.length = 32
      · have h4 : i / 2 ^ L.length ≠ 0 := by omega
        have h5 : (0 : Int) < (i : Int) / 2 ^ L.length := by
          have : (0 : Int) < ((i / 2 ^ L.length : Nat) : Int) := Int.natCast_pos.2 (Nat.pos_of_ne_zero h4)
          simpa using this
        have h6 : decide ((0 : Int) < (i : Int) / 2 ^ L.length) = true := decide_eq_true h5
        have h7 : L.length ≤ 64 := by omega
        clear hn h4
        go_enter Tryd.func37, Tryd.ntmps37
        go_wp2_with (first | (go_at_call 74; (with_reducible refine (isChunk_yes x h2 _).mono ?_); rintro e w' ⟨rfl, rfl⟩) | (go_at_call 74; (with_reducible refine (isChunk_yes root h3 _).mono ?_); rintro e w' ⟨rfl, rfl⟩))
        go_ret
        exact ⟨rfl, Below.refl _ _⟩
      · clear hn
        go_enter Tryd.func37, Tryd.ntmps37
        go_wp2_with (first | (go_at_call 74; (with_reducible refine (isChunk_yes x h2 _).mono ?_); rintro e w' ⟨rfl, rfl⟩) | (go_at_call 74; (with_reducible refine (isChunk_no root h3 (by omega) _).mono ?_); rintro e w' ⟨rfl, rfl⟩))
        go_ret
        exact ⟨rfl, Below.refl _ _⟩
    · clear hn
      go_enter Tryd.func37, Tryd.ntmps37
      go_wp2_with (go_at_call 74; (with_reducible refine (isChunk_no x h2 (by omega) _).mono ?_); rintro e w' ⟨rfl, rfl⟩)
      go_ret
      exact ⟨rfl, Below.refl _ _⟩
/-- whether a branch is a leaf's under a root -/
theorem check_calls (x : Bytes) (A : Option Addr) (c : Nat) (L : List Bytes) (i : Nat) (root : Bytes) (hx : x.length ≤ 1000000000) (hr : root.length ≤ 1000000000) (hL : L.length ≤ 1000000000) (hi : i < 18446744073709551616)
    (hall : ∀ y ∈ L, y.length ≤ 1000000000) (w : World) (hk : HasK w) (hs : Txts w A L) :
    Calls Tryd.prog 37 #[.string (bs x), .slice A L.length c, .int .u64 i, .string (bs root)] w (Ret w (.bool (decide (CheckP x L i root)))) := by
  by_cases h : L.length ≤ 64 ∧ x.length = 32 ∧ root.length = 32 ∧ i / 2 ^ L.length = 0
  · exact check_loop x A c L i root h.2.1 h.2.2.1 h.1 hi h.2.2.2 hall w hk hs
  · have e : decide (CheckP x L i root) = false := decide_eq_false fun hc => h ⟨hc.1, hc.2.1, hc.2.2.1, Nat.div_eq_of_lt hc.2.2.2.1⟩
    rw [e]
    refine check_no x A c L i root hx hr hL hi ?_ w
    by_cases h1 : 64 < L.length
    · exact .inl h1
    · by_cases h2 : x.length = 32
      · by_cases h3 : root.length = 32
        · exact .inr (.inr (.inr ⟨by omega, h2, h3, fun h4 => h ⟨by omega, h2, h3, h4⟩⟩))
        · exact .inr (.inr (.inl h3))
      · exact .inr (.inl h2)
end Go.Proofs.YtpmmjomejackkaaDoor
