/- The way of a leaf, and whether a branch is a leaf's under a root, by the reference. -/
import Derived.Test.YtpmmjomejackkaaDoorSszO
set_option linter.unusedSimpArgs false
set_option linter.unusedVariables false
namespace Go.Proofs.YtpmmjomejackkaaDoor
open BigFrame Go.RowKit Go.Phx Go.Shelf
attribute [local go_sem] Oper.semAt_some

theorem wayT_len : ∀ (r : List Bytes) (x : Bytes) (i : Nat), (wayT x r i).length = r.length
  | [], x, i => rfl
  | s :: r, x, i => by rw [wayT, List.length_cons, wayT_len, List.length_cons]
theorem wayP_le (N : Nat) (hN : 32 ≤ N) : ∀ (r : List Bytes) (x : Bytes) (i : Nat), x.length ≤ N → (wayP x r i).length ≤ N
  | [], x, i, h => h
  | s :: r, x, i, h => by
    unfold wayP
    exact wayP_le N hN r _ _ (by split <;> rw [sha_len] <;> exact hN)
theorem and_one (m : Nat) (h : m < 18446744073709551616) : bits .and .u64 (m : Int) 1 = ((m % 2 : Nat) : Int) := by
  have e : (BitVec.ofInt 64 (m : Int) &&& BitVec.ofInt 64 1).toNat = m % 2 := by
    rw [BitVec.toNat_and]
    have e1 : (BitVec.ofInt 64 (m : Int)).toNat = m := by simp; omega
    have e2 : (BitVec.ofInt 64 1).toNat = 1 := by decide
    rw [e1, e2, Nat.and_one_is_mod]
  show IntKind.u64.wrap ((BitVec.ofInt 64 (m : Int) &&& BitVec.ofInt 64 1).toNat : Int) = _
  rw [e]
  exact IntWalk.u64_in _ (by omega)
set_option maxRecDepth 100000 in
set_option maxHeartbeats 4000000 in
theorem rway_calls (x : Bytes) (A : Option Addr) (c : Nat) (L : List Bytes) (i : Nat) (hx : x.length ≤ 1048576) (hL : L.length ≤ 64) (hi : i < 18446744073709551616)
    (hall : ∀ y ∈ L, y.length ≤ 1048576) (w : World) (hs : Txts w A L) :
    Calls Tryd.prog 39 #[.string (bs x), .slice A L.length c, .int .u64 i] w (fun e w' => ∃ v, e = .returned (.tuple #[v, .string (bs (wayP x L i))]) ∧ LRow w.heap.size w' v (wayT x L i) ∧ Below w.heap.size w w') := by
  go_enter Tryd.func39, Tryd.ntmps39
  go_wp2_with fail
  go_loopw [8, 9, 10] (fun v q n wr => ∃ (u : Value) (k : Nat), u = v ∧ k ≤ L.length ∧ n = .int .i64 k ∧ q = .string (bs (wayP x (L.take k) i)) ∧ LRow w.heap.size wr u (wayT x (L.take k) i) ∧ Below w.heap.size w wr) (fun _ _ n _ => (L.length - intOf n).toNat)
  case atStart => exact ⟨_, 0, rfl, by omega, rfl, rfl, World.ownsRow_nil _ _ _ _, Below.refl _ _⟩
  case round =>
    obtain ⟨v, k, rfl, hk2, rfl, rfl, OWN, HB⟩ := hrel
    by_cases hlt : k < L.length
    · have hw := Lib.hid (wayP_step L x i k hlt)
      have hT := Lib.hid (wayT_step L x i k hlt)
      have hql := wayP_le 1048576 (by decide) (L.take k) x i hx
      have hTl := wayT_len (L.take k) x i
      rw [List.length_take] at hTl
      obtain ⟨b, o, rfl, hb, hc⟩ := Txts.at (Txts.below hs HB) k hlt
      have hy := hall _ (getD_mem hlt)
      generalize L.getD k [] = y at *
      generalize wayP x (L.take k) i = q at *
      generalize wayT x (L.take k) i = t at *
      have hm : i / 2 ^ k < 18446744073709551616 := Nat.lt_of_le_of_lt (Nat.div_le_self _ _) hi
      have hstep : Phx.stepT y q i k = if i / 2 ^ k % 2 = 1 then y ++ q else q ++ y := rfl
      have hsh : (i : Int) / 2 ^ k = ((i / 2 ^ k : Nat) : Int) := by simp
      rw [hstep] at hw hT
      clear hstep
      generalize i / 2 ^ k = m at *
      have hand := and_one m hm
      have ht2 : t.length ≤ 64 := by omega
      clear hs hall hTl
      replace OWN := Lib.hid OWN
      have hb1 := HB.size
      replace HB := Lib.hid HB
      rcases Nat.mod_two_eq_zero_or_one m with hm2 | hm2
      · rw [hm2] at hand
        rw [if_neg (by omega)] at hw hT
        clear hm2
        go_wp2_with (at_builtin; refine wpList_append_txt rfl _ _ rfl w.heap.size v t rfl (OWN.out.on _) (q ++ y) ⟨wr.heap.size, 0, none⟩ rfl (new_cell _ _ _) (by omega) (by simp; omega) ?_)
        intro v' w' hown hgrow _
        have OWN1 := Lib.hid hown
        have HB1 := below_app (HB.out.alloc HB.out.size _) (OWN.out.on _) hgrow
        clear hown hgrow OWN
        go_wp2_with fail
        refine (rsum_calls (q ++ y) (by rw [List.length_append]; omega) _).mono ?_
        rintro e w3 ⟨rfl, h3⟩
        have OWN3 := Lib.hid (LRow.below OWN1.out h3)
        have HB3 := Below.on h3 HB1
        clear OWN1 h3
        go_wp2_with fail
        go_roundw
        case rel => exact ⟨_, k + 1, rfl, by omega, by go_num, by rw [hw.out], by rw [hT.out]; exact OWN3.out, HB3⟩
        case measure => simp [intOf]; omega
      · rw [hm2] at hand
        rw [if_pos hm2] at hw hT
        clear hm2
        go_wp2_with (at_builtin; refine wpList_append_txt rfl _ _ rfl w.heap.size v t rfl (OWN.out.on _) (y ++ q) ⟨wr.heap.size, 0, none⟩ rfl (new_cell _ _ _) (by omega) (by simp; omega) ?_)
        intro v' w' hown hgrow _
        have OWN1 := Lib.hid hown
        have HB1 := below_app (HB.out.alloc HB.out.size _) (OWN.out.on _) hgrow
        clear hown hgrow OWN
        go_wp2_with fail
        refine (rsum_calls (y ++ q) (by rw [List.length_append]; omega) _).mono ?_
        rintro e w3 ⟨rfl, h3⟩
        have OWN3 := Lib.hid (LRow.below OWN1.out h3)
        have HB3 := Below.on h3 HB1
        clear OWN1 h3
        go_wp2_with fail
        go_roundw
        case rel => exact ⟨_, k + 1, rfl, by omega, by go_num, by rw [hw.out], by rw [hT.out]; exact OWN3.out, HB3⟩
        case measure => simp [intOf]; omega
    · obtain rfl : k = L.length := by omega
      rw [List.take_of_length_le (Nat.le_refl _)] at OWN ⊢
      replace OWN := Lib.hid OWN
      replace HB := Lib.hid HB
      clear hs hall
      go_wp2_with fail
      go_ret2
      exact ⟨_, rfl, OWN.out, HB.out⟩
set_option maxRecDepth 100000 in
set_option maxHeartbeats 4000000 in
theorem rcheck_loop (x : Bytes) (A : Option Addr) (c : Nat) (L : List Bytes) (i : Nat) (root : Bytes) (hx : x.length = 32) (hr : root.length = 32) (hL : L.length ≤ 64) (hi : i < 18446744073709551616) (hib : i < 2 ^ L.length)
    (hall : ∀ y ∈ L, y.length ≤ 1048576) (w : World) (hs : Txts w A L) :
    Calls Tryd.prog 38 #[.string (bs x), .slice A L.length c, .int .u64 i, .string (bs root)] w (Ret w (.bool (decide (CheckP x L i root)))) := by
  have hway := Lib.hid (rway_calls x A c L i (by omega) hL hi hall w hs)
  have e1 : ((x.length : Int) != 32) = false := by simp; omega
  have e2 : ((root.length : Int) != 32) = false := by simp; omega
  have e3 : decide ((64 : Int) < (L.length : Int)) = false := decide_eq_false (by omega)
  have hi0 := Nat.div_eq_of_lt hib
  have hi3 : (i : Int) / 2 ^ L.length = 0 := by
    have : ((i / 2 ^ L.length : Nat) : Int) = 0 := by rw [hi0]; rfl
    simpa using this
  clear hi0
  replace hib := Lib.hid hib
  by_cases h64 : L.length < 64
  · have e4 : decide ((L.length : Int) < 64) = true := decide_eq_true (by omega)
    go_enter Tryd.func38, Tryd.ntmps38
    go_wp2_with fail
    clear hi3 e4
    clear e1 e2 e3
    go_loopw [9] (fun n wr => ∃ k : Nat, k ≤ L.length ∧ n = .int .i64 k ∧ (∀ y ∈ L.take k, y.length = 32) ∧ wr = w) (fun n _ => (L.length - intOf n).toNat)
    case atStart => exact ⟨0, by omega, rfl, by simp, rfl⟩
    case round =>
      obtain ⟨k, hk2, rfl, h32, rfl⟩ := hrel
      by_cases hlt : k < L.length
      · obtain ⟨b, o, rfl, hb, hc⟩ := Txts.at hs k hlt
        have htake := Lib.hid (take_step L [] k hlt)
        have hy := hall _ (getD_mem hlt)
        have hmem := Lib.hid (getD_mem hlt)
        generalize L.getD k [] = y at *
        replace h32 := Lib.hid h32
        clear hs hall hway
        by_cases hy32 : y.length = 32
        · have hy33 : ((y.length : Int) != 32) = false := by simp; omega
          have hnext : ∀ z ∈ L.take (k + 1), z.length = 32 := by
            rw [htake.out]
            intro z hz
            rcases List.mem_append.1 hz with h | h
            · exact h32.out z h
            · rw [List.mem_singleton.1 h]; exact hy32
          replace hnext := Lib.hid hnext
          go_wp2_with fail
          go_roundw
          case rel => exact ⟨k + 1, by omega, by go_num, hnext.out, by first | rfl | trivial⟩
          case measure => simp [intOf]; omega
        · have hy33 : ((y.length : Int) != 32) = true := by simp; omega
          have hno : decide (CheckP x L i root) = false := decide_eq_false fun h => hy32 (h.2.2.2.2.1 y hmem.out)
          replace hno := Lib.hid hno
          go_wp2_with fail
          go_ret
          exact ⟨by rw [hno.out]; rfl, Below.refl _ _⟩
      · obtain rfl : k = L.length := by omega
        rw [List.take_of_length_le (Nat.le_refl _)] at h32
        have hq : (decide (CheckP x L i root)) = decide (wayP x L i = root) := by
          rw [decide_eq_decide]
          exact ⟨fun h => h.2.2.2.2.2, fun h => ⟨hL, hx, hr, hib.out, h32, h⟩⟩
        replace hq := Lib.hid hq
        clear h32 hs hall
        go_wp2_with fail
        refine hway.out.mono ?_
        rintro e w2 ⟨v, rfl, _, h2⟩
        generalize wayP x L i = q at *
        by_cases hqr : q = root
        · subst hqr
          go_wp2_with fail
          go_ret
          exact ⟨by rw [hq.out]; simp, h2⟩
        · have hne : (q == root) = false := by simpa using hqr
          go_wp2_with fail
          go_ret
          exact ⟨by rw [hq.out]; simp [hqr], h2⟩
  · have e4 : decide ((L.length : Int) < 64) = false := decide_eq_false (by omega)
    clear hi3
    go_enter Tryd.func38, Tryd.ntmps38
    go_wp2_with fail
    clear e4
    clear e1 e2 e3
    go_loopw [9] (fun n wr => ∃ k : Nat, k ≤ L.length ∧ n = .int .i64 k ∧ (∀ y ∈ L.take k, y.length = 32) ∧ wr = w) (fun n _ => (L.length - intOf n).toNat)
    case atStart => exact ⟨0, by omega, rfl, by simp, rfl⟩
    case round =>
      obtain ⟨k, hk2, rfl, h32, rfl⟩ := hrel
      by_cases hlt : k < L.length
      · obtain ⟨b, o, rfl, hb, hc⟩ := Txts.at hs k hlt
        have htake := Lib.hid (take_step L [] k hlt)
        have hy := hall _ (getD_mem hlt)
        have hmem := Lib.hid (getD_mem hlt)
        generalize L.getD k [] = y at *
        replace h32 := Lib.hid h32
        clear hs hall hway
        by_cases hy32 : y.length = 32
        · have hy33 : ((y.length : Int) != 32) = false := by simp; omega
          have hnext : ∀ z ∈ L.take (k + 1), z.length = 32 := by
            rw [htake.out]
            intro z hz
            rcases List.mem_append.1 hz with h | h
            · exact h32.out z h
            · rw [List.mem_singleton.1 h]; exact hy32
          replace hnext := Lib.hid hnext
          go_wp2_with fail
          go_roundw
          case rel => exact ⟨k + 1, by omega, by go_num, hnext.out, by first | rfl | trivial⟩
          case measure => simp [intOf]; omega
        · have hy33 : ((y.length : Int) != 32) = true := by simp; omega
          have hno : decide (CheckP x L i root) = false := decide_eq_false fun h => hy32 (h.2.2.2.2.1 y hmem.out)
          replace hno := Lib.hid hno
          go_wp2_with fail
          go_ret
          exact ⟨by rw [hno.out]; rfl, Below.refl _ _⟩
      · obtain rfl : k = L.length := by omega
        rw [List.take_of_length_le (Nat.le_refl _)] at h32
        have hq : (decide (CheckP x L i root)) = decide (wayP x L i = root) := by
          rw [decide_eq_decide]
          exact ⟨fun h => h.2.2.2.2.2, fun h => ⟨hL, hx, hr, hib.out, h32, h⟩⟩
        replace hq := Lib.hid hq
        clear h32 hs hall
        go_wp2_with fail
        refine hway.out.mono ?_
        rintro e w2 ⟨v, rfl, _, h2⟩
        generalize wayP x L i = q at *
        by_cases hqr : q = root
        · subst hqr
          go_wp2_with fail
          go_ret
          exact ⟨by rw [hq.out]; simp, h2⟩
        · have hne : (q == root) = false := by simpa using hqr
          go_wp2_with fail
          go_ret
          exact ⟨by rw [hq.out]; simp [hqr], h2⟩
set_option maxRecDepth 100000 in
set_option maxHeartbeats 4000000 in
theorem rcheck_no (x : Bytes) (A : Option Addr) (c : Nat) (L : List Bytes) (i : Nat) (root : Bytes) (hx : x.length ≤ 1000000000) (hr : root.length ≤ 1000000000) (hL : L.length ≤ 1000000000) (hi : i < 18446744073709551616)
    (hn : x.length ≠ 32 ∨ root.length ≠ 32 ∨ 64 < L.length ∨ x.length = 32 ∧ root.length = 32 ∧ L.length < 64 ∧ i / 2 ^ L.length ≠ 0) (w : World) :
    Calls Tryd.prog 38 #[.string (bs x), .slice A L.length c, .int .u64 i, .string (bs root)] w (Ret w (.bool false)) := by
  by_cases h2 : x.length = 32
  · have e1 : ((x.length : Int) != 32) = false := by simp; omega
    by_cases h3 : root.length = 32
    · have e2 : ((root.length : Int) != 32) = false := by simp; omega
      by_cases h1 : 64 < L.length
      · have e3 : decide ((64 : Int) < (L.length : Int)) = true := decide_eq_true (by omega)
        clear hn
        go_enter Tryd.func38, Tryd.ntmps38
        go_wp2_with fail
        go_ret
        exact ⟨rfl, Below.refl _ _⟩
      · have e3 : decide ((64 : Int) < (L.length : Int)) = false := decide_eq_false (by omega)
        have h4 : L.length < 64 ∧ i / 2 ^ L.length ≠ 0 := by omega
        have e4 : decide ((L.length : Int) < 64) = true := decide_eq_true (by omega)
        have e5 : ((i : Int) / 2 ^ L.length != 0) = true := by
          have h : ((i / 2 ^ L.length : Nat) : Int) ≠ 0 := fun h => h4.2 (Int.ofNat_eq_zero.1 h)
          simpa using h
        have e6 : L.length < 64 := h4.1
        clear hn h4
        go_enter Tryd.func38, Tryd.ntmps38
        go_wp2_with fail
        go_ret
        exact ⟨rfl, Below.refl _ _⟩
    · have e2 : ((root.length : Int) != 32) = true := by simp; omega
      clear hn
      go_enter Tryd.func38, Tryd.ntmps38
      go_wp2_with fail
      go_ret
      exact ⟨rfl, Below.refl _ _⟩
  · have e1 : ((x.length : Int) != 32) = true := by simp; omega
    clear hn
    go_enter Tryd.func38, Tryd.ntmps38
    go_wp2_with fail
    go_ret
    exact ⟨rfl, Below.refl _ _⟩
theorem rcheck_calls (x : Bytes) (A : Option Addr) (c : Nat) (L : List Bytes) (i : Nat) (root : Bytes) (hx : x.length ≤ 1000000000) (hr : root.length ≤ 1000000000) (hL : L.length ≤ 1000000000) (hi : i < 18446744073709551616)
    (hall : ∀ y ∈ L, y.length ≤ 1048576) (w : World) (hs : Txts w A L) :
    Calls Tryd.prog 38 #[.string (bs x), .slice A L.length c, .int .u64 i, .string (bs root)] w (Ret w (.bool (decide (CheckP x L i root)))) := by
  by_cases h : L.length ≤ 64 ∧ x.length = 32 ∧ root.length = 32 ∧ i < 2 ^ L.length
  · exact rcheck_loop x A c L i root h.2.1 h.2.2.1 h.1 hi h.2.2.2 hall w hs
  · have e : decide (CheckP x L i root) = false := decide_eq_false fun hc => h ⟨hc.1, hc.2.1, hc.2.2.1, hc.2.2.2.1⟩
    rw [e]
    refine rcheck_no x A c L i root hx hr hL hi ?_ w
    by_cases h2 : x.length = 32
    · by_cases h3 : root.length = 32
      · by_cases h1 : 64 < L.length
        · exact .inr (.inr (.inl h1))
        · have hib : ¬ i < 2 ^ L.length := fun h4 => h ⟨by omega, h2, h3, h4⟩
          have h64 : L.length < 64 := by
            rcases Nat.lt_or_ge L.length 64 with h5 | h5
            · exact h5
            · have : L.length = 64 := by omega
              rw [this] at hib
              exact absurd hi hib
          exact .inr (.inr (.inr ⟨h2, h3, h64, fun h5 => hib ((Nat.div_eq_zero_iff_lt (Nat.two_pow_pos _)).1 h5)⟩))
      · exact .inr (.inl h3)
    · exact .inl h2
end Go.Proofs.YtpmmjomejackkaaDoor
