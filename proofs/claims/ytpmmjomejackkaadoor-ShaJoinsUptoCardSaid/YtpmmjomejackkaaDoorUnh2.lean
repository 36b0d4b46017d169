/- Digits as bytes, by the reference. -/
import Derived.Test.YtpmmjomejackkaaDoorUnh
set_option linter.unusedSimpArgs false
set_option linter.unusedVariables false
namespace Go.Proofs.YtpmmjomejackkaaDoor
open BigFrame Go.RowKit Go.Phx Go.Shelf
attribute [local go_sem] Oper.semAt_some

set_option maxRecDepth 100000 in
set_option maxHeartbeats 2000000 in
theorem digit_calls (c : UInt8) (w : World) : Calls Tryd.prog 67 #[.int .u8 (c.toNat : Int)] w (Ret w (.int .u8 (hv c : Int))) := by
  have hc := c.toNat_lt
  by_cases h1 : 48 ≤ c.toNat ∧ c.toNat ≤ 57
  · have e1 : hv c = c.toNat - 48 := by unfold hv; rw [if_pos h1]
    have e2 : (hv c : Int) = (c.toNat : Int) - 48 := by omega
    have E := Lib.hid e2
    obtain ⟨a1, a2⟩ := h1
    generalize c.toNat = n at *
    clear e1 e2
    go_enter Tryd.func67, Tryd.ntmps67
    go_wp2_with fail
    go_ret
    exact ⟨by rw [E.out] <;> rfl, Below.refl _ _⟩
  · by_cases h2 : 97 ≤ c.toNat ∧ c.toNat ≤ 102
    · have e1 : hv c = c.toNat - 97 + 10 := by unfold hv; rw [if_neg h1, if_pos h2]
      have e2 : (hv c : Int) = (c.toNat : Int) - 97 + 10 := by omega
      have E := Lib.hid e2
      obtain ⟨a1, a2⟩ := h2
      generalize c.toNat = n at *
      clear e1 e2
      have a3 : 48 ≤ n := by omega
      have a4 : ¬ n ≤ 57 := by omega
      go_enter Tryd.func67, Tryd.ntmps67
      go_wp2_with fail
      go_ret
      exact ⟨by rw [E.out] <;> rfl, Below.refl _ _⟩
    · have e1 : hv c = 16 := by unfold hv; rw [if_neg h1, if_neg h2]
      have E := Lib.hid e1
      generalize c.toNat = n at *
      clear e1
      go_enter Tryd.func67, Tryd.ntmps67
      by_cases a1 : 48 ≤ n
      · have a2 : ¬ n ≤ 57 := by omega
        by_cases a3 : 97 ≤ n
        · have a4 : ¬ n ≤ 102 := by omega
          go_wp2_with fail
          go_ret
          exact ⟨by rw [E.out] <;> rfl, Below.refl _ _⟩
        · go_wp2_with fail
          go_ret
          exact ⟨by rw [E.out] <;> rfl, Below.refl _ _⟩
      · go_wp2_with fail
        go_ret
        exact ⟨by rw [E.out] <;> rfl, Below.refl _ _⟩
theorem or_hex' : ∀ a : Nat, a < 16 → ∀ b : Nat, b < 16 → bits .or .u8 ((a : Int) * 16) (b : Int) = ((UInt8.ofNat (16 * a + b)).toNat : Int) := by decide +kernel

set_option maxRecDepth 100000 in
set_option maxHeartbeats 2000000 in
theorem runhex_calls (l : List UInt8) (hl : l.length ≤ 70000000000000) (w : World) : Calls Tryd.prog 27 #[.string (bs l)] w (Ret w (unhexV l)) := by
  obtain ⟨i0, hi, hz0, hz1, hz2⟩ := info_parts infoU8
  by_cases hpar : l.length % 2 = 1
  · have HV := Lib.hid (unhexV_none (unhexL_odd (l.length / 2) l (by omega)))
    have t1 : ((l.length : Int) % 2 != 0) = true := by simp; omega
    go_enter Tryd.func27, Tryd.ntmps27
    go_wp2_with fail
    go_ret2
    exact ⟨by rw [HV.out] <;> rfl, Below.refl _ _⟩
  · have t1 : ((l.length : Int) % 2 != 0) = false := by simp; omega
    go_enter Tryd.func27, Tryd.ntmps27
    go_wp2_with fail
    go_loopw [4, 5] (fun v i wr => ∃ (k : Nat) (q : List UInt8), 2 * k ≤ l.length ∧ i = .int .i64 ((2 * k : Nat) : Int) ∧ unhexL (l.take (2 * k)) = some q ∧ q.length = k ∧ wr.ownsRow w.heap.size 5 1 v q.length (q.map bv) ∧ Below w.heap.size w wr) (fun _ i _ => (l.length - intOf i).toNat)
    case atStart => exact ⟨0, [], by omega, rfl, rfl, rfl, World.ownsRow_nil _ _ _ _, Below.refl _ _⟩
    case round =>
      obtain ⟨k, q, hk, rfl, hq, hql, OWN, HB⟩ := hrel
      by_cases hend : 2 * k = l.length
      · rw [List.take_of_length_le (by omega)] at hq
        have HV := Lib.hid (unhexV_some hq)
        subst hql
        obtain ⟨A, cap, rfl, hcv⟩ := conv_owned wr OWN
        clear hq OWN
        obtain ⟨n, hn⟩ : ∃ n, 2 * q.length = n := ⟨_, rfl⟩
        rw [hn] at hend ⊢
        clear hn hk t1 hpar
        subst hend
        go_wp2_with fail
        go_ret2
        exact ⟨by rw [HV.out] <;> rfl, HB⟩
      · have hlt : 2 * k + 2 ≤ l.length := by omega
        have hst := unhex_step l q k hlt hq
        have hx1 := fun W => index_bs l (2 * k) (by omega) (by omega) W
        have hx2 := fun W => index_bs l (2 * k + 1) (by omega) (by omega) W
        have hbad := unhex_bad l (k + 1) (by omega)
        have hkb : k ≤ 70000000000000 := by omega
        obtain ⟨n, hn⟩ : ∃ n, 2 * k = n := ⟨_, rfl⟩
        rw [hn] at hend hk hlt hst hx1 hx2 ⊢
        have HN := Lib.hid hn
        clear hn hq hpar t1
        generalize l.getD n 0 = x at *
        generalize l.getD (n + 1) 0 = y at *
        have hx3 : ∀ W, (Instr.index 9 (.string (bs l)) (.int .i64 ((n : Int) + 1))).run Tryd.prog W = .ok (.int .u8 (y.toNat : Int)) W := fun W => by
          have := hx2 W
          rwa [show ((n + 1 : Nat) : Int) = (n : Int) + 1 by omega] at this
        clear hx2
        replace OWN := Lib.hid OWN
        go_wp2_with fail
        refine (digit_calls x _).mono ?_
        rintro e w1 ⟨rfl, h1⟩
        go_wp2_with fail
        refine (digit_calls y _).mono ?_
        rintro e w2 ⟨rfl, h2⟩
        have h12 := Below.on h2 h1
        have HB2 := HB.trans (h12.mono HB.size)
        by_cases hgood : hv x < 16 ∧ hv y < 16
        · rw [if_pos hgood] at hst
          obtain ⟨g1, g2⟩ := hgood
          generalize hv x = a at *
          generalize hv y = b at *
          have e3 := or_hex' a g1 b g2
          have HST := Lib.hid hst
          have OWN2 := OWN.out.kept (row := none) ⟨h12.os, h12.tape, h12.output, h12.size, fun j hj _ => h12.block j hj⟩ (by
            cases hv : u4.ownBlock with
            | none => exact .inl rfl
            | some g => exact .inr (by simp))
          clear hst hbad OWN h1 h2
          go_wp2_with (at_builtin; refine wpList_append_own _ rfl _ _ 39 rfl w.heap.size 5 i0 (.int .u8 0) 1 1 Tryd.underlying39 hi hz0 hz1 hz2 rfl (by decide) _ _ _ rfl (OWN2.alloc _) ⟨w2.heap.size, 0, none⟩ 1 1 [.int .u8 ((UInt8.ofNat (16 * a + b)).toNat : Int)] rfl rfl (news1 _ _ _) (by simp [Value.oneCell']) (by unfold maxLen; omega) (by omega) (by have := HB2.size; simp; omega) ?_)
          intro v' w' hown hgrow _
          have hown3 := Lib.hid (show w'.ownsRow w.heap.size 5 1 v' (q ++ [UInt8.ofNat (16 * a + b)]).length ((q ++ [UInt8.ofNat (16 * a + b)]).map bv) from by
            rw [List.map_append, List.length_append, hql, List.map_singleton, show bv (UInt8.ofNat (16 * a + b)) = .int .u8 ((UInt8.ofNat (16 * a + b)).toNat : Int) from rfl, show ((UInt8.ofNat (16 * a + b)).toNat : Int) = (16 * (a : Int) + (b : Int)) % 256 by simp]
            exact hown)
          have HB3 := (HB2.alloc HB2.size _).grown hgrow (by have := HB2.size; simp; omega) (fun j e => (OWN2.lt _ e).1)
          clear hown hgrow hx1 hx3 e3 OWN2
          go_wp2_with fail
          go_roundw
          case rel => exact ⟨k + 1, q ++ [UInt8.ofNat (16 * a + b)], by have := HN.out; omega, by have := HN.out; go_num, by rw [HST.out], by simp [hql], hown3.out, HB3⟩
          case measure => have := HN.out; simp [intOf]; omega
        · rw [if_neg hgood] at hst
          have HV := Lib.hid (unhexV_none (hbad hst))
          clear hst hbad
          by_cases g1 : hv x < 16
          · have g2 : ¬ hv y < 16 := fun h => hgood ⟨g1, h⟩
            generalize hv x = a at *
            generalize hv y = b at *
            go_wp2_with fail
            go_ret2
            exact ⟨by rw [HV.out] <;> rfl, HB2⟩
          · generalize hv x = a at *
            generalize hv y = b at *
            go_wp2_with fail
            go_ret2
            exact ⟨by rw [HV.out] <;> rfl, HB2⟩
end Go.Proofs.YtpmmjomejackkaaDoor
