/- Digits as bytes, by the program and by the reference. -/
import Derived.Test.YtpmmjomejackkaaDoorUnhP
set_option linter.unusedSimpArgs false
set_option linter.unusedVariables false
namespace Go.Proofs.YtpmmjomejackkaaDoor
open BigFrame Go.RowKit Go.Phx Go.Shelf
attribute [local go_sem] Oper.semAt_some

/-- what is handed back -/
def unhexV (l : List UInt8) : Value := match unhexL l with
  | some p => .tuple #[.string (bs p), .int .i64 0]
  | none => .tuple #[.string { data := #[] }, .int .i64 2]
theorem unhexV_some {l p : List UInt8} (h : unhexL l = some p) : unhexV l = .tuple #[.string (bs p), .int .i64 0] := by unfold unhexV; rw [h]
theorem unhexV_none {l : List UInt8} (h : unhexL l = none) : unhexV l = .tuple #[.string { data := #[] }, .int .i64 2] := by unfold unhexV; rw [h]
theorem indexByte_digs' : ∀ n : Nat, n < 256 → Lib.indexByte digs (UInt8.ofNat n) = if hv (UInt8.ofNat n) < 16 then (hv (UInt8.ofNat n) : Int) else -1 := by decide +kernel
theorem indexByte_digs (c : UInt8) : Lib.indexByte digs c = if hv c < 16 then (hv c : Int) else -1 := by
  have := indexByte_digs' c.toNat c.toNat_lt
  simpa using this
theorem index_good (c : UInt8) (h : hv c < 16) (w : World) : Calls Tryd.prog 64 #[.string { data := #[48, 49, 50, 51, 52, 53, 54, 55, 56, 57, 97, 98, 99, 100, 101, 102] }, .int .u8 (c.toNat : Int)] w (fun e w' => e = .returned (.int .i64 (hv c : Int)) ∧ w = w') := by
  refine (Tryd.strings_IndexByte { data := #[48, 49, 50, 51, 52, 53, 54, 55, 56, 57, 97, 98, 99, 100, 101, 102] } (c.toNat : Int) w).mono ?_
  rintro e w' ⟨rfl, rfl⟩
  refine ⟨?_, rfl⟩
  rw [show (ByteArray.mk #[48, 49, 50, 51, 52, 53, 54, 55, 56, 57, 97, 98, 99, 100, 101, 102]).data.toList = digs from rfl, show (c.toNat : Int).toNat.toUInt8 = c by simp, indexByte_digs, if_pos h]
theorem index_bad (c : UInt8) (h : ¬ hv c < 16) (w : World) : Calls Tryd.prog 64 #[.string { data := #[48, 49, 50, 51, 52, 53, 54, 55, 56, 57, 97, 98, 99, 100, 101, 102] }, .int .u8 (c.toNat : Int)] w (fun e w' => e = .returned (.int .i64 (-1)) ∧ w = w') := by
  refine (Tryd.strings_IndexByte { data := #[48, 49, 50, 51, 52, 53, 54, 55, 56, 57, 97, 98, 99, 100, 101, 102] } (c.toNat : Int) w).mono ?_
  rintro e w' ⟨rfl, rfl⟩
  refine ⟨?_, rfl⟩
  rw [show (ByteArray.mk #[48, 49, 50, 51, 52, 53, 54, 55, 56, 57, 97, 98, 99, 100, 101, 102]).data.toList = digs from rfl, show (c.toNat : Int).toNat.toUInt8 = c by simp, indexByte_digs, if_neg h]
/-- a digit's worth as a number: -1 where it is none -/
def ixv (c : UInt8) : Int := if hv c < 16 then (hv c : Int) else -1
theorem index_any (c : UInt8) (w : World) : Calls Tryd.prog 64 #[.string { data := #[48, 49, 50, 51, 52, 53, 54, 55, 56, 57, 97, 98, 99, 100, 101, 102] }, .int .u8 (c.toNat : Int)] w (fun e w' => e = .returned (.int .i64 (ixv c)) ∧ w = w') := by
  unfold ixv
  by_cases h : hv c < 16
  · rw [if_pos h]; exact index_good c h w
  · rw [if_neg h]; exact index_bad c h w

/-- a pair of digits behind pairs -/
theorem pair_at (l : List UInt8) (k : Nat) (h : 2 * k + 2 ≤ l.length) : l.take (2 * (k + 1)) = l.take (2 * k) ++ [l.getD (2 * k) 0, l.getD (2 * k + 1) 0] := by
  rw [show 2 * (k + 1) = 2 * k + 1 + 1 by omega, List.take_add_one, List.take_add_one, List.getElem?_eq_getElem (show 2 * k < l.length by omega), List.getElem?_eq_getElem (show 2 * k + 1 < l.length by omega), List.append_assoc,
    List.getD, List.getD, List.getElem?_eq_getElem (show 2 * k < l.length by omega), List.getElem?_eq_getElem (show 2 * k + 1 < l.length by omega)]
  rfl
theorem unhex_step (l q : List UInt8) (k : Nat) (h : 2 * k + 2 ≤ l.length) (hq : unhexL (l.take (2 * k)) = some q) :
    unhexL (l.take (2 * (k + 1))) = if hv (l.getD (2 * k) 0) < 16 ∧ hv (l.getD (2 * k + 1) 0) < 16 then some (q ++ [UInt8.ofNat (16 * hv (l.getD (2 * k) 0) + hv (l.getD (2 * k + 1) 0))]) else none := by
  rw [pair_at l k h, unhexL_app k _ _ (by simp; omega), hq]
  simp only [unhexL, Option.bind_some]
  split <;> simp
theorem unhex_bad (l : List UInt8) (k : Nat) (h : 2 * k ≤ l.length) (hq : unhexL (l.take (2 * k)) = none) : unhexL l = none := by
  have := unhexL_app k (l.take (2 * k)) (l.drop (2 * k)) (by simp; omega)
  rw [List.take_append_drop, hq] at this
  exact this

set_option maxRecDepth 100000 in
set_option maxHeartbeats 2000000 in
theorem unhex_calls (l : List UInt8) (hl : l.length ≤ 70000000000000) (w : World) : Calls Tryd.prog 26 #[.string (bs l)] w (Ret w (unhexV l)) := by
  go_enter Tryd.func26, Tryd.ntmps26
  go_wp2_with fail
  go_loopw [5] (fun i wr => ∃ (k : Nat) (q : List UInt8), 2 * k ≤ l.length ∧ i = .int .i64 ((2 * k : Nat) : Int) ∧ unhexL (l.take (2 * k)) = some q ∧ q.length = k ∧ BldAt w.heap.size w.heap.size q wr ∧ Below w.heap.size w wr) (fun i _ => (l.length - intOf i).toNat)
  case atStart => exact ⟨0, [], by omega, rfl, rfl, rfl, bld_new _ (.bool true), (by repeat (first | assumption | exact Below.refl _ _ | refine Below.setCell ?_ (by first | exact Nat.le_refl _ | (simp; done) | omega | (simp; omega)) _ | refine Below.alloc ?_ (by first | exact Nat.le_refl _ | (simp; done) | omega | (simp; omega)) _ | refine below_drewN ?_ _ | refine Below.drew ?_ | refine Below.on (by assumption) ?_ | refine Below.via (by assumption) (by first | exact Nat.le_refl _ | (simp; done) | omega | (simp; omega)) ?_))⟩
  case round =>
    obtain ⟨k, q, hk, rfl, hq, hql, HB0, HB⟩ := hrel
    replace HB0 := Lib.hid HB0
    by_cases hend : 2 * k = l.length
    · rw [List.take_of_length_le (by omega)] at hq
      have HV := Lib.hid (unhexV_some hq)
      clear hq
      obtain ⟨n, hn⟩ : ∃ n, 2 * k = n := ⟨_, rfl⟩
      rw [hn] at hend ⊢
      clear hn hk
      subst hend
      go_wp2_with fail
      refine (bld_string _ _ _ _ HB0.out HB.size).mono ?_
      rintro e w2 ⟨rfl, hB2⟩
      go_wp2_with fail
      go_ret2
      exact ⟨by rw [HV.out] <;> rfl, HB.trans hB2⟩
    · by_cases hodd : 2 * k + 1 = l.length
      · have HV := Lib.hid (unhexV_none (unhexL_odd k l hodd.symm))
        clear hq
        obtain ⟨n, hn⟩ : ∃ n, 2 * k = n := ⟨_, rfl⟩
        rw [hn] at hend hodd hk ⊢
        clear hn hend
        have t1 : ((n : Int) + 1 == (l.length : Int)) = true := by rw [beq_iff_eq]; omega
        have hlt : n < l.length := by omega
        go_wp2_with fail
        go_ret2
        exact ⟨by rw [HV.out] <;> rfl, HB⟩
      · have hlt : 2 * k + 2 ≤ l.length := by omega
        have hst := unhex_step l q k hlt hq
        have hx1 := fun W => index_bs l (2 * k) (by omega) (by omega) W
        have hx2 := fun W => index_bs l (2 * k + 1) (by omega) (by omega) W
        have hbad := unhex_bad l (k + 1) (by omega)
        have hkb : k ≤ 70000000000000 := by omega
        obtain ⟨n, hn⟩ : ∃ n, 2 * k = n := ⟨_, rfl⟩
        rw [hn] at hend hodd hk hlt hst hx1 hx2 ⊢
        have HN := Lib.hid hn
        clear hn hq
        have t1 : ((n : Int) + 1 == (l.length : Int)) = false := by rw [beq_eq_false_iff_ne]; omega
        have hlt2 : n + 1 < l.length := by omega
        generalize l.getD n 0 = x at *
        generalize l.getD (n + 1) 0 = y at *
        have hx3 : ∀ W, (Instr.index 9 (.string (bs l)) (.int .i64 ((n : Int) + 1))).run Tryd.prog W = .ok (.int .u8 (y.toNat : Int)) W := fun W => by
          have := hx2 W
          rwa [show ((n + 1 : Nat) : Int) = (n : Int) + 1 by omega] at this
        clear hx2
        by_cases hgood : hv x < 16 ∧ hv y < 16
        · rw [if_pos hgood] at hst
          obtain ⟨g1, g2⟩ := hgood
          have e1 : ixv x = (hv x : Int) := by unfold ixv; rw [if_pos g1]
          have e2 : ixv y = (hv y : Int) := by unfold ixv; rw [if_pos g2]
          generalize hv x = a at *
          generalize hv y = b at *
          have e3 : 16 * (a : Int) + (b : Int) = ((UInt8.ofNat (16 * a + b)).toNat : Int) := by simp; omega
          have HST := Lib.hid hst
          have E3 := Lib.hid e3
          clear hst hbad e3
          go_wp2_with fail
          go_quiet ((go_at_call 64; exact qs (index_any _ _)))
          go_wp2_with fail
          rw [E3.out]
          refine (write_byte _ _ q (UInt8.ofNat (16 * a + b)) _ (show BldAt _ _ _ (wr.drewN nq) from HB0.out) (by omega) HB.size).mono ?_
          rintro e w1 ⟨rfl, h1, hB1⟩
          replace h1 := Lib.hid h1
          have hB2 := HB.trans ((below_drewN (Below.refl _ _) nq).trans hB1)
          clear HB0 hx1 hx3 e1 e2
          have hnn := HN.out
          go_wp2_with fail
          go_roundw
          case rel => exact ⟨k + 1, q ++ [UInt8.ofNat (16 * a + b)], by omega, by congr 1; omega, HST.out, by simp; omega, h1.out, hB2⟩
          case measure => simp [intOf]; omega
        · rw [if_neg hgood] at hst
          have HV := Lib.hid (unhexV_none (hbad hst))
          clear hst hbad
          by_cases g1 : hv x < 16
          · have e1 : ixv x = (hv x : Int) := by unfold ixv; rw [if_pos g1]
            have e2 : ixv y = -1 := by unfold ixv; rw [if_neg (fun h => hgood ⟨g1, h⟩)]
            generalize hv x = a at *
            go_wp2_with fail
            go_quiet ((go_at_call 64; exact qs (index_any _ _)))
            go_wp2_with fail
            go_ret2
            exact ⟨by rw [HV.out] <;> rfl, HB.trans (below_drewN (Below.refl _ _) _)⟩
          · have e1 : ixv x = -1 := by unfold ixv; rw [if_neg g1]
            clear g1 hgood
            go_wp2_with fail
            go_quiet ((go_at_call 64; exact qs (index_any _ _)))
            go_wp2_with fail
            go_ret2
            exact ⟨by rw [HV.out] <;> rfl, HB.trans (below_drewN (Below.refl _ _) _)⟩
end Go.Proofs.YtpmmjomejackkaaDoor
