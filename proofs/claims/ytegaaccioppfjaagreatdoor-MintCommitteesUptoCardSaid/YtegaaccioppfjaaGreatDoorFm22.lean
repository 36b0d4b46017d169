/- Plain laws and walks, each by its own conditions. -/
import Derived.Test.YtegaaccioppfjaaGreatDoorFm17
set_option linter.unusedSimpArgs false
set_option linter.unusedVariables false
set_option maxRecDepth 100000
set_option maxHeartbeats 16000000
section
namespace Go.Proofs.YtegaaccioppfjaaGreatDoor
open BigFrame Go.RowKit Go.Phx Go.Shelf
attribute [local go_sem] Oper.semAt_some

def num8 (n k : Nat) : Bytes := (List.range k).map (fun i => UInt8.ofNat (n / 2 ^ (8 * i)))
theorem num8_succ (n k : Nat) : num8 n (k + 1) = num8 n k ++ [UInt8.ofNat (n / 2 ^ (8 * k))] := by simp [num8, List.range_succ]
theorem num8_len (n k : Nat) : (num8 n k).length = k := by simp [num8]
theorem num8_at (n k : Nat) : (n : Int) / 2 ^ (8 * k) % 256 = ((UInt8.ofNat (n / 2 ^ (8 * k))).toNat : Int) := by
 have e2 : (n : Int) / 2 ^ (8 * k) = ((n / 2 ^ (8 * k) : Nat) : Int) := by simp
 rw [e2]
 simp
theorem rnumber_calls (n : Nat) (hn : n < 18446744073709551616) (w : World) : Calls Tryz.prog 91 #[.int .u64 n] w (Ret w (.string (bs (numP n)))) := by
 obtain ⟨i0, hi, hz0, hz1, hz2⟩ := info_parts infoU8
 go_enter Tryz.func91, Tryz.ntmps91
 go_wp2_with fail
 go_loopw [3, 4] (fun v i wr => ∃ k : Nat, k ≤ 8 ∧ i = .int .i64 k ∧ wr.ownsRow w.heap.size 5 1 v k ((num8 n k).map bv) ∧ Below w.heap.size w wr) (fun _ i _ => (8 - intOf i).toNat)
 case atStart => exact ⟨0, by omega, rfl, World.ownsRow_nil _ _ _ _, Below.refl _ _⟩
 case round =>
  obtain ⟨k, hk, rfl, OWN, HB⟩ := hrel
  by_cases hlt : k < 8
  ·have hat := Lib.hid (num8_at n k)
   have hsc := Lib.hid (num8_succ n k)
   generalize num8 n k = q at *
   have hbase := HB.size
   replace OWN := Lib.hid OWN
   go_wp2_with (at_builtin; refine wpList_append_own _ rfl _ _ 108 rfl w.heap.size 5 i0 (.int .u8 0) 1 1 Tryz.underlying108 hi hz0 hz1 hz2 rfl (by decide) _ _ _ rfl (OWN.out.alloc _) ⟨wr.heap.size, 0, none⟩ 1 1 [.int .u8 ((n : Int) / 2 ^ (8 * k) % 256)] rfl rfl (news1 _ _ _) (by simp [Value.oneCell']) (by unfold maxLen; omega) (by omega) (by simp; omega) ?_)
   intro v' w' hown hgrow _
   have hown3 := Lib.hid (show w'.ownsRow w.heap.size 5 1 v' (k + 1) ((num8 n (k + 1)).map bv) from by
    rw [hsc.out, List.map_append, List.map_singleton, show bv (UInt8.ofNat (n / 2 ^ (8 * k))) = .int .u8 ((UInt8.ofNat (n / 2 ^ (8 * k))).toNat : Int) from rfl, ← hat.out]
    exact hown)
   have HB3 := (HB.alloc HB.size _).grown hgrow (by have := HB.size; simp; omega) (fun j e => (OWN.out.lt _ e).1)
   clear hown hgrow OWN
   go_wp2_with fail
   go_roundw
   case rel => exact ⟨k + 1, by omega, by go_num, hown3.out, HB3⟩
   case measure => simp [intOf]; omega
  ·obtain rfl : k = 8 := by omega
   have hq8 := num8_len n 8
   have hend : num8 n 8 ++ List.replicate 24 0 = numP n := rfl
   generalize num8 n 8 = q at *
   rw [← hq8] at OWN
   obtain ⟨A, cap, rfl, hcv⟩ := conv_owned wr OWN
   have hcvW : ∀ W, Below wr.heap.size wr W → (convert 108 9 (.slice A q.length cap)).run Tryz.prog W = .ok (.string (bs q)) W := fun W hW => by
    have h2 : W.ownsRow w.heap.size 5 1 (.slice A q.length cap) q.length (q.map bv) := OWN.kept ⟨hW.os, hW.tape, hW.output, hW.size, fun j hj _ => hW.block j hj⟩ (row := none) (by cases (Value.slice A q.length cap).ownBlock with | none => exact .inl rfl | some g => exact .inr (by simp))
    obtain ⟨A', c', hv, h⟩ := conv_owned W h2
    injection hv with e1 e2 e3
    subst e1
    subst e3
    exact h
   rw [hq8] at hcv hcvW ⊢
   replace hcvW := Lib.hid hcvW
   have hcvd : (convert 108 9 (.slice A 8 cap)).run Tryz.prog wr.drew = .ok (.string (bs q)) wr.drew := hcvW.out _ (Below.refl _ _).drew
   clear OWN
   have HE := Lib.hid hend
   have H8 := Lib.hid hq8
   clear hend
   go_wp2_with fail
   go_region_with (go_at_call 140; refine (noughts_calls 24 (by omega) _).mono ?_; rintro e w1 ⟨rfl, h1⟩; have hB1 : Below wr.heap.size wr w1 := Below.on h1 bel; have hcv1 := hcvW.out _ hB1)
   all_goals
    go_wp2_with fail
    go_ret
    exact ⟨by rw [← HE.out]; rfl, HB.trans (hB1.mono HB.size)⟩
theorem and_one (m : Nat) (h : m < 18446744073709551616) : bits .and .u64 (m : Int) 1 = ((m % 2 : Nat) : Int) := by
 have e : (BitVec.ofInt 64 (m : Int) &&& BitVec.ofInt 64 1).toNat = m % 2 := by
  rw [BitVec.toNat_and]
  have e1 : (BitVec.ofInt 64 (m : Int)).toNat = m := by simp; omega
  have e2 : (BitVec.ofInt 64 1).toNat = 1 := by decide
  rw [e1, e2, Nat.and_one_is_mod]
 show IntKind.u64.wrap ((BitVec.ofInt 64 (m : Int) &&& BitVec.ofInt 64 1).toNat : Int) = _
 rw [e]
 exact IntWalk.u64_in _ (by omega)
end Go.Proofs.YtegaaccioppfjaaGreatDoor
end
