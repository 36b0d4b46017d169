/- The sum of a text, by the reference. -/
import Derived.Test.YtpmmjomejackkaaDoorSha8
import Derived.Test.YtpmmjomejackkaaDoorApp
set_option linter.unusedSimpArgs false
set_option linter.unusedVariables false
namespace Go.Proofs.YtpmmjomejackkaaDoor
open BigFrame Go.RowKit Go.Phx Go.Shelf
attribute [local go_sem] Oper.semAt_some

theorem infoU8 : (Tryd.prog.info? 5).map (fun i => (i.zero, i.size, i.bytes)) = some (some (.int .u8 0), 1, 1) := by kernel_rfl
/-- a call hands back bytes of its own -/
def Gave (w : World) (l : List UInt8) (e : Ending) (w' : World) : Prop := ∃ g cap, e = .returned (.slice (some ⟨g, 0, none⟩) l.length cap) ∧ OwnX w' w.heap.size 5 (.slice (some ⟨g, 0, none⟩) l.length cap) l.length (l.map bv) ∧ Below w.heap.size w w'
/-- bytes 0 behind a text and a byte 128, so many -/
def pad0 (l : List UInt8) (k : Nat) : List UInt8 := l ++ 128 :: List.replicate k 0
theorem pad0_len (l : List UInt8) (k : Nat) : (pad0 l k).length = l.length + 1 + k := by simp [pad0]; omega
theorem pad0_succ (l : List UInt8) (k : Nat) : pad0 l (k + 1) = pad0 l k ++ [0] := by unfold pad0; rw [List.replicate_succ']; simp

set_option maxRecDepth 100000 in
set_option maxHeartbeats 2000000 in
theorem padded_calls (l : List UInt8) (hl : l.length ≤ 100000000000000) (w : World) : Calls Tryd.prog 62 #[.string (bs l)] w (Gave w (padS l)) := by
  obtain ⟨i0, hi, hz0, hz1, hz2⟩ := info_parts infoU8
  go_enter Tryd.func62, Tryd.ntmps62
  go_wp2_with (at_builtin; refine wpList_append_X rfl _ _ 39 rfl w.heap.size 5 i0 (.int .u8 0) Tryd.underlying39 hi hz0 hz1 hz2 rfl _ _ _ rfl ((txt_own w l _ (Nat.le_refl _) (by omega)).alloc _) ⟨_, 0, none⟩ 1 1 [.int .u8 128] rfl rfl (news1 _ _ _) (by simp [Value.oneCell']) (by omega) (by simp [txtCells]; omega) ?_)
  intro v1 w1 hown hg
  have H1 : HoldsX w w1 v1 (pad0 l 0) := HoldsX.step (q := l) 128 ⟨txt_own w l _ (Nat.le_refl _) (by omega), txt_below _ _⟩ rfl hown hg
  clear hown hg
  obtain ⟨c, hc⟩ : ∃ c, (119 - l.length % 64) % 64 = c := ⟨_, rfl⟩
  have hc1 : c < 64 := by omega
  have hcm : ∀ k, k ≤ c → ((l.length + 1 + k) % 64 = 56 ↔ k = c) := fun k hk => by omega
  have HC := Lib.hid hc
  have HCM := Lib.hid hcm
  clear hc hcm
  go_wp2_with fail
  go_loopw [3] (fun v wr => ∃ k : Nat, k ≤ c ∧ HoldsX w wr v (pad0 l k)) (fun v _ => match v with | .slice _ n _ => l.length + 65 - n | _ => 0)
  case atStart => exact ⟨0, by omega, H1⟩
  case round =>
    clear H1
    obtain ⟨k, hk, H⟩ := hrel
    obtain ⟨g, cap, rfl, hbg, hgl, hnc, hcm, hcell⟩ := H.own.form
    have hlen := pad0_len l k
    have hiff := HCM.out k hk
    rw [← hlen] at hiff
    by_cases hlt : k < c
    · have t1 : (((pad0 l k).length : Int) % 64 == 56) = false := by rw [beq_eq_false_iff_ne]; omega
      have t2 : (((pad0 l k).length : Int) % 64 != 56) = true := by rw [bne_iff_ne]; omega
      have hml : (pad0 l k).length ≤ 100000000000100 := by omega
      have HLEN := Lib.hid hlen
      clear hlen hiff hcell hcm hnc
      go_wp2_with (at_builtin; refine wpList_append_X rfl _ _ 39 rfl w.heap.size 5 i0 (.int .u8 0) Tryd.underlying39 hi hz0 hz1 hz2 rfl _ _ _ rfl (H.own.alloc _) ⟨_, 0, none⟩ 1 1 [.int .u8 0] rfl rfl (news1 _ _ _) (by simp [Value.oneCell']) (by omega) (by have := H.below.size; simp; omega) ?_)
      intro v2 w2 hown hg
      have H2 := H.step 0 rfl hown hg
      rw [← pad0_succ] at H2
      have hl2 := pad0_len l (k + 1)
      have hl1 := HLEN.out
      have em : v2 = .slice (some ⟨(H2.own.form).choose, 0, none⟩) (pad0 l (k + 1)).length (H2.own.form).choose_spec.choose := (H2.own.form).choose_spec.choose_spec.1
      clear hown hg
      replace H2 := Lib.hid H2
      go_wp2_with fail
      go_roundw
      case rel => exact ⟨k + 1, by omega, H2.out⟩
      case measure => rw [em]; simp only; omega
    · obtain rfl : k = c := by omega
      have t1 : (((pad0 l k).length : Int) % 64 == 56) = true := by rw [beq_iff_eq]; omega
      have t2 : (((pad0 l k).length : Int) % 64 != 56) = false := by simp; omega
      have hml : (pad0 l k).length ≤ 100000000000100 := by omega
      clear hlen hiff hcell hcm hnc HCM
      have hpad : pad0 l k ++ (List.range 8).map (fun i => UInt8.ofNat (8 * l.length / 2 ^ (56 - 8 * i))) = padS l := by
        rw [← HC.out]
        unfold pad0 padS tail64
        simp
      have HPAD := Lib.hid hpad
      clear hpad HC
      go_wp2_with fail
      go_loopw [3, 5] (fun v i wr => ∃ j : Nat, j ≤ 8 ∧ i = .int .i64 (7 - j) ∧ HoldsX w wr v (pad0 l k ++ (List.range j).map fun i => UInt8.ofNat (8 * l.length / 2 ^ (56 - 8 * i)))) (fun _ i _ => (intOf i + 1).toNat)
      case atStart => exact ⟨0, by omega, rfl, by simpa using H⟩
      case round =>
        clear H
        obtain ⟨j, hj, rfl, H⟩ := hrel
        obtain ⟨q, hq⟩ : ∃ q, (pad0 l k ++ (List.range j).map fun i => UInt8.ofNat (8 * l.length / 2 ^ (56 - 8 * i))) = q := ⟨_, rfl⟩
        have hql : q.length ≤ 100000000000200 := by rw [← hq]; simp; omega
        rw [hq] at H
        have HQ := Lib.hid hq
        clear hq
        obtain ⟨g2, cap2, rfl, hbg2, hgl2, hnc2, hcm2, hcell2⟩ := H.own.form
        by_cases hlt8 : j < 8
        · clear hcell2 hcm2 hnc2
          have hx : 8 * (l.length : Int) / 2 ^ (8 * (7 - j)) % 256 = ((UInt8.ofNat (8 * l.length / 2 ^ (56 - 8 * j))).toNat : Int) := by
            rw [show 8 * (7 - j) = 56 - 8 * j by omega]
            have e : (8 * (l.length : Int) / 2 ^ (56 - 8 * j)) = ((8 * l.length / 2 ^ (56 - 8 * j) : Nat) : Int) := by simp
            rw [e]
            generalize 8 * l.length / 2 ^ (56 - 8 * j) = m
            simp
          replace hx := Lib.hid hx
          go_wp2_with (at_builtin; refine wpList_append_X rfl _ _ 39 rfl w.heap.size 5 i0 (.int .u8 0) Tryd.underlying39 hi hz0 hz1 hz2 rfl _ _ _ rfl (H.own.alloc _) ⟨_, 0, none⟩ 1 1 [.int .u8 (8 * (l.length : Int) / 2 ^ (8 * (7 - j)) % 256)] rfl rfl (news1 _ _ _) (by simp [Value.oneCell']) (by omega) (by have := H.below.size; simp; omega) ?_)
          intro v2 w2 hown hg
          have H2 := H.step _ hx.out hown hg
          rw [← HQ.out, List.append_assoc, show (List.range j).map (fun i => UInt8.ofNat (8 * l.length / 2 ^ (56 - 8 * i))) ++ [UInt8.ofNat (8 * l.length / 2 ^ (56 - 8 * j))] = (List.range (j + 1)).map (fun i => UInt8.ofNat (8 * l.length / 2 ^ (56 - 8 * i))) from by rw [List.range_succ, List.map_append]; rfl] at H2
          clear hown hg
          replace H2 := Lib.hid H2
          go_wp2_with fail
          go_roundw
          case rel => exact ⟨j + 1, by omega, by congr 1; omega, H2.out⟩
          case measure => simp [intOf]; omega
        · obtain rfl : j = 8 := by omega
          rw [HPAD.out] at HQ
          obtain rfl := HQ.out
          simp only [show (7 : Int) - ((8 : Nat) : Int) = -1 from rfl]
          go_wp2_with fail
          go_ret
          exact ⟨g2, cap2, rfl, H.own, H.below⟩
end Go.Proofs.YtpmmjomejackkaaDoor
