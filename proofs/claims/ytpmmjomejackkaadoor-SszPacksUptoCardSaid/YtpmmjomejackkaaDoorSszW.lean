/- What the statements of chapter 08 begin with. -/
import Derived.Test.YtpmmjomejackkaaDoorSszM
import Derived.Test.YtpmmjomejackkaaDoorSszN
import Derived.Test.YtpmmjomejackkaaDoorSszO
import Derived.Test.YtpmmjomejackkaaDoorHeldIn
set_option linter.unusedSimpArgs false
set_option linter.unusedVariables false
namespace Go.Proofs.YtpmmjomejackkaaDoor
open BigFrame Go.RowKit Go.Phx Go.Shelf
attribute [local go_sem] Oper.semAt_some

/-- so many bytes 0, made and read as a text -/
theorem run_noughts (n : Nat) (hn : n ≤ 65536) (w : World) : ∃ w1 v, (Instr.makeSlice 39 (.int .i64 n) (.int .i64 n)).run Tryd.prog w = .ok v w1 ∧ (convert 39 9 v).run Tryd.prog w1 = .ok (.string (bs (List.replicate n 0))) w1 ∧ Below w.heap.size w w1 := by
  obtain ⟨i0, hi, hz0, hz1, hz2⟩ := info_parts infoU8
  obtain ⟨w1, hmk, hown, hgr⟩ := run_make_full (P := Tryd.prog) w w.heap.size 39 5 i0 (.int .u8 0) 1 Tryd.underlying39 hi hz0 hz1 .i64 .i64 n (by rw [hz2]; omega) (by unfold maxLen; omega) (Nat.le_refl _)
  have hcs : (madeCells (Value.int .u8 0).cells (n * 1)).toList = (List.replicate n (0 : UInt8)).map bv := by
    rw [show (Value.int IntKind.u8 0).cells = #[Value.int .u8 0] from rfl, Nat.mul_one, toList_madeCells_one, List.map_replicate]
    rfl
  rw [hcs] at hown
  exact ⟨w1, _, hmk, conv_cells w1 _ _ n n (by simp) (own_cells hown), (Below.refl w.heap.size w).grown hgr (Nat.le_refl _) (fun k e => by cases e)⟩
theorem shown_right : RightP [zero32, zero32] 1 := ⟨by decide, by decide, by decide, by decide, by decide⟩
theorem shown_rootV : rootV [zero32, zero32] 1 = .tuple #[.string (bs (sha (zero32 ++ zero32))), .int .i64 0] := by
  unfold rootV
  rw [if_pos shown_right]
  rfl
theorem shown_ok : BranchOk [zero32, zero32] 1 1 := ⟨shown_right, by decide, by decide⟩
set_option maxRecDepth 100000 in
set_option maxHeartbeats 8000000 in
theorem shown8_calls (w : World) (hk : HasK w) : Calls Tryd.prog 30 #[] w (Ret w (.bool true)) := by
  obtain ⟨w1, v0, hmk, hcv, hB1⟩ := run_noughts 33 (by omega) w
  simp only [show ((33 : Nat) : Int) = 33 from rfl] at hmk
  have hp := pack_calls (List.replicate 33 0) (by simp) w1
  rw [shown_pack] at hp
  have hp2 := Lib.hid hp
  have hrl : (sha (zero32 ++ zero32)).length = 32 := sha_len _
  have hyes : decide (CheckP zero32 [zero32] 1 (sha (zero32 ++ zero32))) = true := decide_eq_true shown_yes
  have hnot : decide (CheckP (sha (zero32 ++ zero32)) [zero32] 1 (sha (zero32 ++ zero32))) = false := decide_eq_false shown_not
  have hrv := shown_rootV
  have hzl : zero32.length = 32 := rfl
  have hk1 := hk.on hB1
  replace hB1 := Lib.hid hB1
  replace hk1 := Lib.hid hk1
  clear hp hk
  go_enter Tryd.func30, Tryd.ntmps30
  go_wp2_with fail
  refine hp2.out.mono ?_
  rintro e w2 ⟨v, rfl, R, h2⟩
  have hB2 := Below.on h2 hB1.out
  have hk2 := hk1.out.on h2
  obtain ⟨A1, c1, rfl, T1⟩ := R.txts
  have hxa : ∀ x ∈ [zero32, zero32], x.length ≤ 9223372036854775807 := fun x hx => by simp at hx; subst hx; decide
  have hroot := root_calls A1 c1 [zero32, zero32] 1 (by decide) hxa w2 hk2 T1
  rw [hrv] at hroot
  replace hroot := Lib.hid hroot
  clear hrv
  generalize hr : sha (zero32 ++ zero32) = r at *
  replace hr := Lib.hid hr
  go_wp2_with fail
  refine hroot.out.mono ?_
  rintro e w3 ⟨rfl, h3⟩
  have hB3 := Below.on h3 hB2
  have hk3 := hk2.on h3
  have T3 := Txts.below T1 h3
  have R3 := LRow.below R h3
  have hbr := branch_calls A1 c1 [zero32, zero32] 1 1 (by decide) hxa w3 hk3 T3
  rw [if_pos shown_ok, if_pos shown_ok, show branchP [zero32, zero32] (1 : Int).toNat (1 : Int).toNat = [zero32] from rfl] at hbr
  replace hbr := Lib.hid hbr
  clear hroot T1 R h2 h3 hB2 hk2
  go_wp2_with fail
  refine hbr.out.mono ?_
  rintro e w4 ⟨v4, rfl, R4, h4⟩
  have hB4 := Below.on h4 hB3
  have hk4 := hk3.on h4
  have R5 := LRow.below R3 h4
  obtain ⟨g1, c1', hv1, _, _⟩ := R5.form1 (by simp)
  simp only [Value.slice.injEq] at hv1
  obtain ⟨rfl, _, rfl⟩ := hv1
  have d1 := LRow.at R5 0 (by simp)
  have d2 := LRow.at R5 1 (by simp)
  obtain ⟨A4, c4, rfl, T4⟩ := R4.txts
  clear hbr T3 R3 hB3 hk3 h4 R4
  have hgr : g1 < w4.heap.size := (R5.lt g1 rfl).2
  have hi1 := fun W => index_txt g1 2 c1 0 0 rfl (by omega) W
  have hi2 := fun W => index_txt g1 2 c1 1 1 rfl (by omega) W
  replace hB4 := Lib.hid hB4
  replace hk4 := Lib.hid hk4
  replace T4 := Lib.hid T4
  clear R5 hxa
  generalize hzz : zero32 = z at *
  replace hzz := Lib.hid hzz
  go_wp2_with fail
  replace d1 : w4.cell? ⟨g1, 0, none⟩ = some (.string (bs z)) := d1
  replace d2 : w4.cell? ⟨g1, 1, none⟩ = some (.string (bs z)) := d2
  have hwf : ∀ f, Fence.wide.fn f := fun _ => trivial
  refine (wpIn_wide (n := 9)).1 ?_
  refine wpIn_round_held (fun w' => Below w4.heap.size w4 w') (fun j => true) (by kernel_rfl) ?_
  have hS0 : Below w4.heap.size w4 w4.drew := (Below.refl _ _).drew
  refine S_take (fun _ => trivial) 0 (.string (bs r)) (by kernel_rfl) rfl (by kernel_rfl) (by kernel_rfl) (by kernel_rfl) (by kernel_rfl) (onlyN_panic _ _) hS0 (by rfl) (fun w' h => by first | (go_simp; done) | (have d1' := (h.cell (p := _) hgr).trans d1; have d2' := (h.cell (p := _) hgr).trans d2; go_simp)) ?_
  refine S_take (fun _ => trivial) 1 (.slice (some ⟨g1, 0, none⟩) 2 c1) (by kernel_rfl) rfl (by kernel_rfl) (by kernel_rfl) (by kernel_rfl) (by kernel_rfl) (onlyN_panic _ _) hS0 (by rfl) (fun w' h => by first | (go_simp; done) | (have d1' := (h.cell (p := _) hgr).trans d1; have d2' := (h.cell (p := _) hgr).trans d2; go_simp)) ?_
  refine S_take (fun _ => trivial) 2 (.pointer (some ⟨g1, 0, none⟩)) (by kernel_rfl) rfl (by kernel_rfl) (by kernel_rfl) (by kernel_rfl) (by kernel_rfl) (onlyN_panic _ _) hS0 (by rfl) (fun w' h => by first | (go_simp; done) | (have d1' := (h.cell (p := _) hgr).trans d1; have d2' := (h.cell (p := _) hgr).trans d2; go_simp)) ?_
  refine S_take (fun _ => trivial) 3 (.string (bs z)) (by kernel_rfl) rfl (by kernel_rfl) (by kernel_rfl) (by kernel_rfl) (by kernel_rfl) (onlyN_panic _ _) hS0 (by rfl) (fun w' h => by first | (go_simp; done) | (have d1' := (h.cell (p := _) hgr).trans d1; have d2' := (h.cell (p := _) hgr).trans d2; go_simp)) ?_
  refine S_take (fun _ => trivial) 4 (.slice (some ⟨g1, 0, none⟩) 2 c1) (by kernel_rfl) rfl (by kernel_rfl) (by kernel_rfl) (by kernel_rfl) (by kernel_rfl) (onlyN_panic _ _) hS0 (by rfl) (fun w' h => by first | (go_simp; done) | (have d1' := (h.cell (p := _) hgr).trans d1; have d2' := (h.cell (p := _) hgr).trans d2; go_simp)) ?_
  refine S_take (fun _ => trivial) 5 (.pointer (some ⟨g1, 1, none⟩)) (by kernel_rfl) rfl (by kernel_rfl) (by kernel_rfl) (by kernel_rfl) (by kernel_rfl) (onlyN_panic _ _) hS0 (by rfl) (fun w' h => by first | (go_simp; done) | (have d1' := (h.cell (p := _) hgr).trans d1; have d2' := (h.cell (p := _) hgr).trans d2; go_simp)) ?_
  refine S_take (fun _ => trivial) 6 (.string (bs z)) (by kernel_rfl) rfl (by kernel_rfl) (by kernel_rfl) (by kernel_rfl) (by kernel_rfl) (onlyN_panic _ _) hS0 (by rfl) (fun w' h => by first | (go_simp; done) | (have d1' := (h.cell (p := _) hgr).trans d1; have d2' := (h.cell (p := _) hgr).trans d2; go_simp)) ?_
  refine S_one 7 (by kernel_rfl) rfl (fun K hK => ?_)
  go_simp
  have hS1 : Below w4.heap.size w4 (w4.alloc (.cells #[.string (bs z), .string (bs z)] 9)).drew := (by repeat (first | assumption | exact Below.refl _ _ | refine Below.setCell ?_ (by first | exact Nat.le_refl _ | (simp; done) | omega | (simp; omega)) _ | refine Below.alloc ?_ (by first | exact Nat.le_refl _ | (simp; done) | omega | (simp; omega)) _ | refine below_drewN ?_ _ | refine Below.drew ?_ | refine Below.on (by assumption) ?_ | refine Below.via (by assumption) (by first | exact Nat.le_refl _ | (simp; done) | omega | (simp; omega)) ?_))
  refine hK _ _ ⟨fun _ => hS1, ?_⟩
  clear hK K hS0
  refine S_one 8 (by kernel_rfl) rfl (fun K hK => ?_)
  go_simp
  gi_wp2_with (gi_at_call 24; refine (callsIn_wide.2 (sum2_calls z z (by omega) (by omega) _ _ (hk4.out.on hS1) (by exact strs2 w4 _ _))).mono ?_; rintro e w5 ⟨rfl, h5⟩)
  have hS0 : Below w4.heap.size w4 w5 := hS1.trans (h5.mono hS1.size)
  rw [hr.out]
  refine ⟨fun _ => hS0, ?_⟩
  clear hS1 h5
  refine S_take (fun _ => trivial) 9 (.bool true) (by kernel_rfl) rfl (by kernel_rfl) (by kernel_rfl) (by kernel_rfl) (by kernel_rfl) (onlyN_panic _ _) hS0 (by rfl) (fun w' h => by first | (go_simp; done) | (have d1' := (h.cell (p := _) hgr).trans d1; have d2' := (h.cell (p := _) hgr).trans d2; go_simp)) ?_
  refine S_take (fun _ => trivial) 10 (.bool true) (by kernel_rfl) rfl (by kernel_rfl) (by kernel_rfl) (by kernel_rfl) (by kernel_rfl) (onlyN_panic _ _) hS0 (by rfl) (fun w' h => by first | (go_simp; done) | (have d1' := (h.cell (p := _) hgr).trans d1; have d2' := (h.cell (p := _) hgr).trans d2; go_simp)) ?_
  refine S_take (fun _ => trivial) 11 (.slice (some ⟨g1, 0, none⟩) 2 c1) (by kernel_rfl) rfl (by kernel_rfl) (by kernel_rfl) (by kernel_rfl) (by kernel_rfl) (onlyN_panic _ _) hS0 (by rfl) (fun w' h => by first | (go_simp; done) | (have d1' := (h.cell (p := _) hgr).trans d1; have d2' := (h.cell (p := _) hgr).trans d2; go_simp)) ?_
  refine S_take (fun _ => trivial) 12 (.pointer (some ⟨g1, 1, none⟩)) (by kernel_rfl) rfl (by kernel_rfl) (by kernel_rfl) (by kernel_rfl) (by kernel_rfl) (onlyN_panic _ _) hS0 (by rfl) (fun w' h => by first | (go_simp; done) | (have d1' := (h.cell (p := _) hgr).trans d1; have d2' := (h.cell (p := _) hgr).trans d2; go_simp)) ?_
  refine S_take (fun _ => trivial) 13 (.string (bs z)) (by kernel_rfl) rfl (by kernel_rfl) (by kernel_rfl) (by kernel_rfl) (by kernel_rfl) (onlyN_panic _ _) hS0 (by rfl) (fun w' h => by first | (go_simp; done) | (have d1' := (h.cell (p := _) hgr).trans d1; have d2' := (h.cell (p := _) hgr).trans d2; go_simp)) ?_
  refine S_take (fun _ => trivial) 14 (.slice A4 1 c4) (by kernel_rfl) rfl (by kernel_rfl) (by kernel_rfl) (by kernel_rfl) (by kernel_rfl) (onlyN_panic _ _) hS0 (by rfl) (fun w' h => by first | (go_simp; done) | (have d1' := (h.cell (p := _) hgr).trans d1; have d2' := (h.cell (p := _) hgr).trans d2; go_simp)) ?_
  refine S_take (fun _ => trivial) 15 (.string (bs r)) (by kernel_rfl) rfl (by kernel_rfl) (by kernel_rfl) (by kernel_rfl) (by kernel_rfl) (onlyN_panic _ _) hS0 (by rfl) (fun w' h => by first | (go_simp; done) | (have d1' := (h.cell (p := _) hgr).trans d1; have d2' := (h.cell (p := _) hgr).trans d2; go_simp)) ?_
  have hza : ∀ y ∈ [z], y.length ≤ 1000000000 := fun y hy => by simp at hy; subst hy; omega
  replace hza := Lib.hid hza
  refine S_one 16 (by kernel_rfl) rfl (fun K hK => ?_)
  go_simp
  gi_wp2_with (gi_at_call 37; refine (callsIn_wide.2 (check_calls z A4 c4 [z] 1 r (by omega) (by omega) (by simp) (by omega) hza.out _ (hk4.out.on hS0) (Txts.below T4.out hS0))).mono ?_; rintro e w6 ⟨rfl, h6⟩)
  have hS2 : Below w4.heap.size w4 w6 := hS0.trans (h6.mono hS0.size)
  try rw [hyes]
  refine ⟨fun _ => hS2, ?_⟩
  clear hS0 h6
  have hS0 := hS2
  clear hS2
  refine S_take (fun _ => trivial) 17 (.bool true) (by kernel_rfl) rfl (by kernel_rfl) (by kernel_rfl) (by kernel_rfl) (by kernel_rfl) (onlyN_panic _ _) hS0 (by rfl) (fun w' h => by first | (go_simp; done) | (have d1' := (h.cell (p := _) hgr).trans d1; have d2' := (h.cell (p := _) hgr).trans d2; go_simp)) ?_
  refine S_take (fun _ => trivial) 18 (.bool true) (by kernel_rfl) rfl (by kernel_rfl) (by kernel_rfl) (by kernel_rfl) (by kernel_rfl) (onlyN_panic _ _) hS0 (by rfl) (fun w' h => by first | (go_simp; done) | (have d1' := (h.cell (p := _) hgr).trans d1; have d2' := (h.cell (p := _) hgr).trans d2; go_simp)) ?_
  refine S_take (fun _ => trivial) 19 (.string (bs r)) (by kernel_rfl) rfl (by kernel_rfl) (by kernel_rfl) (by kernel_rfl) (by kernel_rfl) (onlyN_panic _ _) hS0 (by rfl) (fun w' h => by first | (go_simp; done) | (have d1' := (h.cell (p := _) hgr).trans d1; have d2' := (h.cell (p := _) hgr).trans d2; go_simp)) ?_
  refine S_take (fun _ => trivial) 20 (.slice A4 1 c4) (by kernel_rfl) rfl (by kernel_rfl) (by kernel_rfl) (by kernel_rfl) (by kernel_rfl) (onlyN_panic _ _) hS0 (by rfl) (fun w' h => by first | (go_simp; done) | (have d1' := (h.cell (p := _) hgr).trans d1; have d2' := (h.cell (p := _) hgr).trans d2; go_simp)) ?_
  refine S_take (fun _ => trivial) 21 (.string (bs r)) (by kernel_rfl) rfl (by kernel_rfl) (by kernel_rfl) (by kernel_rfl) (by kernel_rfl) (onlyN_panic _ _) hS0 (by rfl) (fun w' h => by first | (go_simp; done) | (have d1' := (h.cell (p := _) hgr).trans d1; have d2' := (h.cell (p := _) hgr).trans d2; go_simp)) ?_
  refine S_one 22 (by kernel_rfl) rfl (fun K hK => ?_)
  go_simp
  gi_wp2_with (gi_at_call 37; refine (callsIn_wide.2 (check_calls r A4 c4 [z] 1 r (by omega) (by omega) (by simp) (by omega) hza.out _ (hk4.out.on hS0) (Txts.below T4.out hS0))).mono ?_; rintro e w7 ⟨rfl, h7⟩)
  have hS2 : Below w4.heap.size w4 w7 := hS0.trans (h7.mono hS0.size)
  try rw [hnot]
  refine ⟨fun _ => hS2, ?_⟩
  clear hS0 h7
  have hS0 := hS2
  clear hS2
  refine S_take (fun _ => trivial) 23 (.bool true) (by kernel_rfl) rfl (by kernel_rfl) (by kernel_rfl) (by kernel_rfl) (by kernel_rfl) (onlyN_panic _ _) hS0 (by rfl) (fun w' h => by first | (go_simp; done) | (have d1' := (h.cell (p := _) hgr).trans d1; have d2' := (h.cell (p := _) hgr).trans d2; go_simp)) ?_
  refine S_take (fun _ => trivial) 24 (.bool true) (by kernel_rfl) rfl (by kernel_rfl) (by kernel_rfl) (by kernel_rfl) (by kernel_rfl) (onlyN_panic _ _) hS0 (by rfl) (fun w' h => by first | (go_simp; done) | (have d1' := (h.cell (p := _) hgr).trans d1; have d2' := (h.cell (p := _) hgr).trans d2; go_simp)) ?_
  refine S_take (fun _ => trivial) 25 (.bool true) (by kernel_rfl) rfl (by kernel_rfl) (by kernel_rfl) (by kernel_rfl) (by kernel_rfl) (onlyN_panic _ _) hS0 (by rfl) (fun w' h => by first | (go_simp; done) | (have d1' := (h.cell (p := _) hgr).trans d1; have d2' := (h.cell (p := _) hgr).trans d2; go_simp)) ?_
  refine ⟨by kernel_rfl, rfl, ?_⟩
  go_wp2_with fail
  go_ret
  exact ⟨rfl, Below.on hS0 hB4.out⟩
end Go.Proofs.YtpmmjomejackkaaDoor
