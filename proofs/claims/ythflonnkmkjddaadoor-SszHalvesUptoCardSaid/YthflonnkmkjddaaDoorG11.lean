/- What the later texts stand on (SszW, SszX, SszS, SszT, SszG, SszU, SszI, SszJ, SszK): plain laws and walks, each by its own conditions. -/
import Derived.Test.YthflonnkmkjddaaDoorG10
import Derived.Test.YthflonnkmkjddaaDoorG9
import Derived.Test.YthflonnkmkjddaaDoorG7
import Derived.Test.YthflonnkmkjddaaDoorG8
import Derived.Test.YthflonnkmkjddaaDoorG6
set_option linter.unusedSimpArgs false
set_option linter.unusedVariables false
section
set_option linter.unusedSimpArgs false
set_option linter.unusedVariables false
namespace Go.Proofs.YthflonnkmkjddaaDoor
open BigFrame Go.RowKit Go.Phx Go.Shelf
attribute [local go_sem] Oper.semAt_some

/-- so many bytes 0, made and read as a text -/
theorem run_noughts (n : Nat) (hn : n ≤ 65536) (w : World) : ∃ w1 v, (Instr.makeSlice 28 (.int .i64 n) (.int .i64 n)).run Tryd.prog w = .ok v w1 ∧ (convert 28 9 v).run Tryd.prog w1 = .ok (.string (bs (List.replicate n 0))) w1 ∧ Below w.heap.size w w1 := by
  obtain ⟨i0, hi, hz0, hz1, hz2⟩ := info_parts infoU8
  obtain ⟨w1, hmk, hown, hgr⟩ := run_make_full (P := Tryd.prog) w w.heap.size 28 5 i0 (.int .u8 0) 1 Tryd.underlying28 hi hz0 hz1 .i64 .i64 n (by rw [hz2]; omega) (by unfold maxLen; omega) (Nat.le_refl _)
  have hcs : (madeCells (Value.int .u8 0).cells (n * 1)).toList = (List.replicate n (0 : UInt8)).map bv := by
    rw [show (Value.int IntKind.u8 0).cells = #[Value.int .u8 0] from rfl, Nat.mul_one, toList_madeCells_one, List.map_replicate]
    rfl
  rw [hcs] at hown
  exact ⟨w1, _, hmk, conv_cells w1 _ _ n n (by simp) (own_cells hown), (Below.refl w.heap.size w).grown hgr (Nat.le_refl _) (fun k e => by cases e)⟩
theorem shown_right : RightP [zero32, zero32] 1 := ⟨by decide, by decide, by decide, by decide, by decide⟩
theorem shown_rootV : rootV [zero32, zero32] 1 = .tuple #[.string (bs (sha (zero32 ++ zero32))), .int .i64 0] := by
  unfold rootV
  rw [if_pos shown_right]
  rfl
theorem shown_ok : BranchOk [zero32, zero32] 1 1 := ⟨shown_right, by decide, by decide⟩
set_option maxRecDepth 100000 in
set_option maxHeartbeats 8000000 in
theorem shown8_calls (w : World) (hk : HasK w) : Calls Tryd.prog 4 #[] w (Ret w (.bool true)) := by
  obtain ⟨w1, v0, hmk, hcv, hB1⟩ := run_noughts 33 (by omega) w
  simp only [show ((33 : Nat) : Int) = 33 from rfl] at hmk
  have hp := pack_calls (List.replicate 33 0) (by simp) w1
  rw [shown_pack] at hp
  have hp2 := Lib.hid hp
  have hrl : (sha (zero32 ++ zero32)).length = 32 := sha_len _
  have hyes : decide (CheckP zero32 [zero32] 1 (sha (zero32 ++ zero32))) = true := decide_eq_true shown_yes
  have hnot : decide (CheckP (sha (zero32 ++ zero32)) [zero32] 1 (sha (zero32 ++ zero32))) = false := decide_eq_false shown_not
  have hrv := shown_rootV
  have hzl : zero32.length = 32 := rfl
  have hk1 := hk.on hB1
  replace hB1 := Lib.hid hB1
  replace hk1 := Lib.hid hk1
  clear hp hk
  go_enter Tryd.func4, Tryd.ntmps4
  go_wp2_with fail
  refine hp2.out.mono ?_
  rintro e w2 ⟨v, rfl, R, h2⟩
  have hB2 := Below.on h2 hB1.out
  have hk2 := hk1.out.on h2
  obtain ⟨A1, c1, rfl, T1⟩ := R.txts
  have hxa : ∀ x ∈ [zero32, zero32], x.length ≤ 9223372036854775807 := fun x hx => by simp at hx; subst hx; decide
  have hroot := zroot_calls A1 c1 [zero32, zero32] 1 (by decide) hxa w2 hk2 T1
  rw [hrv] at hroot
  replace hroot := Lib.hid hroot
  clear hrv
  generalize hr : sha (zero32 ++ zero32) = r at *
  replace hr := Lib.hid hr
  go_wp2_with fail
  refine hroot.out.mono ?_
  rintro e w3 ⟨rfl, h3⟩
  have hB3 := Below.on h3 hB2
  have hk3 := hk2.on h3
  have T3 := Txts.below T1 h3
  have R3 := LRow.below R h3
  have hbr := branch_calls A1 c1 [zero32, zero32] 1 1 (by decide) hxa w3 hk3 T3
  rw [if_pos shown_ok, if_pos shown_ok, show branchP [zero32, zero32] (1 : Int).toNat (1 : Int).toNat = [zero32] from rfl] at hbr
  replace hbr := Lib.hid hbr
  clear hroot T1 R h2 h3 hB2 hk2
  go_wp2_with fail
  refine hbr.out.mono ?_
  rintro e w4 ⟨v4, rfl, R4, h4⟩
  have hB4 := Below.on h4 hB3
  have hk4 := hk3.on h4
  have R5 := LRow.below R3 h4
  obtain ⟨g1, c1', hv1, _, _⟩ := R5.form1 (by simp)
  simp only [Value.slice.injEq] at hv1
  obtain ⟨rfl, _, rfl⟩ := hv1
  have d1 := LRow.at R5 0 (by simp)
  have d2 := LRow.at R5 1 (by simp)
  obtain ⟨A4, c4, rfl, T4⟩ := R4.txts
  clear hbr T3 R3 hB3 hk3 h4 R4
  have hgr : g1 < w4.heap.size := (R5.lt g1 rfl).2
  have hi1 := fun W => index_txt g1 2 c1 0 0 rfl (by omega) W
  have hi2 := fun W => index_txt g1 2 c1 1 1 rfl (by omega) W
  replace hB4 := Lib.hid hB4
  replace hk4 := Lib.hid hk4
  replace T4 := Lib.hid T4
  clear R5 hxa
  generalize hzz : zero32 = z at *
  replace hzz := Lib.hid hzz
  go_wp2_with fail
  replace d1 : w4.cell? ⟨g1, 0, none⟩ = some (.string (bs z)) := d1
  replace d2 : w4.cell? ⟨g1, 1, none⟩ = some (.string (bs z)) := d2
  have hwf : ∀ f, Fence.wide.fn f := fun _ => trivial
  refine (wpIn_wide (n := 9)).1 ?_
  refine wpIn_round_held (fun w' => Below w4.heap.size w4 w') (fun j => true) (by kernel_rfl) ?_
  have hS0 : Below w4.heap.size w4 w4.drew := (Below.refl _ _).drew
  refine S_take (fun _ => trivial) 0 (.string (bs r)) (by kernel_rfl) rfl (by kernel_rfl) (by kernel_rfl) (by kernel_rfl) (by kernel_rfl) (onlyN_panic _ _) hS0 (by rfl) (fun w' h => by first | (go_simp; done) | (have d1' := (h.cell (p := _) hgr).trans d1; have d2' := (h.cell (p := _) hgr).trans d2; go_simp)) ?_
  refine S_take (fun _ => trivial) 1 (.slice (some ⟨g1, 0, none⟩) 2 c1) (by kernel_rfl) rfl (by kernel_rfl) (by kernel_rfl) (by kernel_rfl) (by kernel_rfl) (onlyN_panic _ _) hS0 (by rfl) (fun w' h => by first | (go_simp; done) | (have d1' := (h.cell (p := _) hgr).trans d1; have d2' := (h.cell (p := _) hgr).trans d2; go_simp)) ?_
  refine S_take (fun _ => trivial) 2 (.pointer (some ⟨g1, 0, none⟩)) (by kernel_rfl) rfl (by kernel_rfl) (by kernel_rfl) (by kernel_rfl) (by kernel_rfl) (onlyN_panic _ _) hS0 (by rfl) (fun w' h => by first | (go_simp; done) | (have d1' := (h.cell (p := _) hgr).trans d1; have d2' := (h.cell (p := _) hgr).trans d2; go_simp)) ?_
  refine S_take (fun _ => trivial) 3 (.string (bs z)) (by kernel_rfl) rfl (by kernel_rfl) (by kernel_rfl) (by kernel_rfl) (by kernel_rfl) (onlyN_panic _ _) hS0 (by rfl) (fun w' h => by first | (go_simp; done) | (have d1' := (h.cell (p := _) hgr).trans d1; have d2' := (h.cell (p := _) hgr).trans d2; go_simp)) ?_
  refine S_take (fun _ => trivial) 4 (.slice (some ⟨g1, 0, none⟩) 2 c1) (by kernel_rfl) rfl (by kernel_rfl) (by kernel_rfl) (by kernel_rfl) (by kernel_rfl) (onlyN_panic _ _) hS0 (by rfl) (fun w' h => by first | (go_simp; done) | (have d1' := (h.cell (p := _) hgr).trans d1; have d2' := (h.cell (p := _) hgr).trans d2; go_simp)) ?_
  refine S_take (fun _ => trivial) 5 (.pointer (some ⟨g1, 1, none⟩)) (by kernel_rfl) rfl (by kernel_rfl) (by kernel_rfl) (by kernel_rfl) (by kernel_rfl) (onlyN_panic _ _) hS0 (by rfl) (fun w' h => by first | (go_simp; done) | (have d1' := (h.cell (p := _) hgr).trans d1; have d2' := (h.cell (p := _) hgr).trans d2; go_simp)) ?_
  refine S_take (fun _ => trivial) 6 (.string (bs z)) (by kernel_rfl) rfl (by kernel_rfl) (by kernel_rfl) (by kernel_rfl) (by kernel_rfl) (onlyN_panic _ _) hS0 (by rfl) (fun w' h => by first | (go_simp; done) | (have d1' := (h.cell (p := _) hgr).trans d1; have d2' := (h.cell (p := _) hgr).trans d2; go_simp)) ?_
  refine S_one 7 (by kernel_rfl) rfl (fun K hK => ?_)
  go_simp
  have hS1 : Below w4.heap.size w4 (w4.alloc (.cells #[.string (bs z), .string (bs z)] 9)).drew := (by repeat (first | assumption | exact Below.refl _ _ | refine Below.setCell ?_ (by first | exact Nat.le_refl _ | (simp; done) | omega | (simp; omega)) _ | refine Below.alloc ?_ (by first | exact Nat.le_refl _ | (simp; done) | omega | (simp; omega)) _ | refine below_drewN ?_ _ | refine Below.drew ?_ | refine Below.on (by assumption) ?_ | refine Below.via (by assumption) (by first | exact Nat.le_refl _ | (simp; done) | omega | (simp; omega)) ?_))
  refine hK _ _ ⟨fun _ => hS1, ?_⟩
  clear hK K hS0
  refine S_one 8 (by kernel_rfl) rfl (fun K hK => ?_)
  go_simp
  gi_wp2_with (gi_at_call 7; refine (callsIn_wide.2 (sum2_calls z z (by omega) (by omega) _ _ (hk4.out.on hS1) (by exact strs2 w4 _ _))).mono ?_; rintro e w5 ⟨rfl, h5⟩)
  have hS0 : Below w4.heap.size w4 w5 := hS1.trans (h5.mono hS1.size)
  rw [hr.out]
  refine ⟨fun _ => hS0, ?_⟩
  clear hS1 h5
  refine S_take (fun _ => trivial) 9 (.bool true) (by kernel_rfl) rfl (by kernel_rfl) (by kernel_rfl) (by kernel_rfl) (by kernel_rfl) (onlyN_panic _ _) hS0 (by rfl) (fun w' h => by first | (go_simp; done) | (have d1' := (h.cell (p := _) hgr).trans d1; have d2' := (h.cell (p := _) hgr).trans d2; go_simp)) ?_
  refine S_take (fun _ => trivial) 10 (.bool true) (by kernel_rfl) rfl (by kernel_rfl) (by kernel_rfl) (by kernel_rfl) (by kernel_rfl) (onlyN_panic _ _) hS0 (by rfl) (fun w' h => by first | (go_simp; done) | (have d1' := (h.cell (p := _) hgr).trans d1; have d2' := (h.cell (p := _) hgr).trans d2; go_simp)) ?_
  refine S_take (fun _ => trivial) 11 (.slice (some ⟨g1, 0, none⟩) 2 c1) (by kernel_rfl) rfl (by kernel_rfl) (by kernel_rfl) (by kernel_rfl) (by kernel_rfl) (onlyN_panic _ _) hS0 (by rfl) (fun w' h => by first | (go_simp; done) | (have d1' := (h.cell (p := _) hgr).trans d1; have d2' := (h.cell (p := _) hgr).trans d2; go_simp)) ?_
  refine S_take (fun _ => trivial) 12 (.pointer (some ⟨g1, 1, none⟩)) (by kernel_rfl) rfl (by kernel_rfl) (by kernel_rfl) (by kernel_rfl) (by kernel_rfl) (onlyN_panic _ _) hS0 (by rfl) (fun w' h => by first | (go_simp; done) | (have d1' := (h.cell (p := _) hgr).trans d1; have d2' := (h.cell (p := _) hgr).trans d2; go_simp)) ?_
  refine S_take (fun _ => trivial) 13 (.string (bs z)) (by kernel_rfl) rfl (by kernel_rfl) (by kernel_rfl) (by kernel_rfl) (by kernel_rfl) (onlyN_panic _ _) hS0 (by rfl) (fun w' h => by first | (go_simp; done) | (have d1' := (h.cell (p := _) hgr).trans d1; have d2' := (h.cell (p := _) hgr).trans d2; go_simp)) ?_
  refine S_take (fun _ => trivial) 14 (.slice A4 1 c4) (by kernel_rfl) rfl (by kernel_rfl) (by kernel_rfl) (by kernel_rfl) (by kernel_rfl) (onlyN_panic _ _) hS0 (by rfl) (fun w' h => by first | (go_simp; done) | (have d1' := (h.cell (p := _) hgr).trans d1; have d2' := (h.cell (p := _) hgr).trans d2; go_simp)) ?_
  refine S_take (fun _ => trivial) 15 (.string (bs r)) (by kernel_rfl) rfl (by kernel_rfl) (by kernel_rfl) (by kernel_rfl) (by kernel_rfl) (onlyN_panic _ _) hS0 (by rfl) (fun w' h => by first | (go_simp; done) | (have d1' := (h.cell (p := _) hgr).trans d1; have d2' := (h.cell (p := _) hgr).trans d2; go_simp)) ?_
  have hza : ∀ y ∈ [z], y.length ≤ 1000000000 := fun y hy => by simp at hy; subst hy; omega
  replace hza := Lib.hid hza
  refine S_one 16 (by kernel_rfl) rfl (fun K hK => ?_)
  go_simp
  gi_wp2_with (gi_at_call 11; refine (callsIn_wide.2 (check_calls z A4 c4 [z] 1 r (by omega) (by omega) (by simp) (by omega) hza.out _ (hk4.out.on hS0) (Txts.below T4.out hS0))).mono ?_; rintro e w6 ⟨rfl, h6⟩)
  have hS2 : Below w4.heap.size w4 w6 := hS0.trans (h6.mono hS0.size)
  try rw [hyes]
  refine ⟨fun _ => hS2, ?_⟩
  clear hS0 h6
  have hS0 := hS2
  clear hS2
  refine S_take (fun _ => trivial) 17 (.bool true) (by kernel_rfl) rfl (by kernel_rfl) (by kernel_rfl) (by kernel_rfl) (by kernel_rfl) (onlyN_panic _ _) hS0 (by rfl) (fun w' h => by first | (go_simp; done) | (have d1' := (h.cell (p := _) hgr).trans d1; have d2' := (h.cell (p := _) hgr).trans d2; go_simp)) ?_
  refine S_take (fun _ => trivial) 18 (.bool true) (by kernel_rfl) rfl (by kernel_rfl) (by kernel_rfl) (by kernel_rfl) (by kernel_rfl) (onlyN_panic _ _) hS0 (by rfl) (fun w' h => by first | (go_simp; done) | (have d1' := (h.cell (p := _) hgr).trans d1; have d2' := (h.cell (p := _) hgr).trans d2; go_simp)) ?_
  refine S_take (fun _ => trivial) 19 (.string (bs r)) (by kernel_rfl) rfl (by kernel_rfl) (by kernel_rfl) (by kernel_rfl) (by kernel_rfl) (onlyN_panic _ _) hS0 (by rfl) (fun w' h => by first | (go_simp; done) | (have d1' := (h.cell (p := _) hgr).trans d1; have d2' := (h.cell (p := _) hgr).trans d2; go_simp)) ?_
  refine S_take (fun _ => trivial) 20 (.slice A4 1 c4) (by kernel_rfl) rfl (by kernel_rfl) (by kernel_rfl) (by kernel_rfl) (by kernel_rfl) (onlyN_panic _ _) hS0 (by rfl) (fun w' h => by first | (go_simp; done) | (have d1' := (h.cell (p := _) hgr).trans d1; have d2' := (h.cell (p := _) hgr).trans d2; go_simp)) ?_
  refine S_take (fun _ => trivial) 21 (.string (bs r)) (by kernel_rfl) rfl (by kernel_rfl) (by kernel_rfl) (by kernel_rfl) (by kernel_rfl) (onlyN_panic _ _) hS0 (by rfl) (fun w' h => by first | (go_simp; done) | (have d1' := (h.cell (p := _) hgr).trans d1; have d2' := (h.cell (p := _) hgr).trans d2; go_simp)) ?_
  refine S_one 22 (by kernel_rfl) rfl (fun K hK => ?_)
  go_simp
  gi_wp2_with (gi_at_call 11; refine (callsIn_wide.2 (check_calls r A4 c4 [z] 1 r (by omega) (by omega) (by simp) (by omega) hza.out _ (hk4.out.on hS0) (Txts.below T4.out hS0))).mono ?_; rintro e w7 ⟨rfl, h7⟩)
  have hS2 : Below w4.heap.size w4 w7 := hS0.trans (h7.mono hS0.size)
  try rw [hnot]
  refine ⟨fun _ => hS2, ?_⟩
  clear hS0 h7
  have hS0 := hS2
  clear hS2
  refine S_take (fun _ => trivial) 23 (.bool true) (by kernel_rfl) rfl (by kernel_rfl) (by kernel_rfl) (by kernel_rfl) (by kernel_rfl) (onlyN_panic _ _) hS0 (by rfl) (fun w' h => by first | (go_simp; done) | (have d1' := (h.cell (p := _) hgr).trans d1; have d2' := (h.cell (p := _) hgr).trans d2; go_simp)) ?_
  refine S_take (fun _ => trivial) 24 (.bool true) (by kernel_rfl) rfl (by kernel_rfl) (by kernel_rfl) (by kernel_rfl) (by kernel_rfl) (onlyN_panic _ _) hS0 (by rfl) (fun w' h => by first | (go_simp; done) | (have d1' := (h.cell (p := _) hgr).trans d1; have d2' := (h.cell (p := _) hgr).trans d2; go_simp)) ?_
  refine S_take (fun _ => trivial) 25 (.bool true) (by kernel_rfl) rfl (by kernel_rfl) (by kernel_rfl) (by kernel_rfl) (by kernel_rfl) (onlyN_panic _ _) hS0 (by rfl) (fun w' h => by first | (go_simp; done) | (have d1' := (h.cell (p := _) hgr).trans d1; have d2' := (h.cell (p := _) hgr).trans d2; go_simp)) ?_
  refine ⟨by kernel_rfl, rfl, ?_⟩
  go_wp2_with fail
  go_ret
  exact ⟨rfl, Below.on hS0 hB4.out⟩
end Go.Proofs.YthflonnkmkjddaaDoor
end
section
set_option linter.unusedSimpArgs false
set_option linter.unusedVariables false
namespace Go.Proofs.YthflonnkmkjddaaDoor
open BigFrame Go.RowKit Go.Phx Go.Shelf

theorem as_lists (xs : List ByteArray) : ∃ L : List Bytes, xs = L.map bs ∧ L = xs.map fun s => s.data.toList :=
  ⟨xs.map fun s => s.data.toList, by rw [List.map_map]; exact (List.map_id'' (f := bs ∘ fun s : ByteArray => s.data.toList) (fun s => bs_of s) xs).symm, rfl⟩
theorem flat_le : ∀ (L : List Bytes) (y : Bytes), y ∈ L → y.length ≤ L.flatten.length
  | [], y, h => by cases h
  | a :: r, y, h => by
    rw [List.flatten_cons, List.length_append]
    rcases List.mem_cons.1 h with rfl | h
    · omega
    · have := flat_le r y h
      omega
theorem in_bulk {L : List Bytes} {n : Nat} (h : L.length + L.flatten.length ≤ n) : L.length ≤ n ∧ ∀ y ∈ L, y.length ≤ n :=
  ⟨by omega, fun y hy => by have := flat_le L y hy; omega⟩
/-- texts appended to a row of the call's own -/
theorem app_rows (w : World) (base : Nat) (hb : base ≤ w.heap.size) (v : Value) (L0 : List Bytes) (R : LRow base w v L0) (A : Option Addr) (c : Nat) (L : List Bytes) (h0 : L0.length ≤ 1048576) (hL : L.length ≤ 1048576) (hs : Txts w A L) :
    ∃ v' w', (Builtin.append_ #[22, 22] 22 #[v, .slice A L.length c]).run Tryd.prog w = .ok v' w' ∧ LRow base w' v' (L0 ++ L) ∧ w.grownBy w' v.ownBlock := by
  obtain ⟨i0, hi, hz0, hz1, hz2⟩ := info_parts infoStr
  by_cases hz : L = []
  · subst hz
    rw [List.append_nil]
    have hsc : Builtin.firstCells 1 0 (.slice A 0 c) = pure #[] := by
      cases A <;> simp [Builtin.firstCells, loadCells, loadCellsFrom]
    refine ⟨v, w, ?_, R, World.grownBy.refl _ _⟩
    rcases R.2 with ⟨rfl, hl⟩ | ⟨g, cap, cur, rfl, _, _, hc, _⟩
    · simp [Builtin.append_, run_underlying Tryd.underlying22, sizeOf, typeInfo, hi, hz1, Builtin.lenOf, hsc, storeCells]
    · simp [Builtin.append_, run_underlying Tryd.underlying22, sizeOf, typeInfo, hi, hz1, Builtin.lenOf, hsc, storeCells, hc]
  · have hpos : 0 < L.length := by cases L with | nil => exact absurd rfl hz | cons => simp
    obtain ⟨b, o, rfl, hb2, _⟩ := hs.at 0 hpos
    have hcs : ∀ (j : Nat) u, (L.map tv)[j]? = some u → w.cell? ((⟨b, o, none⟩ : Addr).add j) = some u := fun j u hu => by
      have hj : j < L.length := by have := (List.getElem?_eq_some_iff.1 hu).1; simpa using this
      obtain ⟨b', o', he, hlt, hc⟩ := hs.at j hj
      simp only [Option.some.injEq, Addr.mk.injEq, and_true] at he
      obtain ⟨rfl, rfl⟩ := he
      rw [Addr.add_mid, hc]
      rw [List.getElem?_map, List.getElem?_eq_getElem hj] at hu
      simp only [Option.map_some, Option.some.injEq] at hu
      rw [← hu, List.getD, List.getElem?_eq_getElem hj]
      rfl
    obtain ⟨v', w', hr, h2, h3, _, _⟩ := run_append_own_at (P := Tryd.prog) w base 22 22 9 i0 (.string ByteArray.empty) 1 16 Tryd.underlying22 hi hz0 hz1 hz2 rfl (by decide) v L0.length (L0.map tv) R ⟨b, o, none⟩ L.length c (L.map tv) (by simp) hcs (fun u hu => by
      simp only [List.mem_map] at hu
      obtain ⟨x, _, rfl⟩ := hu
      rfl) (by unfold maxLen; omega) (by omega) hb
    refine ⟨v', w', hr, ?_, h3⟩
    unfold LRow
    rw [List.length_append, List.map_append]
    exact h2
end Go.Proofs.YthflonnkmkjddaaDoor
end
section
set_option linter.unusedSimpArgs false
set_option linter.unusedVariables false
namespace Go.Proofs.YthflonnkmkjddaaDoor
open BigFrame Go.RowKit Go.Phx Go.Shelf
attribute [local go_sem] Oper.semAt_some

end Go.Proofs.YthflonnkmkjddaaDoor
end
section
set_option linter.unusedSimpArgs false
set_option linter.unusedVariables false
namespace Go.Proofs.YthflonnkmkjddaaDoor
open BigFrame Go.RowKit Go.Phx Go.Shelf
attribute [local go_sem] Oper.semAt_some

theorem pow_wrap (d : Nat) (hd : d ≤ 10) : wrap64 ((2 : Int) ^ d) = ((2 ^ d : Nat) : Int) := by
  have hp10 : 2 ^ d ≤ 1024 := Nat.le_trans (Nat.pow_le_pow_right (by omega) hd) (by decide)
  have : ((2 : Int) ^ d) = ((2 ^ d : Nat) : Int) := by simp
  rw [this]
  generalize 2 ^ d = N at *
  exact IntWalk.wrap64_in (N : Int) (by omega)
end Go.Proofs.YthflonnkmkjddaaDoor
end
section
set_option linter.unusedSimpArgs false
set_option linter.unusedVariables false
namespace Go.Proofs.YthflonnkmkjddaaDoor
open BigFrame Go.RowKit Go.Phx Go.Shelf
attribute [local go_sem] Oper.semAt_some

end Go.Proofs.YthflonnkmkjddaaDoor
end
section
set_option linter.unusedSimpArgs false
set_option linter.unusedVariables false
namespace Go.Proofs.YthflonnkmkjddaaDoor
open BigFrame Go.RowKit Go.Phx Go.Shelf
attribute [local go_sem] Oper.semAt_some

end Go.Proofs.YthflonnkmkjddaaDoor
end
section
set_option linter.unusedSimpArgs false
set_option linter.unusedVariables false
namespace Go.Proofs.YthflonnkmkjddaaDoor
open BigFrame Go.RowKit Go.Phx Go.Shelf
attribute [local go_sem] Oper.semAt_some

/-- a number's chunk -/
def numP (n : Nat) : Bytes := (List.range 8).map (fun i => UInt8.ofNat (n / 2 ^ (8 * i))) ++ List.replicate 24 0
theorem numP_len (n : Nat) : (numP n).length = 32 := by simp [numP]
theorem numP_at (n k : Nat) (hk : k < 8) : (n : Int) / 2 ^ (8 * k) % 256 = (((numP n).getD k 0).toNat : Int) := by
  have e : (numP n).getD k 0 = UInt8.ofNat (n / 2 ^ (8 * k)) := by
    unfold numP
    rw [List.getD, List.getElem?_append_left (by simp; omega), List.getElem?_map, List.getElem?_range hk]
    rfl
  have e2 : (n : Int) / 2 ^ (8 * k) = ((n / 2 ^ (8 * k) : Nat) : Int) := by simp
  rw [e, e2]
  simp
theorem num_cells (n : Nat) : bcells 32 (numP n) 8 = bcells 32 (numP n) 32 := by
  unfold bcells numP
  simp [List.take_append]
  rw [List.take_of_length_le (by simp)]
set_option maxRecDepth 100000 in
set_option maxHeartbeats 2000000 in
theorem number_calls (n : Nat) (hn : n < 18446744073709551616) (w : World) : Calls Tryd.prog 8 #[.int .u64 n] w (Ret w (.string (bs (numP n)))) := by
  go_enter Tryd.func8, Tryd.ntmps8
  go_wp2_with fail
  have K0 := Lib.hid (Blk.new0 w 51 (bcells 32 (numP n) 0))
  have hB0 : Below w.heap.size w (w.alloc (.cells (bcells 32 (numP n) 0) 51)) := (Below.refl _ _).alloc (Nat.le_refl _) _
  go_loopw [5] (fun i wr => ∃ k : Nat, k ≤ 8 ∧ i = .int .i64 k ∧ Blk wr w.heap.size 51 (bcells 32 (numP n) k) ∧ Below w.heap.size w wr) (fun i _ => (8 - intOf i).toNat)
  case atStart => exact ⟨0, by omega, rfl, K0.out, hB0⟩
  case round =>
    clear K0 hB0
    obtain ⟨k, hk, rfl, K0, hB⟩ := hrel
    by_cases hlt : k < 8
    · have hx := numP_at n k hlt
      have hset := bcells_set 32 (numP n) k (by omega) (numP_len n) _ hx
      have HS := Lib.hid hset
      clear hset hx
      replace K0 := Lib.hid K0
      (have k0 := Blk.cell K0.out; have f0 := Blk.free K0.out; have l0 := Blk.lt K0.out; have m0 := Nat.le_of_lt l0)
      have gk := bcells_at 32 (numP n) k (by omega) (numP_len n)
      go_wp2_with fail
      exact ⟨⟨k + 1, by omega, by go_num, by rw [← HS.out]; exact K0.out.set_ _ _, hB.setCell (by simp) _⟩, by simp [intOf]; omega⟩
    · obtain rfl : k = 8 := by omega
      rw [num_cells, bcells_all 32 (numP n) (numP_len n)] at K0
      have hcv := fun c => conv_row wr w.heap.size _ (numP n) 32 c K0 (numP_len n)
      replace K0 := Lib.hid K0
      simp only [show ((8 : Nat) : Int) = 8 from rfl]
      go_wp2_with fail
      go_ret
      exact ⟨rfl, hB⟩
set_option maxRecDepth 100000 in
/-- a root with a length, by the program -/
theorem mix_calls (r : Bytes) (hr : r.length ≤ 9223372036854775807) (n : Nat) (hn : n < 18446744073709551616) (w : World) (hk : HasK w) :
    Calls Tryd.prog 6 #[.string (bs r), .int .u64 n] w (Ret w (if r.length = 32 then .tuple #[.string (bs (sha (r ++ numP n))), .int .i64 0] else .tuple #[.string { data := #[] }, .int .i64 80])) := by
  have hl := numP_len n
  by_cases h : r.length = 32
  · rw [if_pos h]
    go_enter Tryd.func6, Tryd.ntmps6
    go_wp2_with fail
    refine (isChunk_calls r hr _).mono ?_
    rintro e w1 ⟨rfl, h1⟩
    go_wp2_with fail
    refine (number_calls n hn _).mono ?_
    rintro e w2 ⟨rfl, h2⟩
    have h12 := Below.on h2 h1
    go_wp2_with fail
    refine (sum2_calls r (numP n) (by omega) (by omega) _ _ (by exact hk.on (h12.alloc h12.size _)) (by exact strs2 w2 _ _)).mono ?_
    rintro e w3 ⟨rfl, h3⟩
    go_wp2_with fail
    go_ret2
    exact ⟨rfl, Below.on h3 (h12.alloc h12.size _)⟩
  · rw [if_neg h]
    go_enter Tryd.func6, Tryd.ntmps6
    go_wp2_with fail
    refine (isChunk_calls r hr _).mono ?_
    rintro e w1 ⟨rfl, h1⟩
    go_wp2_with fail
    go_ret2
    exact ⟨rfl, h1⟩
end Go.Proofs.YthflonnkmkjddaaDoor
end
section
set_option linter.unusedSimpArgs false
set_option linter.unusedVariables false
namespace Go.Proofs.YthflonnkmkjddaaDoor
open BigFrame Go.RowKit Go.Phx Go.Shelf
attribute [local go_sem] Oper.semAt_some

end Go.Proofs.YthflonnkmkjddaaDoor
end
section
set_option linter.unusedSimpArgs false
set_option linter.unusedVariables false
namespace Go.Proofs.YthflonnkmkjddaaDoor
open BigFrame Go.RowKit Go.Phx Go.Shelf
attribute [local go_sem] Oper.semAt_some

end Go.Proofs.YthflonnkmkjddaaDoor
end
