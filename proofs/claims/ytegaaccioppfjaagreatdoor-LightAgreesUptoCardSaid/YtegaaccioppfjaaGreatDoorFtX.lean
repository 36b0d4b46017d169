/- What the rows' frames stand on: arguments opened, results shut. No conditions. -/
import Derived.Test.YtegaaccioppfjaaGreatDoorFt18
import Derived.Test.YtegaaccioppfjaaGreatDoorFt8
import Derived.Test.YtegaaccioppfjaaGreatDoorFt17
import Derived.Test.YtegaaccioppfjaaGreatDoorFt15
import Derived.Test.YtegaaccioppfjaaGreatDoorFt16
import Derived.Test.YtegaaccioppfjaaGreatDoorFt23
import Derived.Test.YtegaaccioppfjaaGreatDoorFt22
import Derived.Test.YtegaaccioppfjaaGreatDoorFt28
section
set_option linter.unusedSimpArgs false
set_option linter.unusedVariables false
namespace Go.Proofs.YtegaaccioppfjaaGreatDoor
open BigFrame Go.RowKit Go.Phx Go.Shelf

def forcedU (s : Sr) : Up := if s.best.fin.b.slot ≤ s.fin.b.slot then { s.best with fin := s.best.seen } else s.best
def forceP (s : Sr) : Sr := { clearP (takeP s (forcedU s)) with forced := true }
/-! how a store begins -/
theorem take1_forced (s : Sr) (u : Up) : (takeP1 s u).forced = s.forced := by unfold takeP1; split <;> split <;> rfl
theorem take_fin (s : Sr) (u : Up) : (takeP s u).fin = if s.fin.b.slot < u.fin.b.slot then u.fin else s.fin := by
  unfold takeP takeP2
  rw [take1_fin]
  split <;> simp [take1_fin]
theorem take_new (s : Sr) (u : Up) : (takeP s u).new = if s.fin.b.slot < u.fin.b.slot ∧ s.new.b.slot < u.fin.b.slot then u.fin else s.new := by
  unfold takeP takeP2
  rw [take1_fin, take1_new]
  by_cases h : s.fin.b.slot < u.fin.b.slot
  · by_cases k : s.new.b.slot < u.fin.b.slot <;> simp [h, k]
  · simp [h, take1_new]
theorem take_forced (s : Sr) (u : Up) : (takeP s u).forced = s.forced := by
  unfold takeP takeP2
  split <;> exact take1_forced s u
theorem best_fin (s : Sr) (u : Up) : (newP (thisP (bestP s u) u) u).fin = s.fin := by unfold newP thisP bestP; split <;> split <;> rfl
theorem best_forced (s : Sr) (u : Up) : (newP (thisP (bestP s u) u) u).forced = s.forced := by unfold newP thisP bestP; split <;> split <;> rfl
theorem best_now (s : Sr) (u : Up) : (newP (thisP (bestP s u) u) u).now = s.now := by unfold newP thisP bestP; split <;> split <;> rfl
theorem best_next (s : Sr) (u : Up) : (newP (thisP (bestP s u) u) u).next = s.next := by unfold newP thisP bestP; split <;> split <;> rfl
theorem best_new (s : Sr) (u : Up) : (newP (thisP (bestP s u) u) u).new = s.new ∨ (newP (thisP (bestP s u) u) u).new = u.seen ∧ s.new.b.slot < u.seen.b.slot := by
  have e : (thisP (bestP s u) u).new = s.new := by unfold thisP bestP; split <;> rfl
  unfold newP
  split
  · rename_i h
    rw [e] at h
    exact .inr ⟨rfl, h.2⟩
  · exact .inl e
theorem apply_fin (s : Sr) (u : Up) : (applyP s u).fin = if goesP s u = true ∧ s.fin.b.slot < u.fin.b.slot then u.fin else s.fin := by
  unfold applyP
  dsimp only
  by_cases h : goesP s u = true
  · rw [if_pos h]
    show (takeP _ u).fin = _
    rw [take_fin, best_fin]
    simp [h]
  · rw [if_neg h, best_fin, if_neg fun x => h x.1]
theorem apply_new (s : Sr) (u : Up) : (applyP s u).new = s.new ∨ (applyP s u).new = u.seen ∧ s.new.b.slot < u.seen.b.slot ∨ (applyP s u).new = u.fin ∧ s.new.b.slot < u.fin.b.slot := by
  have hb := best_new s u
  unfold applyP
  dsimp only
  by_cases h : goesP s u = true
  · rw [if_pos h]
    show (takeP _ u).new = _ ∨ (takeP _ u).new = _ ∧ _ ∨ (takeP _ u).new = _ ∧ _
    rw [take_new]
    split
    · rename_i k
      rcases hb with e | ⟨e, k2⟩
      · rw [e] at k
        exact .inr (.inr ⟨rfl, k.2⟩)
      · rw [e] at k
        exact .inr (.inr ⟨rfl, Nat.lt_trans k2 k.2⟩)
    · rcases hb with e | e
      · exact .inl e
      · exact .inr (.inl e)
  · rw [if_neg h]
    rcases hb with e | e
    · exact .inl e
    · exact .inr (.inl e)
theorem apply_forced (s : Sr) (u : Up) : (applyP s u).forced = s.forced := by
  unfold applyP
  dsimp only
  split
  · show (takeP _ u).forced = _
    rw [take_forced, best_forced]
  · exact best_forced s u
/-- what a check that finds nothing says -/
theorem check_ok {s : Sr} {u : Up} {now : Nat} (h : checkE s u now = 0) : onesP u.bits ≠ 0 ∧ holdsP u.seen = true ∧ slotsE s u now = 0 ∧ finalE u = 0 ∧ nextE s u = 0 ∧ sigE s u = 0 := by
  unfold checkE at h
  by_cases h1 : onesP u.bits = 0
  · rw [if_pos h1] at h; cases h
  rw [if_neg h1] at h
  by_cases h2 : holdsP u.seen = true
  · rw [if_pos h2] at h
    by_cases h3 : slotsE s u now = 0
    · rw [if_neg (fun h => h h3)] at h
      by_cases h4 : finalE u = 0
      · rw [if_neg (fun h => h h4)] at h
        by_cases h5 : nextE s u = 0
        · rw [if_neg (fun h => h h5)] at h
          exact ⟨h1, h2, h3, h4, h5, h⟩
        · rw [if_pos h5] at h; exact absurd h h5
      · rw [if_pos h4] at h; exact absurd h h4
    · rw [if_pos h3] at h; exact absurd h h3
  · rw [if_neg h2] at h; cases h
theorem slots_ok {s : Sr} {u : Up} {now : Nat} (h : slotsE s u now = 0) : u.slot ≤ now ∧ u.seen.b.slot < u.slot ∧ finSlot u ≤ u.seen.b.slot ∧ (period u.slot = period s.fin.b.slot ∨ period u.slot = period s.fin.b.slot + 1) := by
  unfold slotsE at h
  split at h
  · cases h
  · rename_i h1
    split at h
    · cases h
    · rename_i h2
      refine ⟨by omega, by omega, by omega, ?_⟩
      by_cases e : period u.slot = period s.fin.b.slot
      · exact .inl e
      · refine .inr ?_
        have h3 : laterP s u = true := by
          cases k : laterP s u with
          | true => rfl
          | false => exact absurd ⟨e, k⟩ h2
        unfold laterP at h3
        simp only [Bool.and_eq_true, decide_eq_true_eq] at h3
        exact h3.2
/-- an applied update's steps -/
theorem apply_steps {s : Sr} {u : Up} {now : Nat} (h : checkE s u now = 0) : s.fin.b.slot ≤ (applyP s u).fin.b.slot ∧ s.new.b.slot ≤ (applyP s u).new.b.slot ∧ (applyP s u).fin.b.slot / 64 ≤ s.fin.b.slot / 64 + 1 ∧ u.slot ≤ now := by
  obtain ⟨_, _, h3, _, _, _⟩ := check_ok h
  obtain ⟨a, b, c, d⟩ := slots_ok h3
  rw [fin_slot] at c
  unfold period at d
  refine ⟨?_, ?_, ?_, a⟩
  · rw [apply_fin]
    split
    · omega
    · exact Nat.le_refl _
  · rcases apply_new s u with e | ⟨e, k⟩ | ⟨e, k⟩ <;> rw [e] <;> omega
  · rw [apply_fin]
    split
    · omega
    · omega
theorem force_steps (s : Sr) : s.fin.b.slot ≤ (forceP s).fin.b.slot ∧ s.new.b.slot ≤ (forceP s).new.b.slot := by
  constructor
  · show _ ≤ (takeP s (forcedU s)).fin.b.slot
    rw [take_fin]
    split
    · omega
    · exact Nat.le_refl _
  · show _ ≤ (takeP s (forcedU s)).new.b.slot
    rw [take_new]
    split
    · omega
    · exact Nat.le_refl _
/-- what is held behind an update -/
theorem apply_sees (s : Sr) (u : Up) : ((sameLt (applyP s u).fin s.fin || sameLt (applyP s u).fin u.fin) && (sameLt (applyP s u).new s.new || (sameLt (applyP s u).new u.fin || sameLt (applyP s u).new u.seen))) = true := by
  have h1 : (sameLt (applyP s u).fin s.fin || sameLt (applyP s u).fin u.fin) = true := by
    rw [apply_fin]
    split <;> simp [sameLt_refl]
  have h2 : (sameLt (applyP s u).new s.new || (sameLt (applyP s u).new u.fin || sameLt (applyP s u).new u.seen)) = true := by
    rcases apply_new s u with e | ⟨e, _⟩ | ⟨e, _⟩ <;> rw [e] <;> simp [sameLt_refl]
  rw [h1, h2]
  rfl
/-- what is applied was signed -/
theorem apply_signed {s : Sr} {u : Up} {now : Nat} (h : checkE s u now = 0) (hn : ∀ t g, allB [] t g = false) :
    allB (keysP (commP s u).ks.l u.bits) (textP u.seen.b u.slot) u.sig = true ∧ (keysP (commP s u).ks.l u.bits).length ≠ 0 ∧
    (sameLt (applyP s u).fin s.fin = false → hdOk u.fin.b = true ∧ 32 ≤ 3 * onesP u.bits ∧ CheckP (hdRoot u.fin.b) u.fb.l 3 u.seen.b.state) := by
  obtain ⟨_, _, _, h4, _, h6⟩ := check_ok h
  unfold sigE at h6
  have h7 : allB (keysP (commP s u).ks.l u.bits) (textP u.seen.b u.slot) u.sig = true := by
    cases k : allB (keysP (commP s u).ks.l u.bits) (textP u.seen.b u.slot) u.sig with
    | true => rfl
    | false => rw [k] at h6; cases h6
  refine ⟨h7, fun e => ?_, fun hs => ?_⟩
  · rw [List.eq_nil_of_length_eq_zero e, hn] at h7
    cases h7
  · rw [apply_fin] at hs
    split at hs
    · rename_i g
      have hf : isFinalP u = true := by
        cases k : isFinalP u with
        | true => rfl
        | false => have := not_final k; omega
      unfold finalE at h4
      rw [if_pos hf] at h4
      by_cases k1 : holdsP u.fin = true
      · rw [if_pos k1] at h4
        by_cases k2 : underP (hdRoot u.fin.b) u.fb.l 3 u.seen.b.state = true
        · have g2 := g.1
          unfold goesP twoP at g2
          unfold holdsP at k1
          unfold underP at k2
          simp only [Bool.and_eq_true, decide_eq_true_eq] at g2 k1 k2
          exact ⟨k1.1, g2.1, k2.2⟩
        · rw [if_neg k2] at h4; cases h4
      · rw [if_neg k1] at h4; cases h4
    · rw [sameLt_refl] at hs; cases hs
/-- committees change together, at a period's end alone -/
theorem apply_agrees (s : Sr) (u : Up) : (sameCm (applyP s u).now s.now || (sameCm (applyP s u).now s.next && decide (s.fin.b.slot / 64 < (applyP s u).fin.b.slot / 64))) = true := by
  have key : (applyP s u).now = s.now ∨ (applyP s u).now = s.next ∧ goesP s u = true ∧ s.fin.b.slot / 64 + 1 = u.fin.b.slot / 64 := by
    unfold applyP
    dsimp only
    by_cases h : goesP s u = true
    · rw [if_pos h]
      have e1 : ∀ t : Sr, (takeP t u).now = (takeP1 t u).now := fun t => by unfold takeP takeP2; split <;> rfl
      show (takeP _ u).now = _ ∨ (takeP _ u).now = _ ∧ _
      rw [e1]
      unfold takeP1
      rw [best_next, best_fin]
      split
      · split
        · rename_i k
          exact .inr ⟨rfl, h, k⟩
        · exact .inl (best_now s u)
      · split <;> exact .inl (best_now s u)
    · rw [if_neg h]
      exact .inl (best_now s u)
  rcases key with e | ⟨e, hg, k⟩
  · rw [e, sameCm_refl]
    rfl
  · rw [e, sameCm_refl, apply_fin, if_pos ⟨hg, by omega⟩]
    rw [show decide (s.fin.b.slot / 64 < u.fin.b.slot / 64) = true from decide_eq_true (by omega)]
    simp
end Go.Proofs.YtegaaccioppfjaaGreatDoor
end
section
set_option linter.unusedSimpArgs false
set_option linter.unusedVariables false
namespace Go.Proofs.YtegaaccioppfjaaGreatDoor
open BigFrame Go.RowKit Go.Phx Go.Shelf
set_option maxRecDepth 100000

section
variable {w : World} {g : Nat} {t : TypeId} {cs : Array Value}
end

section
variable {P : Program} {ops : Array Oper} {rest : List Oper} {o : Oper} {a : Act} {w w' : World} {Q : Exit → Act → World → Prop} {ty : TypeId} {p v : Value}
end

theorem stUp {W : World} {b : Nat} (r : Up) (h : Blk W b 33 (upA r)) (v : Up) : (Instr.storeAt 33 (.pointer (some ⟨b, 0, none⟩)) (upV v)).run Tryz.prog W = .ok () (setRow W b 33 (upA v)) := by
  have := run_store_part h [] (upC r) [] (by simp [upA]) rfl (upA v) rfl sizeUp (upA_one v)
  simpa [upA, upV] using this
theorem stUp_fin {W : World} {b : Nat} (r : Up) (h : Blk W b 33 (upA r)) (v : Lt) : (Instr.storeAt 29 (.pointer (some ⟨b, 12, none⟩)) (ltV v)).run Tryz.prog W = .ok () (setRow W b 33 (upA { r with fin := v })) :=
  (run_store_part (o := 12) h ((ltC r.seen) ++ (cmC r.next) ++ (([.slice r.nb.addr r.nb.l.length r.nb.cap] : List Value))) (ltC r.fin) ((([.slice r.fb.addr r.fb.l.length r.fb.cap] : List Value)) ++ (([.int .u64 (r.bits : Int)] : List Value)) ++ (([.string (bs r.sig)] : List Value)) ++ (([.int .u64 (r.slot : Int)] : List Value))) (by kernel_rfl) (by kernel_rfl) (ltA v) (by kernel_rfl) sizeLt (ltA_one v)).trans (by rw [show (((ltC r.seen) ++ (cmC r.next) ++ (([.slice r.nb.addr r.nb.l.length r.nb.cap] : List Value))) ++ ((ltA v).toList ++ ((([.slice r.fb.addr r.fb.l.length r.fb.cap] : List Value)) ++ (([.int .u64 (r.bits : Int)] : List Value)) ++ (([.string (bs r.sig)] : List Value)) ++ (([.int .u64 (r.slot : Int)] : List Value))))).toArray = upA { r with fin := v } from (by kernel_rfl)])
theorem stcSr_forced {W : World} {b : Nat} (r : Sr) (h : Blk W b 35 (srA r)) (v : Bool) : (Instr.storeAt 4 (.pointer (some ⟨b, 50, none⟩)) (.bool v)).run Tryz.prog W = .ok () (setRow W b 35 (srA { r with forced := v })) := by
  rw [← show W.setCell ⟨b, 50, none⟩ (.bool v) = setRow W b 35 (srA { r with forced := v }) from set_row h _ _]
  exact run_store_cell h (by kernel_rfl) (by kernel_rfl) (by first | exact .inl ⟨_, _, rfl⟩ | exact .inr (.inl ⟨_, rfl⟩) | exact .inr (.inr ⟨_, rfl⟩))
end Go.Proofs.YtegaaccioppfjaaGreatDoor
end
section
set_option linter.unusedSimpArgs false
set_option linter.unusedVariables false
namespace Go.Proofs.YtegaaccioppfjaaGreatDoor
open BigFrame Go.RowKit Go.Phx Go.Shelf
attribute [local go_sem] Oper.semAt_some

set_option maxRecDepth 100000 in
set_option maxHeartbeats 1000000 in
theorem force_yes (s : Sr) (now : Nat) (h : noForce s now = false) (hs : s.fin.b.slot < 18446744073709551616) (hs2 : s.best.seen.b.slot < 18446744073709551616) (hs3 : s.best.fin.b.slot < 18446744073709551616) (hn : now < 18446744073709551616) (w : World) : Calls Tryz.prog 22 #[srV s, .int .u64 now] w (Ret w (.tuple #[srV (forceP s), .int .i64 0])) := by
  unfold noForce at h
  rw [Bool.or_eq_false_iff] at h
  have hh : s.has = true := by have := h.1; simpa using this
  have h0 : s.fin.b.slot + 65 ≤ now := by have := h.2; simpa using this
  have h1i : ¬ (now : Int) < (s.fin.b.slot : Int) := by omega
  have h2 : IntKind.u64.wrap ((now : Int) - (s.fin.b.slot : Int)) = ((now - s.fin.b.slot : Nat) : Int) := by
    rw [show ((now : Int) - (s.fin.b.slot : Int)) = ((now - s.fin.b.slot : Nat) : Int) by omega]
    exact IntWalk.u64_in _ (by omega)
  have h3 : ¬ ((now - s.fin.b.slot : Nat) : Int) ≤ 64 := by omega
  have hfu : (forcedU s).fin.b.slot < 18446744073709551616 := by unfold forcedU; split <;> assumption
  have nt := fun W => lgtake_calls s (forcedU s) hs hfu W
  obtain ⟨t, ht⟩ : ∃ t, clearP (takeP s (forcedU s)) = t := ⟨_, rfl⟩
  rw [ht] at nt
  have hp : forceP s = { t with forced := true } := by unfold forceP; rw [ht]
  replace ht := Lib.hid hp
  replace nt := Lib.hid nt
  clear hp h h0 hfu hs2
  go_enter Tryz.func22, Tryz.ntmps22
  go_upto_region 1 with fail
  have HB : Below w.heap.size w ((w.alloc (.cells (srA s) 35)).alloc (.cells (srA Sr.zero) 35)) := (by repeat (first | assumption | exact Below.refl _ _ | refine Below.setCell ?_ (by first | exact Nat.le_refl _ | (simp; done) | omega | (simp; omega)) _ | refine Below.alloc ?_ (by first | exact Nat.le_refl _ | (simp; done) | omega | (simp; omega)) _ | refine below_drewN ?_ _ | refine Below.drew ?_ | refine Below.on (by assumption) ?_ | refine Below.via (by assumption) (by first | exact Nat.le_refl _ | (simp; done) | omega | (simp; omega)) ?_))
  have K0 := (Blk.new0 w 35 (srA s)).alloc (.cells (srA Sr.zero) 35)
  have K1 := Blk.new1 w (.cells (srA s) 35) 35 (srA Sr.zero)
  obtain ⟨W, hW⟩ : ∃ W, ((w.alloc (.cells (srA s) 35)).alloc (.cells (srA Sr.zero) 35)) = W := ⟨_, rfl⟩
  rw [hW] at HB K0 K1 ⊢
  clear hW
  have hgl : w.heap.size ≤ w.heap.size := Nat.le_refl _
  obtain ⟨g, hg⟩ : ∃ g, w.heap.size = g := ⟨_, rfl⟩
  rw [hg] at K0 K1 ⊢
  replace hgl : w.heap.size ≤ g := by omega
  replace K0 := Lib.hid K0
  replace K1 := Lib.hid K1
  clear hg
  (have k0 := Blk.cell K0.out; have f0 := Blk.free K0.out; have l0 := Blk.lt K0.out; have m0 := Nat.le_of_lt l0; have k1 := Blk.cell K1.out; have f1 := Blk.free K1.out; have l1 := Blk.lt K1.out; have m1 := Nat.le_of_lt l1)
  go_upto_region 4 with fail
  go_wp2_with (first | (with_reducible refine wpList_load_run (o := ⟨_, .load 33 _, _, _, _, none⟩) (ldSr_best _ K0.out) rfl _ rfl rfl ?_) | (with_reducible refine wpList_store_halt (o := ⟨_, .store 33 _ _, _, _, _, none⟩) (stUp Up.zero (Blk.new0 W 33 (upA Up.zero)) s.best) rfl _ _ rfl rfl rfl ?_))
  generalize hWN : setRow _ _ _ _ = WN
  have N0 := Lib.hid (show Blk WN g 35 (srA s) by rw [← hWN]; exact Blk.rowOver (by omega) (K0.out.alloc _))
  have N1 := Lib.hid (show Blk WN (g + 1) 35 (srA Sr.zero) by rw [← hWN]; exact Blk.rowOver (by omega) (K1.out.alloc _))
  have N2 := Lib.hid (show Blk WN W.heap.size 33 (upA s.best) by rw [← hWN]; exact Blk.row (by simp))
  have HBn : Below w.heap.size w WN := by rw [← hWN]; exact Below.row (HB.alloc HB.size _) HB.size (by have := HB.size; simp; omega)
  obtain ⟨g2, hg2⟩ : ∃ g2, W.heap.size = g2 := ⟨_, rfl⟩
  have hgg : g + 1 < g2 := by rw [← hg2]; exact l1
  have hgl2 : w.heap.size ≤ g2 := by rw [← hg2]; exact HB.size
  rw [hg2] at N2 ⊢
  clear hWN hg2 k0 f0 l0 m0 k1 f1 l1 m1 K0 K1 HB
  have K0 := N0; have K1 := N1; have K2 := N2; have HB := HBn
  clear N0 N1 N2 HBn
  (have k0 := Blk.cell K0.out; have f0 := Blk.free K0.out; have l0 := Blk.lt K0.out; have m0 := Nat.le_of_lt l0; have k1 := Blk.cell K1.out; have f1 := Blk.free K1.out; have l1 := Blk.lt K1.out; have m1 := Nat.le_of_lt l1; have k2 := Blk.cell K2.out; have f2 := Blk.free K2.out; have l2 := Blk.lt K2.out; have m2 := Nat.le_of_lt l2)
  unfold Halted
  by_cases hle : s.best.fin.b.slot ≤ s.fin.b.slot
  · have hlei : (s.best.fin.b.slot : Int) ≤ (s.fin.b.slot : Int) := by omega
    have hfe : forcedU s = { s.best with fin := s.best.seen } := by unfold forcedU; rw [if_pos hle]
    rw [hfe] at nt
    clear hfe hle
    (go_wp2_with (first | (with_reducible refine wpList_store_halt (o := ⟨_, .store 29 _ _, _, _, _, none⟩) (stUp_fin _ K2.out (s.best.seen)) rfl _ _ rfl rfl rfl ?_)); generalize hWN : setRow _ _ _ _ = WN; have N2 := Lib.hid (show Blk WN _ _ _ by rw [← hWN]; exact Blk.row K2.out.lt); have N0 := Lib.hid (show Blk WN _ _ _ by rw [← hWN]; exact Blk.rowOver (by omega) K0.out); have N1 := Lib.hid (show Blk WN _ _ _ by rw [← hWN]; exact Blk.rowOver (by omega) K1.out); have HBn : Below w.heap.size w WN := (by rw [← hWN]; exact Below.row HB (by omega) HB.size); clear hWN HB K2 k2 f2 l2 m2 K0 k0 f0 l0 m0 K1 k1 f1 l1 m1; have K2 := N2; clear N2; have K0 := N0; clear N0; have K1 := N1; clear N1; have HB := HBn; clear HBn; (have k2 := Blk.cell K2.out; have f2 := Blk.free K2.out; have l2 := Blk.lt K2.out; have m2 := Nat.le_of_lt l2; have k0 := Blk.cell K0.out; have f0 := Blk.free K0.out; have l0 := Blk.lt K0.out; have m0 := Nat.le_of_lt l0; have k1 := Blk.cell K1.out; have f1 := Blk.free K1.out; have l1 := Blk.lt K1.out; have m1 := Nat.le_of_lt l1); unfold Halted)
    go_wp2_with (first | (with_reducible refine wpList_load_run (o := ⟨_, .load 35 _, _, _, _, none⟩) (ldSr _ K0.out) rfl _ rfl rfl ?_) | (with_reducible refine wpList_load_run (o := ⟨_, .load 33 _, _, _, _, none⟩) (ldUp _ K2.out) rfl _ rfl rfl ?_))
    (refine (nt.out _).mono ?_; rintro e w2 ⟨rfl, hN⟩; have N0 := Lib.hid (K0.out.below hN); have N1 := Lib.hid (K1.out.below hN); have N2 := Lib.hid (K2.out.below hN); have HBn : Below w.heap.size w w2 := Below.on hN HB; clear hN HB K0 k0 f0 l0 m0 K1 k1 f1 l1 m1 K2 k2 f2 l2 m2; have K0 := N0; clear N0; have K1 := N1; clear N1; have K2 := N2; clear N2; have HB := HBn; clear HBn; (have k0 := Blk.cell K0.out; have f0 := Blk.free K0.out; have l0 := Blk.lt K0.out; have m0 := Nat.le_of_lt l0; have k1 := Blk.cell K1.out; have f1 := Blk.free K1.out; have l1 := Blk.lt K1.out; have m1 := Nat.le_of_lt l1; have k2 := Blk.cell K2.out; have f2 := Blk.free K2.out; have l2 := Blk.lt K2.out; have m2 := Nat.le_of_lt l2))
    (go_wp2_with (first | (with_reducible refine wpList_store_halt (o := ⟨_, .store 35 _ _, _, _, _, none⟩) (stSr _ K0.out (t)) rfl _ _ rfl rfl rfl ?_)); generalize hWN : setRow _ _ _ _ = WN; have N0 := Lib.hid (show Blk WN _ _ _ by rw [← hWN]; exact Blk.row K0.out.lt); have N1 := Lib.hid (show Blk WN _ _ _ by rw [← hWN]; exact Blk.rowOver (by omega) K1.out); have N2 := Lib.hid (show Blk WN _ _ _ by rw [← hWN]; exact Blk.rowOver (by omega) K2.out); have HBn : Below w.heap.size w WN := (by rw [← hWN]; exact Below.row HB (by omega) HB.size); clear hWN HB K0 k0 f0 l0 m0 K1 k1 f1 l1 m1 K2 k2 f2 l2 m2; have K0 := N0; clear N0; have K1 := N1; clear N1; have K2 := N2; clear N2; have HB := HBn; clear HBn; (have k0 := Blk.cell K0.out; have f0 := Blk.free K0.out; have l0 := Blk.lt K0.out; have m0 := Nat.le_of_lt l0; have k1 := Blk.cell K1.out; have f1 := Blk.free K1.out; have l1 := Blk.lt K1.out; have m1 := Nat.le_of_lt l1; have k2 := Blk.cell K2.out; have f2 := Blk.free K2.out; have l2 := Blk.lt K2.out; have m2 := Nat.le_of_lt l2); unfold Halted)
    (go_wp2_with (first | (with_reducible refine wpList_store_halt (o := ⟨_, .store 4 _ _, _, _, _, none⟩) (stcSr_forced _ K0.out (true)) rfl _ _ rfl rfl rfl ?_)); generalize hWN : setRow _ _ _ _ = WN; have N0 := Lib.hid (show Blk WN _ _ _ by rw [← hWN]; exact Blk.row K0.out.lt); have N1 := Lib.hid (show Blk WN _ _ _ by rw [← hWN]; exact Blk.rowOver (by omega) K1.out); have N2 := Lib.hid (show Blk WN _ _ _ by rw [← hWN]; exact Blk.rowOver (by omega) K2.out); have HBn : Below w.heap.size w WN := (by rw [← hWN]; exact Below.row HB (by omega) HB.size); clear hWN HB K0 k0 f0 l0 m0 K1 k1 f1 l1 m1 K2 k2 f2 l2 m2; have K0 := N0; clear N0; have K1 := N1; clear N1; have K2 := N2; clear N2; have HB := HBn; clear HBn; (have k0 := Blk.cell K0.out; have f0 := Blk.free K0.out; have l0 := Blk.lt K0.out; have m0 := Nat.le_of_lt l0; have k1 := Blk.cell K1.out; have f1 := Blk.free K1.out; have l1 := Blk.lt K1.out; have m1 := Nat.le_of_lt l1; have k2 := Blk.cell K2.out; have f2 := Blk.free K2.out; have l2 := Blk.lt K2.out; have m2 := Nat.le_of_lt l2); unfold Halted)
    (go_wp2_with (first | (with_reducible refine wpList_load_run (o := ⟨_, .load 35 _, _, _, _, none⟩) (ldSr _ K0.out) rfl _ rfl rfl ?_) | (with_reducible refine wpList_load_run_g (o := ⟨_, .load 35 _, _, _, _, some _⟩) (ldSr _ K0.out) (by with_unfolding_all rfl) _ rfl rfl ?_) | (with_reducible refine wpList_store_halt (o := ⟨_, .store 35 _ _, _, _, _, none⟩) (stSr _ K1.out ({ t with forced := true })) rfl _ _ rfl rfl rfl ?_)); generalize hWN : setRow _ _ _ _ = WN; have N1 := Lib.hid (show Blk WN _ _ _ by rw [← hWN]; exact Blk.row K1.out.lt); have N0 := Lib.hid (show Blk WN _ _ _ by rw [← hWN]; exact Blk.rowOver (by omega) K0.out); have N2 := Lib.hid (show Blk WN _ _ _ by rw [← hWN]; exact Blk.rowOver (by omega) K2.out); have HBn : Below w.heap.size w WN := (by rw [← hWN]; exact Below.row HB (by omega) HB.size); clear hWN HB K1 k1 f1 l1 m1 K0 k0 f0 l0 m0 K2 k2 f2 l2 m2; have K1 := N1; clear N1; have K0 := N0; clear N0; have K2 := N2; clear N2; have HB := HBn; clear HBn; (have k1 := Blk.cell K1.out; have f1 := Blk.free K1.out; have l1 := Blk.lt K1.out; have m1 := Nat.le_of_lt l1; have k0 := Blk.cell K0.out; have f0 := Blk.free K0.out; have l0 := Blk.lt K0.out; have m0 := Nat.le_of_lt l0; have k2 := Blk.cell K2.out; have f2 := Blk.free K2.out; have l2 := Blk.lt K2.out; have m2 := Nat.le_of_lt l2); unfold Halted)
    go_wp2_with fail
    exact bodyPost_ret (results_cell2 rfl rfl (ldSr _ K1.out)) rfl ⟨by rw [ht.out]; rfl, HB⟩
  · have hlei : ¬ (s.best.fin.b.slot : Int) ≤ (s.fin.b.slot : Int) := by omega
    have hfe : forcedU s = s.best := by unfold forcedU; rw [if_neg hle]
    rw [hfe] at nt
    clear hfe hle
    go_wp2_with (first | (with_reducible refine wpList_load_run (o := ⟨_, .load 35 _, _, _, _, none⟩) (ldSr _ K0.out) rfl _ rfl rfl ?_) | (with_reducible refine wpList_load_run (o := ⟨_, .load 33 _, _, _, _, none⟩) (ldUp _ K2.out) rfl _ rfl rfl ?_))
    (refine (nt.out _).mono ?_; rintro e w2 ⟨rfl, hN⟩; have N0 := Lib.hid (K0.out.below hN); have N1 := Lib.hid (K1.out.below hN); have N2 := Lib.hid (K2.out.below hN); have HBn : Below w.heap.size w w2 := Below.on hN HB; clear hN HB K0 k0 f0 l0 m0 K1 k1 f1 l1 m1 K2 k2 f2 l2 m2; have K0 := N0; clear N0; have K1 := N1; clear N1; have K2 := N2; clear N2; have HB := HBn; clear HBn; (have k0 := Blk.cell K0.out; have f0 := Blk.free K0.out; have l0 := Blk.lt K0.out; have m0 := Nat.le_of_lt l0; have k1 := Blk.cell K1.out; have f1 := Blk.free K1.out; have l1 := Blk.lt K1.out; have m1 := Nat.le_of_lt l1; have k2 := Blk.cell K2.out; have f2 := Blk.free K2.out; have l2 := Blk.lt K2.out; have m2 := Nat.le_of_lt l2))
    (go_wp2_with (first | (with_reducible refine wpList_store_halt (o := ⟨_, .store 35 _ _, _, _, _, none⟩) (stSr _ K0.out (t)) rfl _ _ rfl rfl rfl ?_)); generalize hWN : setRow _ _ _ _ = WN; have N0 := Lib.hid (show Blk WN _ _ _ by rw [← hWN]; exact Blk.row K0.out.lt); have N1 := Lib.hid (show Blk WN _ _ _ by rw [← hWN]; exact Blk.rowOver (by omega) K1.out); have N2 := Lib.hid (show Blk WN _ _ _ by rw [← hWN]; exact Blk.rowOver (by omega) K2.out); have HBn : Below w.heap.size w WN := (by rw [← hWN]; exact Below.row HB (by omega) HB.size); clear hWN HB K0 k0 f0 l0 m0 K1 k1 f1 l1 m1 K2 k2 f2 l2 m2; have K0 := N0; clear N0; have K1 := N1; clear N1; have K2 := N2; clear N2; have HB := HBn; clear HBn; (have k0 := Blk.cell K0.out; have f0 := Blk.free K0.out; have l0 := Blk.lt K0.out; have m0 := Nat.le_of_lt l0; have k1 := Blk.cell K1.out; have f1 := Blk.free K1.out; have l1 := Blk.lt K1.out; have m1 := Nat.le_of_lt l1; have k2 := Blk.cell K2.out; have f2 := Blk.free K2.out; have l2 := Blk.lt K2.out; have m2 := Nat.le_of_lt l2); unfold Halted)
    (go_wp2_with (first | (with_reducible refine wpList_store_halt (o := ⟨_, .store 4 _ _, _, _, _, none⟩) (stcSr_forced _ K0.out (true)) rfl _ _ rfl rfl rfl ?_)); generalize hWN : setRow _ _ _ _ = WN; have N0 := Lib.hid (show Blk WN _ _ _ by rw [← hWN]; exact Blk.row K0.out.lt); have N1 := Lib.hid (show Blk WN _ _ _ by rw [← hWN]; exact Blk.rowOver (by omega) K1.out); have N2 := Lib.hid (show Blk WN _ _ _ by rw [← hWN]; exact Blk.rowOver (by omega) K2.out); have HBn : Below w.heap.size w WN := (by rw [← hWN]; exact Below.row HB (by omega) HB.size); clear hWN HB K0 k0 f0 l0 m0 K1 k1 f1 l1 m1 K2 k2 f2 l2 m2; have K0 := N0; clear N0; have K1 := N1; clear N1; have K2 := N2; clear N2; have HB := HBn; clear HBn; (have k0 := Blk.cell K0.out; have f0 := Blk.free K0.out; have l0 := Blk.lt K0.out; have m0 := Nat.le_of_lt l0; have k1 := Blk.cell K1.out; have f1 := Blk.free K1.out; have l1 := Blk.lt K1.out; have m1 := Nat.le_of_lt l1; have k2 := Blk.cell K2.out; have f2 := Blk.free K2.out; have l2 := Blk.lt K2.out; have m2 := Nat.le_of_lt l2); unfold Halted)
    (go_wp2_with (first | (with_reducible refine wpList_load_run (o := ⟨_, .load 35 _, _, _, _, none⟩) (ldSr _ K0.out) rfl _ rfl rfl ?_) | (with_reducible refine wpList_load_run_g (o := ⟨_, .load 35 _, _, _, _, some _⟩) (ldSr _ K0.out) (by with_unfolding_all rfl) _ rfl rfl ?_) | (with_reducible refine wpList_store_halt (o := ⟨_, .store 35 _ _, _, _, _, none⟩) (stSr _ K1.out ({ t with forced := true })) rfl _ _ rfl rfl rfl ?_)); generalize hWN : setRow _ _ _ _ = WN; have N1 := Lib.hid (show Blk WN _ _ _ by rw [← hWN]; exact Blk.row K1.out.lt); have N0 := Lib.hid (show Blk WN _ _ _ by rw [← hWN]; exact Blk.rowOver (by omega) K0.out); have N2 := Lib.hid (show Blk WN _ _ _ by rw [← hWN]; exact Blk.rowOver (by omega) K2.out); have HBn : Below w.heap.size w WN := (by rw [← hWN]; exact Below.row HB (by omega) HB.size); clear hWN HB K1 k1 f1 l1 m1 K0 k0 f0 l0 m0 K2 k2 f2 l2 m2; have K1 := N1; clear N1; have K0 := N0; clear N0; have K2 := N2; clear N2; have HB := HBn; clear HBn; (have k1 := Blk.cell K1.out; have f1 := Blk.free K1.out; have l1 := Blk.lt K1.out; have m1 := Nat.le_of_lt l1; have k0 := Blk.cell K0.out; have f0 := Blk.free K0.out; have l0 := Blk.lt K0.out; have m0 := Nat.le_of_lt l0; have k2 := Blk.cell K2.out; have f2 := Blk.free K2.out; have l2 := Blk.lt K2.out; have m2 := Nat.le_of_lt l2); unfold Halted)
    go_wp2_with fail
    exact bodyPost_ret (results_cell2 rfl rfl (ldSr _ K1.out)) rfl ⟨by rw [ht.out]; rfl, HB⟩
end Go.Proofs.YtegaaccioppfjaaGreatDoor
end
section
set_option linter.unusedSimpArgs false
set_option linter.unusedVariables false
namespace Go.Proofs.YtegaaccioppfjaaGreatDoor
open BigFrame Go.RowKit Go.Phx Go.Shelf
attribute [local go_sem] Oper.semAt_some

def forceS (s : Sr) (now : Nat) : Sr := if noForce s now then s else forceP s
def forceE (s : Sr) (now : Nat) : Int := if noForce s now then 148 else 0
theorem lgforce_calls (s : Sr) (now : Nat) (w : World) (hs : SrIn w s) (hn : now < 18446744073709551616) : Calls Tryz.prog 22 #[srV s, .int .u64 now] w (Ret w (.tuple #[srV (forceS s now), .int .i64 (forceE s now)])) := by
  unfold forceS forceE
  cases h : noForce s now with
  | true => rw [if_pos rfl, if_pos rfl]; exact force_no s now h hs.1.1.1 hn w
  | false => rw [if_neg (by simp), if_neg (by simp)]; exact force_yes s now h hs.1.1.1 hs.2.2.2.2.1.1.1.1 hs.2.2.2.2.1.2.2.2.1.1.1 hn w
theorem forced_in {w : World} {s : Sr} (hs : SrIn w s) : UpIn w (forcedU s) := by
  have hu := hs.2.2.2.2.1
  unfold forcedU
  split
  · exact ⟨hu.1, hu.2.1, hu.2.2.1, hu.1, hu.2.2.2.2⟩
  · exact hu
theorem forceP_in {w : World} {s : Sr} (hs : SrIn w s) : SrIn w (forceP s) := by
  have h := clear_in (take_in hs (forced_in hs))
  obtain ⟨a, b, c, d, e, f, g, h, i⟩ := h
  exact ⟨a, b, c, d, e, f, g, h, i⟩
theorem forceS_in {w : World} {s : Sr} (now : Nat) (hs : SrIn w s) : SrIn w (forceS s now) := by
  unfold forceS
  split
  · exact hs
  · exact forceP_in hs
end Go.Proofs.YtegaaccioppfjaaGreatDoor
end
section
set_option linter.unusedSimpArgs false
set_option linter.unusedVariables false
namespace Go.Proofs.YtegaaccioppfjaaGreatDoor
open BigFrame Go.RowKit Go.Phx Go.Shelf
attribute [local go_sem] Oper.semAt_some

set_option maxRecDepth 100000 in
theorem lones_calls (n : Nat) (hn : n < 18446744073709551616) (w : World) : Calls Tryz.prog 36 #[.int .u64 n] w (fun e w' => e = .returned (.int .i64 (onesP n : Nat)) ∧ w = w') := by
  rw [show onesP n = onesK n 16 from rfl]
  go_enter Tryz.func36, Tryz.ntmps36
  go_wp2_with fail
  go_loop [3, 4] (fun c i => ∃ k : Nat, k ≤ 16 ∧ i = .int .i64 k ∧ c = .int .i64 (onesK n k : Nat)) (fun _ i => (16 - intOf i).toNat)
  case atStart => exact ⟨0, by omega, rfl, rfl⟩
  case round =>
    obtain ⟨k, hk, rfl, rfl⟩ := hrel
    by_cases hlt : k < 16
    · have hsh : (n : Int) / 2 ^ k = ((n / 2 ^ k : Nat) : Int) := by simp
      have hm : n / 2 ^ k < 18446744073709551616 := Nat.lt_of_le_of_lt (Nat.div_le_self _ _) hn
      have hst := onesK_succ n k
      have hle := onesK_le n k
      generalize n / 2 ^ k = m at *
      have hand := and_one m hm
      obtain ⟨c, hc⟩ : ∃ c, onesK n k = c := ⟨_, rfl⟩
      rw [hc] at hst hle ⊢
      replace hc := Lib.hid hc
      rcases Nat.mod_two_eq_zero_or_one m with hm2 | hm2
      · rw [hm2] at hand hst
        rw [if_neg (by omega), Nat.add_zero] at hst
        replace hst := Lib.hid hst
        clear hm2
        go_wp2_with fail
        go_round
        case rel => exact ⟨k + 1, by omega, by go_num, by rw [hst.out]; first | rfl | go_num⟩
        case measure => simp [intOf]; omega
      · rw [hm2] at hand hst
        rw [if_pos rfl] at hst
        replace hst := Lib.hid hst
        clear hm2
        go_wp2_with fail
        go_round
        case rel => exact ⟨k + 1, by omega, by go_num, by rw [hst.out]; go_num⟩
        case measure => simp [intOf]; omega
    · obtain rfl : k = 16 := by omega
      go_wp2_with fail
      go_ret
      exact ⟨rfl, rfl⟩
end Go.Proofs.YtegaaccioppfjaaGreatDoor
end
