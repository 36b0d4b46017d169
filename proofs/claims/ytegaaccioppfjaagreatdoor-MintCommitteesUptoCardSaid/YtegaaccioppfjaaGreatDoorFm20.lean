/- Plain laws and walks, each by its own conditions. -/
import Derived.Test.YtegaaccioppfjaaGreatDoorFm19
import Derived.Test.YtegaaccioppfjaaGreatDoorFm18
set_option linter.unusedSimpArgs false
set_option linter.unusedVariables false
set_option maxRecDepth 100000
set_option maxHeartbeats 16000000
section
namespace Go.Proofs.YtegaaccioppfjaaGreatDoor
open Go.RowKit Go.Shelf BigFrame Go.Phx

section
variable {P : Program} {ops : Array Oper} {md : Region.Mode} {S : World → Prop} {nd : Nat → Bool} {F : Fence} {m : Nat} {Q : Exit → Act → World → Prop}
theorem S_go (i : Nat) {oi : Oper} {fuel : Nat} {listed : Array Bool} {a : Act} {w : World} (hF : ∀ f, F.fn f) (hd : noDefer ops = true) (hr : Region.ready md ops listed = [i]) (hi : ops[i]? = some oi)
  (wi : Region.wanted oi (yielded ops a.tmps) = true) (v : Value) (w' : World) (h1 : (execOp a.eval oi).run P w = .ok (.value v) w') (h2 : nd i = true → S w')
  (h3 : anyS F m P md ops Q S nd fuel (listed.setIfInBounds i true) (a.put oi.dst v) w') : anyS F m P md ops Q S nd (fuel + 1) listed a w := by
 refine ⟨fun h0 => (by rw [hr] at h0; cases h0), fun k hk => ?_⟩
 rw [hr] at hk
 obtain rfl := List.mem_singleton.1 hk
 unfold wpOpIn
 simp only [hi, wi, if_true, Oper.wpIn, Oper.semAt_plain _ _ _ (noDefer_spec hd hi), h1, Oper.uponIn]
 exact ⟨fun f _ => hF f, h2, h3⟩
theorem S_store (i : Nat) {oi : Oper} {fuel : Nat} {listed : Array Bool} {a : Act} {w : World} (hF : ∀ f, F.fn f) (hd : noDefer ops = true) (hr : Region.ready md ops listed = [i]) (hi : ops[i]? = some oi)
  (wi : Region.wanted oi (yielded ops a.tmps) = true) (w' : World) (h1 : (execOp a.eval oi).run P w = .ok .skip w') (h2 : nd i = true → S w')
  (h3 : anyS F m P md ops Q S nd fuel (listed.setIfInBounds i true) (a.put oi.dst undef) w') : anyS F m P md ops Q S nd (fuel + 1) listed a w := by
 refine ⟨fun h0 => (by rw [hr] at h0; cases h0), fun k hk => ?_⟩
 rw [hr] at hk
 obtain rfl := List.mem_singleton.1 hk
 unfold wpOpIn
 simp only [hi, wi, if_true, Oper.wpIn, Oper.semAt_plain _ _ _ (noDefer_spec hd hi), h1, Oper.uponIn]
 exact ⟨fun f _ => hF f, h2, h3⟩
def AllP (p : Nat → Prop) : List Nat → Prop
 | [] => True
 | i :: r => p i ∧ AllP p r
theorem AllP.mem {p : Nat → Prop} : ∀ {l : List Nat}, AllP p l → ∀ i ∈ l, p i
 | [], _, i, h => by cases h
 | x :: r, h, i, hi => by
  rcases List.mem_cons.1 hi with rfl | hi
  ·exact h.1
  ·exact AllP.mem h.2 i hi
theorem S_list (l : List Nat) {fuel : Nat} {listed : Array Bool} {a : Act} {w : World} (hr : Region.ready md ops listed = l) (hl : l ≠ [])
  (h : AllP (fun i => wpOpIn F m P ops Q i (fun a' w' => (nd i = true → S w') ∧ anyS F m P md ops Q S nd fuel (listed.setIfInBounds i true) a' w') a w) l) : anyS F m P md ops Q S nd (fuel + 1) listed a w :=
 ⟨fun h0 => absurd (hr.symm.trans h0) hl, fun k hk => h.mem k (by rw [← hr]; exact hk)⟩
theorem op_go {i : Nat} {oi : Oper} {fuel : Nat} {listed : Array Bool} {a : Act} {w : World} (hF : ∀ f, F.fn f) (hd : noDefer ops = true) (hi : ops[i]? = some oi)
  (wi : Region.wanted oi (yielded ops a.tmps) = true) (v : Value) (w' : World) (h1 : (execOp a.eval oi).run P w = .ok (.value v) w') (h2 : nd i = true → S w')
  (h3 : anyS F m P md ops Q S nd fuel (listed.setIfInBounds i true) (a.put oi.dst v) w') : wpOpIn F m P ops Q i (fun a' w' => (nd i = true → S w') ∧ anyS F m P md ops Q S nd fuel (listed.setIfInBounds i true) a' w') a w := by
 unfold wpOpIn
 simp only [hi, wi, if_true, Oper.wpIn, Oper.semAt_plain _ _ _ (noDefer_spec hd hi), h1, Oper.uponIn]
 exact ⟨fun f _ => hF f, h2, h3⟩
theorem op_call {i : Nat} {o : Oper} {fuel : Nat} {listed : Array Bool} {a : Act} {w : World} (hi : ops[i]? = some o)
  (h : ∀ K' : Act → World → Prop, (∀ a w, (nd i = true → S w) ∧ anyS F m P md ops Q S nd fuel (listed.setIfInBounds i true) a w → K' a w) →
   if Region.wanted o (yielded ops a.tmps) = true then Oper.wpIn F m P o a w K' Q else (∀ f, o.about P w a.eval = some f → F.fn f) ∧ K' (a.put o.dst undef) w) :
  wpOpIn F m P ops Q i (fun a' w' => (nd i = true → S w') ∧ anyS F m P md ops Q S nd fuel (listed.setIfInBounds i true) a' w') a w := wpOpIn_step hi h
theorem exec_store {o : Oper} {a : Act} {w w' : World} {ty : TypeId} {p v : Value} (x y : Operand) (ho : o.op = .store ty x y) (hx : a.eval x = p) (hy : a.eval y = v) (hr : (Instr.storeAt ty p v).run P w = .ok () w') :
  (execOp a.eval o).run P w = .ok .skip w' := by
 unfold execOp
 simp only [ho, hx, hy, Sem.run_bind, hr, Result.andThen_ok, Sem.run_pure]
theorem run_load_cell {w : World} {b i : Nat} {t ty : TypeId} {cs : Array Value} {v : Value} (h : Blk w b t cs) (hc : cs[i]? = some v) (hz : (P.info? ty).map (·.size) = some 1) (hv : (P.underlying ty).map (·.isRow) = some false) : (Instr.loadAt ty (.pointer (some ⟨b, i, none⟩))).run P w = .ok v w := by
 have hc2 : w.cell? ⟨b, i, none⟩ = some v := by rw [h.cell, hc]
 cases hq : P.info? ty with
 | none => simp [hq] at hz
 | some j =>
  have hs : j.size = 1 := by simpa [hq] using hz
  cases hu : P.underlying ty with
  | none => simp [hu] at hv
  | some d =>
   have hd : d.isRow = false := by simpa [hu] using hv
   cases d <;> first | (exfalso; revert hd; simp [TypeDesc.isRow]; done) | (simp [Instr.loadAt, Instr.sureAddr, loadVar, sizeOf, typeInfo, hq, hs, hu, loadCells, isAgg, run_underlying hu, go_sem, hc2]; done)
theorem wpList_load_run_g {rest : List Oper} {o : Oper} {a : Act} {w : World} {ty : TypeId} {p v : Value} (hr : (Instr.loadAt ty p).run P w = .ok v w) (hw : Region.wanted o (yielded ops a.tmps) = true) (x : Operand) (ho : o.op = .load ty x) (hx : a.eval x = p) (h : wpList P ops Q rest (a.put o.dst v) w) : wpList P ops Q (o :: rest) a w := by
 unfold wpList
 rw [if_pos hw]
 refine .inl ?_
 unfold Oper.wp execOp
 simp only [ho, hx, Sem.run_bind, hr, Result.andThen_ok, Sem.run_pure]
 exact h
end
theorem szU64 : (Tryz.prog.info? 22).map (·.size) = some 1 := by kernel_rfl
theorem szStr : (Tryz.prog.info? 9).map (·.size) = some 1 := by kernel_rfl
theorem nrU64 : (Tryz.prog.underlying 22).map (·.isRow) = some false := by kernel_rfl
theorem nrStr : (Tryz.prog.underlying 9).map (·.isRow) = some false := by kernel_rfl
theorem wlg {P : Program} {ops : Array Oper} {Q : Exit → Act → World → Prop} {rest : List Oper} {d : Option Tmp} {x : Operand} {y : TypeId} {pos : String} {af : Array Edge} {gd : Nat × Bool} {a : Act} {w : World} {ty : TypeId} {p v : Value} (hr : (Instr.loadAt ty p).run P w = .ok v w) (hgd : Region.wanted ⟨d, .load ty x, y, pos, af, some gd⟩ (yielded ops a.tmps) = true) (hx : a.eval x = p) (h : wpList P ops Q rest (a.put d v) w) : wpList P ops Q (⟨d, .load ty x, y, pos, af, some gd⟩ :: rest) a w :=
 wpList_load_run_g hr hgd x rfl hx h
end Go.Proofs.YtegaaccioppfjaaGreatDoor
end
