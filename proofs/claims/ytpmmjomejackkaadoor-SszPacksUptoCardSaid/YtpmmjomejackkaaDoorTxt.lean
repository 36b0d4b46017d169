/- Rows of texts of the call's own: one text more; how they stand behind what only grew. No conditions. -/
import Derived.Test.YtpmmjomejackkaaDoorSszC
set_option linter.unusedSimpArgs false
set_option linter.unusedVariables false
namespace Go.Proofs.YtpmmjomejackkaaDoor
open BigFrame Go.RowKit Go.Phx Go.Shelf
attribute [local go_sem] Oper.semAt_some

theorem Txts.below {w w' : World} {A : Option Addr} {L : List Bytes} (h : Txts w A L) (hB : Below w.heap.size w w') : Txts w' A L := Strs.below h hB
theorem LRow.keep {base : Nat} {w w' : World} {v : Value} {L : List Bytes} {r : Option Nat} (h : LRow base w v L) (hg : w.grownBy w' r) (hn : ∀ j, v.ownBlock = some j → r ≠ some j) : LRow base w' v L :=
  h.kept hg (by
    cases hv : v.ownBlock with
    | none => exact .inl rfl
    | some g => exact .inr fun e => hn g hv e.symm)
theorem LRow.on {base : Nat} {w : World} {v : Value} {L : List Bytes} (h : LRow base w v L) (o : Obj) : LRow base (w.alloc o) v L :=
  h.keep (World.grownBy_alloc w o none) fun _ _ e => by cases e
theorem LRow.drew {base : Nat} {w : World} {v : Value} {L : List Bytes} (h : LRow base w v L) : LRow base w.drew v L := h
theorem wpList_append_txt {ops : Array Oper} {rest : List Oper} {o : Oper} {a : Act} {w : World} {Q : Exit → Act → World → Prop} (hgd : o.guard = none) (s x : Operand)
    (ho : o.op = .call { callee := .builtin .append, args := #[s, x], argTypes := #[22, 22] }) (base : Nat) (v : Value) (L : List Bytes) (hs : a.eval s = v) (R : LRow base w v L)
    (u : Bytes) (ad : Addr) (hx : a.eval x = .slice (some ad) 1 1) (hc : w.cell? (ad.add 0) = some (tv u)) (hl : L.length ≤ 1000000000) (hb : base ≤ w.heap.size)
    (h : ∀ v' w', LRow base w' v' (L ++ [u]) → w.grownBy w' v.ownBlock → (v'.ownBlock = v.ownBlock ∨ v'.ownBlock = some w.heap.size) → wpList Tryd.prog ops Q rest (a.put o.dst v') w') : wpList Tryd.prog ops Q (o :: rest) a w := by
  refine wpList_plain hgd fun K hK => ?_
  obtain ⟨i0, hi, hz0, hz1, hz2⟩ := info_parts infoStr
  obtain ⟨v', w', hr, h2, h3, _, h5⟩ := run_append_own_at (P := Tryd.prog) w base 22 o.type 9 i0 (.string ByteArray.empty) 1 16 Tryd.underlying22 hi hz0 hz1 hz2 rfl (by decide) v L.length (L.map tv) R ad 1 1 [tv u] rfl (fun j y hy => by
    match j, hy with
    | 0, hy => simp at hy; subst hy; exact hc) (by simp [Value.oneCell', tv]) (by unfold maxLen; omega) (by omega) hb
  unfold Oper.wp execOp
  simp only [ho, resolve, invoke, builtin, Sem.run_bind, Sem.run_pure, Result.andThen_ok, List.map_toArray, List.map_cons, List.map_nil, hs, hx, hr]
  refine hK _ _ (h v' w' ?_ h3 h5)
  unfold LRow
  rw [List.length_append, List.map_append]
  exact h2
theorem wpListIn_append_txt {F : Fence} {nF : Nat} {ops : Array Oper} {rest : List Oper} {o : Oper} {a : Act} {w : World} {Q : Exit → Act → World → Prop} (hgd : o.guard = none) (s x : Operand)
    (ho : o.op = .call { callee := .builtin .append, args := #[s, x], argTypes := #[22, 22] }) (base : Nat) (v : Value) (L : List Bytes) (hs : a.eval s = v) (R : LRow base w v L)
    (u : Bytes) (ad : Addr) (hx : a.eval x = .slice (some ad) 1 1) (hc : w.cell? (ad.add 0) = some (tv u)) (hl : L.length ≤ 1000000000) (hb : base ≤ w.heap.size)
    (h : ∀ v' w', LRow base w' v' (L ++ [u]) → w.grownBy w' v.ownBlock → (v'.ownBlock = v.ownBlock ∨ v'.ownBlock = some w.heap.size) → wpListIn F nF Tryd.prog ops Q rest (a.put o.dst v') w') : wpListIn F nF Tryd.prog ops Q (o :: rest) a w := by
  obtain ⟨i0, hi, hz0, hz1, hz2⟩ := info_parts infoStr
  refine wpListIn_append_own_at w hgd s x 22 ho base 9 i0 (.string ByteArray.empty) 1 16 Tryd.underlying22 hi hz0 hz1 hz2 rfl (by decide) v L.length (L.map tv) hs R ad 1 1 [tv u] hx rfl (fun j y hy => by
    match j, hy with
    | 0, hy => simp at hy; subst hy; exact hc) (by simp [Value.oneCell', tv]) (by unfold maxLen; omega) (by omega) hb ?_
  intro v' w' h2 h3 _ h5
  refine h v' w' ?_ h3 h5
  unfold LRow
  rw [List.length_append, List.map_append]
  exact h2
/-- append, by its run -/
theorem wpList_append_run {P : Program} {ops : Array Oper} {rest : List Oper} {o : Oper} {a : Act} {w w' : World} {Q : Exit → Act → World → Prop} (hgd : o.guard = none) (s x : Operand) (t u : TypeId)
    (ho : o.op = .call { callee := .builtin .append, args := #[s, x], argTypes := #[t, u] }) (v y v' : Value) (hs : a.eval s = v) (hx : a.eval x = y)
    (hr : (Builtin.append_ #[t, u] o.type #[v, y]).run P w = .ok v' w') (h : wpList P ops Q rest (a.put o.dst v') w') : wpList P ops Q (o :: rest) a w := by
  refine wpList_plain hgd fun K hK => ?_
  unfold Oper.wp execOp
  simp only [ho, resolve, invoke, builtin, Sem.run_bind, Sem.run_pure, Result.andThen_ok, List.map_toArray, List.map_cons, List.map_nil, hs, hx, hr]
  exact hK _ _ h
/-- .. of one text in a block that was just made -/
theorem new_cell (w : World) (t : TypeId) (v : Value) : (w.alloc (.cells #[v] t)).cell? ((⟨w.heap.size, 0, none⟩ : Addr).add 0) = some v := news1 w t v 0 v rfl
/-- what a row of texts of its own, grown by one, leaves -/
theorem below_app {w W w' : World} {v : Value} {L : List Bytes} (hB : Below w.heap.size w W) (R : LRow w.heap.size W v L) (hg : W.grownBy w' v.ownBlock) : Below w.heap.size w w' :=
  hB.grown hg hB.size fun j e => (R.lt j e).1
end Go.Proofs.YtpmmjomejackkaaDoor
