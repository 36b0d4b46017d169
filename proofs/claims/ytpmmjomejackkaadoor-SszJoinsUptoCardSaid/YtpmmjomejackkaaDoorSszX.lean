/- Texts that came in, as lists of bytes; what the bound on their bulk gives. No conditions. -/
import Derived.Test.YtpmmjomejackkaaDoorSszW
set_option linter.unusedSimpArgs false
set_option linter.unusedVariables false
namespace Go.Proofs.YtpmmjomejackkaaDoor
open BigFrame Go.RowKit Go.Phx Go.Shelf

theorem as_lists (xs : List ByteArray) : ∃ L : List Bytes, xs = L.map bs ∧ L = xs.map fun s => s.data.toList :=
  ⟨xs.map fun s => s.data.toList, by rw [List.map_map]; exact (List.map_id'' (f := bs ∘ fun s : ByteArray => s.data.toList) (fun s => bs_of s) xs).symm, rfl⟩
theorem flat_le : ∀ (L : List Bytes) (y : Bytes), y ∈ L → y.length ≤ L.flatten.length
  | [], y, h => by cases h
  | a :: r, y, h => by
    rw [List.flatten_cons, List.length_append]
    rcases List.mem_cons.1 h with rfl | h
    · omega
    · have := flat_le r y h
      omega
theorem in_bulk {L : List Bytes} {n : Nat} (h : L.length + L.flatten.length ≤ n) : L.length ≤ n ∧ ∀ y ∈ L, y.length ≤ n :=
  ⟨by omega, fun y hy => by have := flat_le L y hy; omega⟩
/-- append behind a guard that lets it through, by its run -/
theorem wpList_append_run_g {P : Program} {ops : Array Oper} {rest : List Oper} {o : Oper} {a : Act} {w w' : World} {Q : Exit → Act → World → Prop} (hw : Region.wanted o (yielded ops a.tmps) = true) (s x : Operand) (t u : TypeId)
    (ho : o.op = .call { callee := .builtin .append, args := #[s, x], argTypes := #[t, u] }) (v y v' : Value) (hs : a.eval s = v) (hx : a.eval x = y)
    (hr : (Builtin.append_ #[t, u] o.type #[v, y]).run P w = .ok v' w') (h : wpList P ops Q rest (a.put o.dst v') w') : wpList P ops Q (o :: rest) a w := by
  unfold wpList
  rw [if_pos hw]
  refine .inl ?_
  unfold Oper.wp execOp
  simp only [ho, resolve, invoke, builtin, Sem.run_bind, Sem.run_pure, Result.andThen_ok, List.map_toArray, List.map_cons, List.map_nil, hs, hx, hr]
  exact h
/-- texts appended to a row of the call's own -/
theorem app_rows (w : World) (base : Nat) (hb : base ≤ w.heap.size) (v : Value) (L0 : List Bytes) (R : LRow base w v L0) (A : Option Addr) (c : Nat) (L : List Bytes) (h0 : L0.length ≤ 1048576) (hL : L.length ≤ 1048576) (hs : Txts w A L) :
    ∃ v' w', (Builtin.append_ #[22, 22] 22 #[v, .slice A L.length c]).run Tryd.prog w = .ok v' w' ∧ LRow base w' v' (L0 ++ L) ∧ w.grownBy w' v.ownBlock := by
  obtain ⟨i0, hi, hz0, hz1, hz2⟩ := info_parts infoStr
  by_cases hz : L = []
  · subst hz
    rw [List.append_nil]
    have hsc : Builtin.firstCells 1 0 (.slice A 0 c) = pure #[] := by
      cases A <;> simp [Builtin.firstCells, loadCells, loadCellsFrom]
    refine ⟨v, w, ?_, R, World.grownBy.refl _ _⟩
    rcases R.2 with ⟨rfl, hl⟩ | ⟨g, cap, cur, rfl, _, _, hc, _⟩
    · simp [Builtin.append_, run_underlying Tryd.underlying22, sizeOf, typeInfo, hi, hz1, Builtin.lenOf, hsc, storeCells]
    · simp [Builtin.append_, run_underlying Tryd.underlying22, sizeOf, typeInfo, hi, hz1, Builtin.lenOf, hsc, storeCells, hc]
  · have hpos : 0 < L.length := by cases L with | nil => exact absurd rfl hz | cons => simp
    obtain ⟨b, o, rfl, hb2, _⟩ := hs.at 0 hpos
    have hcs : ∀ (j : Nat) u, (L.map tv)[j]? = some u → w.cell? ((⟨b, o, none⟩ : Addr).add j) = some u := fun j u hu => by
      have hj : j < L.length := by have := (List.getElem?_eq_some_iff.1 hu).1; simpa using this
      obtain ⟨b', o', he, hlt, hc⟩ := hs.at j hj
      simp only [Option.some.injEq, Addr.mk.injEq, and_true] at he
      obtain ⟨rfl, rfl⟩ := he
      rw [Addr.add_mid, hc]
      rw [List.getElem?_map, List.getElem?_eq_getElem hj] at hu
      simp only [Option.map_some, Option.some.injEq] at hu
      rw [← hu, List.getD, List.getElem?_eq_getElem hj]
      rfl
    obtain ⟨v', w', hr, h2, h3, _, _⟩ := run_append_own_at (P := Tryd.prog) w base 22 22 9 i0 (.string ByteArray.empty) 1 16 Tryd.underlying22 hi hz0 hz1 hz2 rfl (by decide) v L0.length (L0.map tv) R ⟨b, o, none⟩ L.length c (L.map tv) (by simp) hcs (fun u hu => by
      simp only [List.mem_map] at hu
      obtain ⟨x, _, rfl⟩ := hu
      rfl) (by unfold maxLen; omega) (by omega) hb
    refine ⟨v', w', hr, ?_, h3⟩
    unfold LRow
    rw [List.length_append, List.map_append]
    exact h2
end Go.Proofs.YtpmmjomejackkaaDoor
