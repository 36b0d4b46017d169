/- What the later texts stand on (App, Lrow, Sha3, Seq): plain laws and walks, each by its own conditions. -/
import Derived.Test.YthflonnkmkjddaaDoorG2
import Derived.Lib.FrozenHead
import Derived.Laws.OwnMore
import Derived.Test.YthflonnkmkjddaaDoorG3
import Derived.Deep.AppendLies
import Derived.Maps.OwnIn
set_option linter.unusedSimpArgs false
set_option linter.unusedVariables false
section
namespace Go.Proofs.YthflonnkmkjddaaDoor
open Go.RowKit Go.Phx Go.Shelf
set_option linter.unusedSimpArgs false

/-- a slice value owns these cells; what is frozen of its row lies behind its capacity -/
def OwnX (w : World) (base : Nat) (e : TypeId) (v : Value) (n : Nat) (xs : List Value) : Prop :=
  xs.length = n ∧ ∃ g cap cur fz, v = .slice (some ⟨g, 0, none⟩) n cap ∧ base ≤ g ∧ w.heap[g]? = some (.cells cur e fz) ∧ (fz.2 ≤ fz.1 ∨ cap ≤ fz.1) ∧ n ≤ cap ∧ cap ≤ maxLen ∧ cur.size = cap ∧ cur.toList.take n = xs
theorem OwnX.form {w : World} {base : Nat} {e : TypeId} {v : Value} {n : Nat} {xs : List Value} (h : OwnX w base e v n xs) :
    ∃ g cap, v = .slice (some ⟨g, 0, none⟩) n cap ∧ base ≤ g ∧ g < w.heap.size ∧ n ≤ cap ∧ cap ≤ maxLen ∧ ∀ j u, xs[j]? = some u → w.cell? ⟨g, j, none⟩ = some u := by
  obtain ⟨_, g, cap, cur, fz, hv, hb, hg, _, hnc, hcm, _, ht⟩ := h
  refine ⟨g, cap, hv, hb, (Array.getElem?_eq_some_iff.1 hg).1, hnc, hcm, fun j u hu => ?_⟩
  rw [cell_of_row w g j cur e fz hg]
  rw [← ht, List.getElem?_take] at hu
  split at hu
  · simpa using hu
  · cases hu
theorem OwnX.kept {w w' : World} {base : Nat} {e : TypeId} {v : Value} {n : Nat} {xs : List Value} {row : Option Nat} (h : OwnX w base e v n xs) (hg : w.grownBy w' row) (hne : v.ownBlock ≠ row) : OwnX w' base e v n xs := by
  obtain ⟨hl, g, cap, cur, fz, hv, hb, hh, r⟩ := h
  refine ⟨hl, g, cap, cur, fz, hv, hb, ?_, r⟩
  rw [hg.block g (Array.getElem?_eq_some_iff.1 hh).1 (by subst hv; simpa [Value.ownBlock] using hne)]
  exact hh
theorem OwnX.alloc {w : World} {base : Nat} {e : TypeId} {v : Value} {n : Nat} {xs : List Value} (h : OwnX w base e v n xs) (o : Obj) : OwnX (w.alloc o) base e v n xs :=
  h.kept (World.grownBy_alloc w o none) (by
    obtain ⟨_, g, cap, cur, fz, rfl, _⟩ := h
    simp [Value.ownBlock])
theorem OwnX.below {w w' : World} {base : Nat} {e : TypeId} {v : Value} {n : Nat} {xs : List Value} (h : OwnX w base e v n xs) (hB : Below w.heap.size w w') : OwnX w' base e v n xs := by
  obtain ⟨hl, g, cap, cur, fz, hv, hb, hh, r⟩ := h
  exact ⟨hl, g, cap, cur, fz, hv, hb, (hB.block g (Array.getElem?_eq_some_iff.1 hh).1).trans hh, r⟩
/-- one byte in a block that was just made -/
theorem news1 (W : World) (t : TypeId) (v : Value) : ∀ j u, [v][j]? = some u → (W.alloc (.cells #[v] t)).cell? ((⟨W.heap.size, 0, none⟩ : Addr).add j) = some u := by
  intro j u hu
  match j, hu with
  | 0, hu =>
    have := (Blk.new0 W t #[v]).cell 0
    simp at hu
    subst hu
    simp [Addr.add]
/-- a byte's value -/
def bv (c : UInt8) : Value := .int .u8 (c.toNat : Int)
/-- a text's own bytes -/
def txtCells (w : World) (s : ByteArray) : World :=
  w.drew.alloc (.cells (bytesRow s (grownCap w s.size 0 5)) 5 ((bytesRow s (grownCap w s.size 0 5)).size, (bytesRow s (grownCap w s.size 0 5)).size + 1))
@[go_sem] theorem conv_txt (w : World) (s : ByteArray) : (convert 9 28 (.string s)).run Tryd.prog w = .ok (.slice (some ⟨w.heap.size, 0, none⟩) s.size (grownCap w s.size 0 5)) (txtCells w s) :=
  run_bytes_of_string w _ _ _ s (show Tryd.prog.underlying 9 = some .string by kernel_rfl) (show Tryd.prog.underlying 28 = some (.slice 5) by kernel_rfl) (show Tryd.prog.underlying 5 = some (.int .u8) by kernel_rfl)
theorem txt_own (w : World) (l : List UInt8) (base : Nat) (hb : base ≤ w.heap.size) (hl : l.length ≤ 140737488355328) :
    OwnX (txtCells w (bs l)) base 5 (.slice (some ⟨w.heap.size, 0, none⟩) l.length (grownCap w l.length 0 5)) l.length (l.map bv) := by
  have hge := grownCap_ge w l.length 0 5
  unfold txtCells
  rw [bs_size]
  refine ⟨by simp, w.heap.size, _, _, _, rfl, hb, heap_alloc_new w.drew _, .inr ?_, hge, grownCap_le_maxLen w _ _ _ (by unfold maxLen; omega), ?_, ?_⟩
  · show _ ≤ (bytesRow (bs l) _).size
    have e1 : (bs l).data.size = l.length := by simp [bs]
    unfold bytesRow
    rw [Array.size_append, Array.size_map, Array.size_replicate, bs_size, e1]
    omega
  · have e1 : (bs l).data.size = l.length := by simp [bs]
    unfold bytesRow
    rw [Array.size_append, Array.size_map, Array.size_replicate, bs_size, e1]
    omega
  · simp [bytesRow, bs]
    exact fun _ _ => rfl
theorem txt_below (w : World) (s : ByteArray) : Below w.heap.size w (txtCells w s) := ((Below.refl _ _).drew).alloc (Nat.le_refl _) _
theorem txt_size (w : World) (s : ByteArray) : (txtCells w s).heap.size = w.heap.size + 1 := by simp [txtCells]
theorem conv_cells (W : World) (g : Nat) (L : List UInt8) (n c : Nat) (hn : L.length = n) (h : ∀ j u, (L.map bv)[j]? = some u → W.cell? ⟨g, j, none⟩ = some u) :
    (convert 28 9 (.slice (some ⟨g, 0, none⟩) n c)).run Tryd.prog W = .ok (.string (bs L)) W := by
  have hs : Tryd.prog.underlying 28 = some (.slice 5) := by kernel_rfl
  have he : Tryd.prog.underlying 5 = some (.int .u8) := by kernel_rfl
  have hd : Tryd.prog.underlying 9 = some .string := by kernel_rfl
  have := run_convert_bytes_arg (P := Tryd.prog) W _ _ hs he g 0 n c (L.map fun c : UInt8 => (c.toNat : Int)) (by simpa using hn) (fun i hi => by
    rw [Nat.zero_add, h i (bv (L.getD i 0)) (by rw [List.getElem?_map, List.getElem?_eq_getElem (by omega), List.getD, List.getElem?_eq_getElem (by omega)]; rfl)]
    unfold bv
    simp [List.getD, List.getElem?_eq_getElem (show i < L.length by omega)]) _ hd
  rw [this, strOfNums_map]
theorem own_cells {w : World} {base : Nat} {e : TypeId} {n cap g : Nat} {xs : List Value} (h : w.ownsRow base e 1 (.slice (some ⟨g, 0, none⟩) n cap) n xs) : ∀ j u, xs[j]? = some u → w.cell? ⟨g, j, none⟩ = some u := fun j u hu => by
  have := h.cells (g := g) rfl j u hu
  rwa [Addr.add_mid, Nat.zero_add] at this
/-- bytes of the call's own, so far -/
structure HoldsX (w0 wr : World) (v : Value) (q : List UInt8) : Prop where
  own : OwnX wr w0.heap.size 5 v q.length (q.map bv)
  below : Below w0.heap.size w0 wr
theorem HoldsX.step {w0 wr w' : World} {v v' : Value} {q : List UInt8} {o : Obj} {x : Int} (c : UInt8) (h : HoldsX w0 wr v q) (hx : x = (c.toNat : Int)) (hown : OwnX w' w0.heap.size 5 v' (q.length + 1) (q.map bv ++ [.int .u8 x])) (hg : (wr.alloc o).grownBy w' v.ownBlock) :
    HoldsX w0 w' v' (q ++ [c]) := by
  subst hx
  refine ⟨by simpa [bv] using hown, (h.below.alloc h.below.size o).grown hg (by have := h.below.size; simp; omega) fun k e => ?_⟩
  obtain ⟨g, cap, hv, hb, _⟩ := h.own.form
  rw [hv] at e
  simp [Value.ownBlock] at e
  omega
end Go.Proofs.YthflonnkmkjddaaDoor
end
section
set_option linter.unusedSimpArgs false
set_option linter.unusedVariables false
namespace Go.Proofs.YthflonnkmkjddaaDoor
open BigFrame Go.RowKit Go.Phx Go.Shelf
attribute [local go_sem] Oper.semAt_some

/-- a slice's address leads to these texts -/
def Txts (w : World) (A : Option Addr) (L : List Bytes) : Prop := Strs w A (L.map bs)
theorem Txts.at {w : World} {A : Option Addr} {L : List Bytes} (h : Txts w A L) (i : Nat) (hi : i < L.length) : ∃ b o, A = some ⟨b, o, none⟩ ∧ b < w.heap.size ∧ w.cell? ⟨b, o + i, none⟩ = some (.string (bs (L.getD i []))) := by
  obtain ⟨b, o, ha, hb, hc⟩ := h (by simp; omega)
  exact ⟨b, o, ha, hb, hc i _ (by rw [List.getElem?_map, List.getElem?_eq_getElem hi, List.getD, List.getElem?_eq_getElem hi]; rfl)⟩
def tv (b : Bytes) : Value := .string (bs b)
/-- a row of texts of the call's own -/
def LRow (base : Nat) (w : World) (v : Value) (L : List Bytes) : Prop := w.ownsRow base 9 1 v L.length (L.map tv)
theorem LRow.txts {base : Nat} {w : World} {v : Value} {L : List Bytes} (h : LRow base w v L) : ∃ A c, v = .slice A L.length c ∧ Txts w A L := by
  rcases h.2 with ⟨rfl, h0⟩ | ⟨g, cap, cur, rfl, _⟩
  · obtain rfl := List.eq_nil_of_length_eq_zero h0
    exact ⟨none, 0, rfl, Strs.nil _ _⟩
  · refine ⟨_, _, rfl, Strs.mk (h.lt g rfl).2 fun i x hx => ?_⟩
    have hi : i < L.length := by have := (List.getElem?_eq_some_iff.1 hx).1; simpa using this
    rw [Nat.zero_add, World.ownsRow.cellAt h i (by omega)]
    rw [List.getElem?_map] at hx ⊢
    cases hl : L[i]? with
    | none => rw [hl] at hx; cases hx
    | some y => rw [hl] at hx; simp only [Option.map_some, Option.some.injEq] at hx ⊢; rw [← hx]; rfl
theorem LRow.cells {base : Nat} {w : World} {v : Value} {L : List Bytes} (h : LRow base w v L) : ∀ j, v.ownBlock = some j → base ≤ j ∧ ∃ cs t fz, w.heap[j]? = some (.cells cs t fz) := fun j hj => by
  rcases h.2 with ⟨rfl, h0⟩ | ⟨g, cap, cur, rfl, hb, hg, _⟩
  · cases hj
  · cases hj
    exact ⟨hb, cur, _, _, hg⟩
theorem LRow.mono {base base' : Nat} {w : World} {v : Value} {L : List Bytes} (h : LRow base w v L) (hb : base' ≤ base) : LRow base' w v L :=
  ⟨h.1, h.2.imp id fun ⟨g, cap, cur, a, b, r⟩ => ⟨g, cap, cur, a, Nat.le_trans hb b, r⟩⟩
theorem LRow.at {base : Nat} {w : World} {g cap : Nat} {L : List Bytes} {n : Nat} (h : LRow base w (.slice (some ⟨g, 0, none⟩) n cap) L) (i : Nat) (hi : i < L.length) : w.cell? ⟨g, i, none⟩ = some (.string (bs (L.getD i []))) := by
  have hn : L.length = n := by
    rcases h.2 with ⟨h', _⟩ | ⟨g', cap', cur, h', _⟩
    · simp at h'
    · simp only [Value.slice.injEq] at h'
      exact h'.2.1.symm
  subst hn
  rw [World.ownsRow.cellAt h i (by omega), List.getElem?_map, List.getElem?_eq_getElem hi, List.getD, List.getElem?_eq_getElem hi]
  rfl
theorem infoStr : (Tryd.prog.info? 9).map (fun i => (i.zero, i.size, i.bytes)) = some (some (.string ByteArray.empty), 1, 16) := by kernel_rfl
theorem LRow.keep {base : Nat} {w w' : World} {v : Value} {L : List Bytes} {r : Option Nat} (h : LRow base w v L) (hg : w.grownBy w' r) (hn : ∀ j, v.ownBlock = some j → r ≠ some j) : LRow base w' v L :=
  h.kept hg (by
    cases hv : v.ownBlock with
    | none => exact .inl rfl
    | some g => exact .inr fun e => hn g hv e.symm)
theorem LRow.on {base : Nat} {w : World} {v : Value} {L : List Bytes} (h : LRow base w v L) (o : Obj) : LRow base (w.alloc o) v L :=
  h.keep (World.grownBy_alloc w o none) fun _ _ e => by cases e
theorem wpList_append_txt {ops : Array Oper} {rest : List Oper} {o : Oper} {a : Act} {w : World} {Q : Exit → Act → World → Prop} (hgd : o.guard = none) (s x : Operand)
    (ho : o.op = .call { callee := .builtin .append, args := #[s, x], argTypes := #[22, 22] }) (base : Nat) (v : Value) (L : List Bytes) (hs : a.eval s = v) (R : LRow base w v L)
    (u : Bytes) (ad : Addr) (hx : a.eval x = .slice (some ad) 1 1) (hc : w.cell? (ad.add 0) = some (tv u)) (hl : L.length ≤ 1000000000) (hb : base ≤ w.heap.size)
    (h : ∀ v' w', LRow base w' v' (L ++ [u]) → w.grownBy w' v.ownBlock → (v'.ownBlock = v.ownBlock ∨ v'.ownBlock = some w.heap.size) → wpList Tryd.prog ops Q rest (a.put o.dst v') w') : wpList Tryd.prog ops Q (o :: rest) a w := by
  refine wpList_plain hgd fun K hK => ?_
  obtain ⟨i0, hi, hz0, hz1, hz2⟩ := info_parts infoStr
  obtain ⟨v', w', hr, h2, h3, _, h5⟩ := run_append_own_at (P := Tryd.prog) w base 22 o.type 9 i0 (.string ByteArray.empty) 1 16 Tryd.underlying22 hi hz0 hz1 hz2 rfl (by decide) v L.length (L.map tv) R ad 1 1 [tv u] rfl (fun j y hy => by
    match j, hy with
    | 0, hy => simp at hy; subst hy; exact hc) (by simp [Value.oneCell', tv]) (by unfold maxLen; omega) (by omega) hb
  unfold Oper.wp execOp
  simp only [ho, resolve, invoke, builtin, Sem.run_bind, Sem.run_pure, Result.andThen_ok, List.map_toArray, List.map_cons, List.map_nil, hs, hx, hr]
  refine hK _ _ (h v' w' ?_ h3 h5)
  unfold LRow
  rw [List.length_append, List.map_append]
  exact h2
/-- .. of one text in a block that was just made -/
theorem new_cell (w : World) (t : TypeId) (v : Value) : (w.alloc (.cells #[v] t)).cell? ((⟨w.heap.size, 0, none⟩ : Addr).add 0) = some v := news1 w t v 0 v rfl
/-- what a row of texts of its own, grown by one, leaves -/
theorem below_app {w W w' : World} {v : Value} {L : List Bytes} (hB : Below w.heap.size w W) (R : LRow w.heap.size W v L) (hg : W.grownBy w' v.ownBlock) : Below w.heap.size w w' :=
  hB.grown hg hB.size fun j e => (R.lt j e).1
/-- append, by its run -/
theorem wpList_append_run {P : Program} {ops : Array Oper} {rest : List Oper} {o : Oper} {a : Act} {w w' : World} {Q : Exit → Act → World → Prop} (hgd : o.guard = none) (s x : Operand) (t u : TypeId)
    (ho : o.op = .call { callee := .builtin .append, args := #[s, x], argTypes := #[t, u] }) (v y v' : Value) (hs : a.eval s = v) (hx : a.eval x = y)
    (hr : (Builtin.append_ #[t, u] o.type #[v, y]).run P w = .ok v' w') (h : wpList P ops Q rest (a.put o.dst v') w') : wpList P ops Q (o :: rest) a w := by
  refine wpList_plain hgd fun K hK => ?_
  unfold Oper.wp execOp
  simp only [ho, resolve, invoke, builtin, Sem.run_bind, Sem.run_pure, Result.andThen_ok, List.map_toArray, List.map_cons, List.map_nil, hs, hx, hr]
  exact hK _ _ h
end Go.Proofs.YthflonnkmkjddaaDoor
end
section
set_option linter.unusedSimpArgs false
set_option linter.unusedVariables false
namespace Go.Proofs.YthflonnkmkjddaaDoor
open BigFrame Go.RowKit Go.Phx Go.Shelf
attribute [local go_sem] Oper.semAt_some

/-! a row of eight words, read at a place -/
theorem ix8_0 (x0 x1 x2 x3 x4 x5 x6 x7 : Value) (w : World) : (Instr.index 44 (.agg #[x0, x1, x2, x3, x4, x5, x6, x7]) (.int .i64 0)).run Tryd.prog w = .ok x0 w := by
  have hd : Tryd.prog.underlying 44 = some (.array 8 43) := by kernel_rfl
  simp [go_sem, Instr.index, hd]
theorem ix8_1 (x0 x1 x2 x3 x4 x5 x6 x7 : Value) (w : World) : (Instr.index 44 (.agg #[x0, x1, x2, x3, x4, x5, x6, x7]) (.int .i64 1)).run Tryd.prog w = .ok x1 w := by
  have hd : Tryd.prog.underlying 44 = some (.array 8 43) := by kernel_rfl
  simp [go_sem, Instr.index, hd]
theorem ix8_2 (x0 x1 x2 x3 x4 x5 x6 x7 : Value) (w : World) : (Instr.index 44 (.agg #[x0, x1, x2, x3, x4, x5, x6, x7]) (.int .i64 2)).run Tryd.prog w = .ok x2 w := by
  have hd : Tryd.prog.underlying 44 = some (.array 8 43) := by kernel_rfl
  simp [go_sem, Instr.index, hd]
theorem ix8_3 (x0 x1 x2 x3 x4 x5 x6 x7 : Value) (w : World) : (Instr.index 44 (.agg #[x0, x1, x2, x3, x4, x5, x6, x7]) (.int .i64 3)).run Tryd.prog w = .ok x3 w := by
  have hd : Tryd.prog.underlying 44 = some (.array 8 43) := by kernel_rfl
  simp [go_sem, Instr.index, hd]
theorem ix8_4 (x0 x1 x2 x3 x4 x5 x6 x7 : Value) (w : World) : (Instr.index 44 (.agg #[x0, x1, x2, x3, x4, x5, x6, x7]) (.int .i64 4)).run Tryd.prog w = .ok x4 w := by
  have hd : Tryd.prog.underlying 44 = some (.array 8 43) := by kernel_rfl
  simp [go_sem, Instr.index, hd]
theorem ix8_5 (x0 x1 x2 x3 x4 x5 x6 x7 : Value) (w : World) : (Instr.index 44 (.agg #[x0, x1, x2, x3, x4, x5, x6, x7]) (.int .i64 5)).run Tryd.prog w = .ok x5 w := by
  have hd : Tryd.prog.underlying 44 = some (.array 8 43) := by kernel_rfl
  simp [go_sem, Instr.index, hd]
theorem ix8_6 (x0 x1 x2 x3 x4 x5 x6 x7 : Value) (w : World) : (Instr.index 44 (.agg #[x0, x1, x2, x3, x4, x5, x6, x7]) (.int .i64 6)).run Tryd.prog w = .ok x6 w := by
  have hd : Tryd.prog.underlying 44 = some (.array 8 43) := by kernel_rfl
  simp [go_sem, Instr.index, hd]
theorem ix8_7 (x0 x1 x2 x3 x4 x5 x6 x7 : Value) (w : World) : (Instr.index 44 (.agg #[x0, x1, x2, x3, x4, x5, x6, x7]) (.int .i64 7)).run Tryd.prog w = .ok x7 w := by
  have hd : Tryd.prog.underlying 44 = some (.array 8 43) := by kernel_rfl
  simp [go_sem, Instr.index, hd]
attribute [local go_sem] ix8_0 ix8_1 ix8_2 ix8_3 ix8_4 ix8_5 ix8_6 ix8_7
set_option maxRecDepth 100000 in
set_option maxHeartbeats 16000000 in
theorem take_calls (b : Nat) (v : St) (s : ByteArray) (hs : s.size = 64) (w : World) (hk : HasK w) (hb : Blk w b 44 (cS v)) (hne : b ≠ 0) :
    Calls Tryd.prog 18 #[.pointer (some ⟨b, 0, none⟩), .string s] w (Wrote w b 44 (cS (takeB v s.data.toList))) := by
  have hidx := index_at s
  obtain ⟨l, hl⟩ : ∃ l, s.data.toList = l := ⟨_, rfl⟩
  have hll : l.length = 64 := by rw [← hl]; simpa using hs
  rw [hl] at hidx ⊢
  clear hl
  have hx0 : ∀ k : Nat, k < 64 → ∀ w, (Instr.index 9 (.string s) (.int .i64 (k : Int))).run Tryd.prog w = .ok (.int .u8 (vw (bw (l.getD k 0)))) w := fun k hk => hidx k (by omega) (by omega)
  clear hidx hs
  have hF1 := Lib.hid (firstW_all l hll)
  replace hll := Lib.hid hll
  have KH := Lib.hid hb
  have hbl := hb.lt
  have HK := Lib.hid hk
  have hkl := hk.2
  clear hb hk
  have hTB : takeB v l = v.add (roundW v (moreW l 48) 64) := by
    rw [roundW_all _ _ (moreW_len l 48 (by decide)), moreW_all]
    rfl
  rw [hTB]
  clear hTB
  go_enter Tryd.func18, Tryd.ntmps18
  go_wp2_with fail
  go_loopw [22, 5] (fun i j wr => ∃ k : Nat, k ≤ 64 ∧ i = .int .i64 k ∧ Blk wr w.heap.size 65 (cw (firstW l k)) ∧ Below w.heap.size w wr)
    (fun i _ _ => (64 - intOf i).toNat)
  case atStart => exact ⟨0, Nat.zero_le _, rfl, Blk.to (Blk.new0 _ _ _) rfl, (by repeat (first | assumption | exact Below.refl _ _ | refine Below.setCell ?_ (by first | exact Nat.le_refl _ | (simp; done) | omega | (simp; omega)) _ | refine Below.alloc ?_ (by first | exact Nat.le_refl _ | (simp; done) | omega | (simp; omega)) _ | refine below_drewN ?_ _ | refine Below.drew ?_ | refine Below.on (by assumption) ?_ | refine Below.via (by assumption) (by first | exact Nat.le_refl _ | (simp; done) | omega | (simp; omega)) ?_))⟩
  case round =>
    obtain ⟨k, hk, rfl, K0, HB⟩ := hrel
    by_cases hlt : k < 64
    · have HX := hx0 k hlt
      have hlen := firstW_len l k
      have g0 := cw_get (L := firstW l k) (i := k / 4) (by omega)
      have v1 := vw_nonneg (bw (l.getD k 0))
      have v2 := bw_lt (l.getD k 0)
      have e1 := shl_w' ((firstW l k).getD (k / 4) 0) 8 256 rfl
      have HS := (show firstW l (k + 1) = (firstW l k).set (k / 4) ((firstW l k).getD (k / 4) 0 <<< 8 ||| bw (l.getD k 0)) from rfl)
      have hc := cw_set (firstW l k) (k / 4) ((firstW l k).getD (k / 4) 0 <<< 8 ||| bw (l.getD k 0))
      rw [← HS] at hc
      replace hc := Lib.hid hc
      clear hlen HS
      generalize (firstW l k).getD (k / 4) 0 = x at *
      generalize firstW l k = L at *
      generalize bw (l.getD k 0) = c at *
      clear hx0 hF1
      replace K0 := Lib.hid K0
      (have k0 := Blk.cell K0.out; have f0 := Blk.free K0.out; have l0 := Blk.lt K0.out; have m0 := Nat.le_of_lt l0)
      go_wp2_with fail
      (refine wp_region_later_tail 13 (by kernel_rfl) (by kernel_rfl) ?_; simp only [List.take_succ_cons, List.take_zero, List.drop_succ_cons, List.drop_zero]; (repeat (go_big_quiet_step (fail))); refine wpQuiet_nil ?_; intro w' hB)
      (have HBn : Below w.heap.size w w' := Below.on hB (by repeat (first | assumption | exact Below.refl _ _ | refine Below.setCell ?_ (by first | exact Nat.le_refl _ | (simp; done) | omega | (simp; omega)) _ | refine Below.alloc ?_ (by first | exact Nat.le_refl _ | (simp; done) | omega | (simp; omega)) _ | refine below_drewN ?_ _ | refine Below.drew ?_ | refine Below.on (by assumption) ?_ | refine Below.via (by assumption) (by first | exact Nat.le_refl _ | (simp; done) | omega | (simp; omega)) ?_)); have N0 := Lib.hid (Blk.below (g := w.heap.size) (by repeat (first | with_reducible exact K0.out | with_reducible exact Blk.new0 _ _ _ | with_reducible exact Blk.new1 _ _ _ _ | with_reducible exact Blk.new2 _ _ _ _ _ | with_reducible exact Blk.new3 _ _ _ _ _ _ | with_reducible exact Blk.new4 _ _ _ _ _ _ _ | with_reducible exact Blk.newS1 _ _ _ _ _ | with_reducible exact Blk.newS2 _ _ _ _ _ _ _ | with_reducible exact Blk.newS3 _ _ _ _ _ _ _ _ _ | with_reducible apply Blk.set_ | with_reducible apply Blk.alloc | with_reducible apply Blk.drewN | with_reducible apply Blk.drew | (with_reducible apply Blk.over2; first | assumption | omega))) hB); (try simp only [List.setIfInBounds_toArray, List.set_cons_succ, List.set_cons_zero] at N0); clear K0 k0 f0 l0 m0; (try clear HB); clear hB; have HB := HBn; clear HBn; have HZw' := HB.size; have K0 := N0; clear N0; have k0 := Blk.cell K0.out; have f0 := Blk.free K0.out; have l0 := Blk.lt K0.out; have m0 := Nat.le_of_lt l0)
      go_wp2_with fail
      go_roundw
      case rel => exact ⟨k + 1, by omega, by go_num, by rw [← hc.out]; exact K0.out.set_ _ _, (by repeat (first | assumption | exact Below.refl _ _ | refine Below.setCell ?_ (by first | exact Nat.le_refl _ | (simp; done) | omega | (simp; omega)) _ | refine Below.alloc ?_ (by first | exact Nat.le_refl _ | (simp; done) | omega | (simp; omega)) _ | refine below_drewN ?_ _ | refine Below.drew ?_ | refine Below.on (by assumption) ?_ | refine Below.via (by assumption) (by first | exact Nat.le_refl _ | (simp; done) | omega | (simp; omega)) ?_))⟩
      case measure => simp [intOf]; omega
    · obtain rfl : k = 64 := by omega
      rw [hF1.out] at K0
      simp only [show ((64 : Nat) : Int) = 64 from rfl]
      change Blk wr _ _ (cw (moreW l 0)) at K0
      clear hx0 hF1
      go_wp2_with fail
      go_loopw [6] (fun i wr2 => ∃ k : Nat, k ≤ 48 ∧ i = .int .i64 ((k : Int) + 16) ∧ Blk wr2 w.heap.size 65 (cw (moreW l k)) ∧ Below w.heap.size w wr2)
        (fun i _ => (64 - intOf i).toNat)
      case atStart => exact ⟨0, Nat.zero_le _, rfl, K0, HB⟩
      case round =>
        clear K0 HB
        obtain ⟨k, hk, rfl, K0, HB⟩ := hrel
        by_cases hlt : k < 48
        · have HN := moreW_next l k hlt
          have hlen := moreW_len l k hk
          have hc := cw_set (moreW l k) (k + 16) ((moreW l k).getD k 0 + (moreW l k).getD (k + 9) 0 + sig0 ((moreW l k).getD (k + 1) 0) + sig1 ((moreW l k).getD (k + 14) 0))
          rw [← HN] at hc
          have g0 := cw_get (L := moreW l k) (i := k) (by omega)
          have g9 := cw_get (L := moreW l k) (i := k + 9) (by omega)
          have g1 := cw_get (L := moreW l k) (i := k + 1) (by omega)
          have g14 := cw_get (L := moreW l k) (i := k + 14) (by omega)
          have g16 := cw_get (L := moreW l k) (i := k + 16) (by omega)
          clear HN hlen
          generalize (moreW l k).getD k 0 = x0 at *
          generalize (moreW l k).getD (k + 9) 0 = x9 at *
          generalize (moreW l k).getD (k + 1) 0 = x1 at *
          generalize (moreW l k).getD (k + 14) 0 = x14 at *
          generalize (moreW l k).getD (k + 16) 0 = x16 at *
          generalize moreW l k = L at *
          have g9' := g9
          rw [show k + 9 = k + 16 - 7 from rfl] at g9'
          have g1' := g1
          rw [show k + 1 = k + 16 - 15 from rfl] at g1'
          have g14' := g14
          rw [show k + 14 = k + 16 - 2 from rfl] at g14'
          replace hc := Lib.hid hc
          have e1 := shr_w x1 3 8 rfl
          have e2 := shr_w x14 10 1024 rfl
          replace K0 := Lib.hid K0
          (have k0 := Blk.cell K0.out; have f0 := Blk.free K0.out; have l0 := Blk.lt K0.out; have m0 := Nat.le_of_lt l0)
          go_wp2_with fail
          (refine wp_region_later (by kernel_rfl) (by kernel_rfl) ?_; (repeat (go_big_quiet_step (fail))); refine wpQuiet_nil ?_; intro w' hB)
          (have HBn : Below w.heap.size w w' := Below.on hB (by repeat (first | assumption | exact Below.refl _ _ | refine Below.setCell ?_ (by first | exact Nat.le_refl _ | (simp; done) | omega | (simp; omega)) _ | refine Below.alloc ?_ (by first | exact Nat.le_refl _ | (simp; done) | omega | (simp; omega)) _ | refine below_drewN ?_ _ | refine Below.drew ?_ | refine Below.on (by assumption) ?_ | refine Below.via (by assumption) (by first | exact Nat.le_refl _ | (simp; done) | omega | (simp; omega)) ?_)); have N0 := Lib.hid (Blk.below (g := w.heap.size) (by repeat (first | with_reducible exact K0.out | with_reducible exact Blk.new0 _ _ _ | with_reducible exact Blk.new1 _ _ _ _ | with_reducible exact Blk.new2 _ _ _ _ _ | with_reducible exact Blk.new3 _ _ _ _ _ _ | with_reducible exact Blk.new4 _ _ _ _ _ _ _ | with_reducible exact Blk.newS1 _ _ _ _ _ | with_reducible exact Blk.newS2 _ _ _ _ _ _ _ | with_reducible exact Blk.newS3 _ _ _ _ _ _ _ _ _ | with_reducible apply Blk.set_ | with_reducible apply Blk.alloc | with_reducible apply Blk.drewN | with_reducible apply Blk.drew | (with_reducible apply Blk.over2; first | assumption | omega))) hB); (try simp only [List.setIfInBounds_toArray, List.set_cons_succ, List.set_cons_zero] at N0); clear K0 k0 f0 l0 m0; (try clear HB); clear hB; have HB := HBn; clear HBn; have HZw' := HB.size; have K0 := N0; clear N0; have k0 := Blk.cell K0.out; have f0 := Blk.free K0.out; have l0 := Blk.lt K0.out; have m0 := Nat.le_of_lt l0)
          go_wp2_with fail
          (refine wp_region_later_tail 29 (by kernel_rfl) (by kernel_rfl) ?_; simp only [List.take_succ_cons, List.take_zero, List.drop_succ_cons, List.drop_zero]; (repeat (go_big_quiet_step ((go_at_call 29; with_reducible exact lw (turn_of _ _ (by decide) _))))); refine wpQuiet_nil ?_; intro w' hB)
          (have HBn : Below w.heap.size w w' := Below.on hB (by repeat (first | assumption | exact Below.refl _ _ | refine Below.setCell ?_ (by first | exact Nat.le_refl _ | (simp; done) | omega | (simp; omega)) _ | refine Below.alloc ?_ (by first | exact Nat.le_refl _ | (simp; done) | omega | (simp; omega)) _ | refine below_drewN ?_ _ | refine Below.drew ?_ | refine Below.on (by assumption) ?_ | refine Below.via (by assumption) (by first | exact Nat.le_refl _ | (simp; done) | omega | (simp; omega)) ?_)); have N0 := Lib.hid (Blk.below (g := w.heap.size) (by repeat (first | with_reducible exact K0.out | with_reducible exact Blk.new0 _ _ _ | with_reducible exact Blk.new1 _ _ _ _ | with_reducible exact Blk.new2 _ _ _ _ _ | with_reducible exact Blk.new3 _ _ _ _ _ _ | with_reducible exact Blk.new4 _ _ _ _ _ _ _ | with_reducible exact Blk.newS1 _ _ _ _ _ | with_reducible exact Blk.newS2 _ _ _ _ _ _ _ | with_reducible exact Blk.newS3 _ _ _ _ _ _ _ _ _ | with_reducible apply Blk.set_ | with_reducible apply Blk.alloc | with_reducible apply Blk.drewN | with_reducible apply Blk.drew | (with_reducible apply Blk.over2; first | assumption | omega))) hB); (try simp only [List.setIfInBounds_toArray, List.set_cons_succ, List.set_cons_zero] at N0); clear K0 k0 f0 l0 m0; (try clear HB); clear hB; have HB := HBn; clear HBn; have HZw' := HB.size; have K0 := N0; clear N0; have k0 := Blk.cell K0.out; have f0 := Blk.free K0.out; have l0 := Blk.lt K0.out; have m0 := Nat.le_of_lt l0)
          go_wp2_with fail
          go_roundw
          case rel => exact ⟨k + 1, by omega, by congr 1 <;> omega, by rw [← hc.out]; exact K0.out.set_ _ _, (by repeat (first | assumption | exact Below.refl _ _ | refine Below.setCell ?_ (by first | exact Nat.le_refl _ | (simp; done) | omega | (simp; omega)) _ | refine Below.alloc ?_ (by first | exact Nat.le_refl _ | (simp; done) | omega | (simp; omega)) _ | refine below_drewN ?_ _ | refine Below.drew ?_ | refine Below.on (by assumption) ?_ | refine Below.via (by assumption) (by first | exact Nat.le_refl _ | (simp; done) | omega | (simp; omega)) ?_))⟩
          case measure => simp [intOf]; omega
        · obtain rfl : k = 48 := by omega
          simp only [show ((48 : Nat) : Int) + 16 = 64 from rfl]
          have hlen := moreW_len l 48 (by decide)
          have HR := fun k hk => roundW_succ v (moreW l 48) hlen k hk
          have hg := fun (i : Nat) (hi : i < 64) => cw_get (L := moreW l 48) (i := i) (by omega)
          generalize moreW l 48 = L at *
          clear hlen
          have K1 := KH.out.on HB hbl
          unfold cS at K1
          replace K1 := Lib.hid K1
          have HK1 := HK.out.from HB hkl
          replace K0 := Lib.hid K0
          (have k0 := Blk.cell K0.out; have f0 := Blk.free K0.out; have l0 := Blk.lt K0.out; have m0 := Nat.le_of_lt l0; have k1 := Blk.cell K1.out; have f1 := Blk.free K1.out; have l1 := Blk.lt K1.out; have m1 := Nat.le_of_lt l1)
          go_wp2_with fail
          (refine wp_region_later (by kernel_rfl) (by kernel_rfl) ?_; (repeat (go_big_quiet_step (fail))); refine wpQuiet_nil ?_; intro w' hB)
          have HK2 := Lib.hid (HK1.on hB)
          clear HK1
          (have HBn : Below w.heap.size w w' := Below.on hB (by repeat (first | assumption | exact Below.refl _ _ | refine Below.setCell ?_ (by first | exact Nat.le_refl _ | (simp; done) | omega | (simp; omega)) _ | refine Below.alloc ?_ (by first | exact Nat.le_refl _ | (simp; done) | omega | (simp; omega)) _ | refine below_drewN ?_ _ | refine Below.drew ?_ | refine Below.on (by assumption) ?_ | refine Below.via (by assumption) (by first | exact Nat.le_refl _ | (simp; done) | omega | (simp; omega)) ?_)); have N0 := Lib.hid (Blk.below (g := w.heap.size) (by repeat (first | with_reducible exact K0.out | with_reducible exact Blk.new0 _ _ _ | with_reducible exact Blk.new1 _ _ _ _ | with_reducible exact Blk.new2 _ _ _ _ _ | with_reducible exact Blk.new3 _ _ _ _ _ _ | with_reducible exact Blk.new4 _ _ _ _ _ _ _ | with_reducible exact Blk.newS1 _ _ _ _ _ | with_reducible exact Blk.newS2 _ _ _ _ _ _ _ | with_reducible exact Blk.newS3 _ _ _ _ _ _ _ _ _ | with_reducible apply Blk.set_ | with_reducible apply Blk.alloc | with_reducible apply Blk.drewN | with_reducible apply Blk.drew | (with_reducible apply Blk.over2; first | assumption | omega))) hB); (try simp only [List.setIfInBounds_toArray, List.set_cons_succ, List.set_cons_zero] at N0); have N1 := Lib.hid (Blk.below (g := b) (by repeat (first | with_reducible exact K1.out | with_reducible exact Blk.new0 _ _ _ | with_reducible exact Blk.new1 _ _ _ _ | with_reducible exact Blk.new2 _ _ _ _ _ | with_reducible exact Blk.new3 _ _ _ _ _ _ | with_reducible exact Blk.new4 _ _ _ _ _ _ _ | with_reducible exact Blk.newS1 _ _ _ _ _ | with_reducible exact Blk.newS2 _ _ _ _ _ _ _ | with_reducible exact Blk.newS3 _ _ _ _ _ _ _ _ _ | with_reducible apply Blk.set_ | with_reducible apply Blk.alloc | with_reducible apply Blk.drewN | with_reducible apply Blk.drew | (with_reducible apply Blk.over2; first | assumption | omega))) hB); (try simp only [List.setIfInBounds_toArray, List.set_cons_succ, List.set_cons_zero] at N1); clear K0 k0 f0 l0 m0 K1 k1 f1 l1 m1; (try clear HB); clear hB; have HB := HBn; clear HBn; have HZw' := HB.size; have K0 := N0; clear N0; have k0 := Blk.cell K0.out; have f0 := Blk.free K0.out; have l0 := Blk.lt K0.out; have m0 := Nat.le_of_lt l0; have K1 := N1; clear N1; have k1 := Blk.cell K1.out; have f1 := Blk.free K1.out; have l1 := Blk.lt K1.out; have m1 := Nat.le_of_lt l1)
          go_wp2_with fail
          go_loopw [9, 10, 11, 12, 13, 14, 15, 16, 112] (fun a1 b1 c1 d1 e1 f1 g1 h1 i wr3 => ∃ (k : Nat) (u : St), k ≤ 64 ∧ u = roundW v L k ∧ i = .int .i64 k ∧ a1 = .int .u32 (vw u.a) ∧ b1 = .int .u32 (vw u.b) ∧ c1 = .int .u32 (vw u.c) ∧ d1 = .int .u32 (vw u.d) ∧ e1 = .int .u32 (vw u.e) ∧ f1 = .int .u32 (vw u.f) ∧ g1 = .int .u32 (vw u.g) ∧ h1 = .int .u32 (vw u.h) ∧
              Blk wr3 w.heap.size 65 (cw L) ∧ Below w.heap.size w wr3)
            (fun _ _ _ _ _ _ _ _ i _ => (64 - intOf i).toNat)
          case atStart => exact ⟨0, v, Nat.zero_le _, rfl, rfl, rfl, rfl, rfl, rfl, rfl, rfl, rfl, rfl, K0.out, HB⟩
          case round =>
            clear K0 K1 k0 f0 l0 m0 k1 f1 l1 m1 HB HZw' HK2
            obtain ⟨k, u, hk, hu, rfl, rfl, rfl, rfl, rfl, rfl, rfl, rfl, rfl, K0, HB⟩ := hrel
            by_cases hlt : k < 64
            · have HS := HR k hlt
              rw [← hu] at HS
              have hgk := hg k hlt
              have HK1 := HK.out.from HB hkl
              have hkk := HK1.1 k hlt
              have hk0 := HK1.2
              clear HR hg HK1 hu
              generalize L.getD k 0 = y at *
              generalize kTab.getD k 0 = kk at *
              replace HS := Lib.hid HS
              replace K0 := Lib.hid K0
              (have k0 := Blk.cell K0.out; have f0 := Blk.free K0.out; have l0 := Blk.lt K0.out; have m0 := Nat.le_of_lt l0)
              go_wp2_with fail
              (refine wp_region_later (by kernel_rfl) (by kernel_rfl) ?_; (repeat (go_big_quiet_step ((go_at_call 29; with_reducible exact lw (turn_of _ _ (by decide) _))))); refine wpQuiet_nil ?_; intro w' hB)
              (have HBn : Below w.heap.size w w' := Below.on hB (by repeat (first | assumption | exact Below.refl _ _ | refine Below.setCell ?_ (by first | exact Nat.le_refl _ | (simp; done) | omega | (simp; omega)) _ | refine Below.alloc ?_ (by first | exact Nat.le_refl _ | (simp; done) | omega | (simp; omega)) _ | refine below_drewN ?_ _ | refine Below.drew ?_ | refine Below.on (by assumption) ?_ | refine Below.via (by assumption) (by first | exact Nat.le_refl _ | (simp; done) | omega | (simp; omega)) ?_)); have N0 := Lib.hid (Blk.below (g := w.heap.size) (by repeat (first | with_reducible exact K0.out | with_reducible exact Blk.new0 _ _ _ | with_reducible exact Blk.new1 _ _ _ _ | with_reducible exact Blk.new2 _ _ _ _ _ | with_reducible exact Blk.new3 _ _ _ _ _ _ | with_reducible exact Blk.new4 _ _ _ _ _ _ _ | with_reducible exact Blk.newS1 _ _ _ _ _ | with_reducible exact Blk.newS2 _ _ _ _ _ _ _ | with_reducible exact Blk.newS3 _ _ _ _ _ _ _ _ _ | with_reducible apply Blk.set_ | with_reducible apply Blk.alloc | with_reducible apply Blk.drewN | with_reducible apply Blk.drew | (with_reducible apply Blk.over2; first | assumption | omega))) hB); (try simp only [List.setIfInBounds_toArray, List.set_cons_succ, List.set_cons_zero] at N0); clear K0 k0 f0 l0 m0; (try clear HB); clear hB; have HB := HBn; clear HBn; have HZw' := HB.size; have K0 := N0; clear N0; have k0 := Blk.cell K0.out; have f0 := Blk.free K0.out; have l0 := Blk.lt K0.out; have m0 := Nat.le_of_lt l0)
              go_wp2_with fail
              refine (turn_of _ _ (by decide) _).mono ?_
              rintro e w' ⟨rfl, rfl⟩
              go_wp2_with fail
              refine (turn_of _ _ (by decide) _).mono ?_
              rintro e w' ⟨rfl, rfl⟩
              go_wp2_with fail
              refine (turn_of _ _ (by decide) _).mono ?_
              rintro e w' ⟨rfl, rfl⟩
              go_wp2_with fail
              go_roundw
              case rel => exact ⟨k + 1, rnd u kk y, by omega, HS.out.symm, by congr 1 <;> omega, rfl, rfl, rfl, rfl, rfl, rfl, rfl, rfl, K0.out, HB⟩
              case measure => simp [intOf]; omega
            · obtain rfl : k = 64 := by omega
              have HU := Lib.hid hu
              clear hu HR hg
              have K1 := KH.out.on HB hbl
              have G := grown_of (b := b) HB
              clear KH HK K0 HB
              unfold cS at K1
              replace K1 := Lib.hid K1
              go_wp2_with fail
              refine wp_loop_rounds 9 ?_
              rw [rounds_succ]
              (have k1 := Blk.cell K1.out; have f1 := Blk.free K1.out; have l1 := Blk.lt K1.out; have m1 := Nat.le_of_lt l1)
              go_wp2_with fail
              (refine wp_region_later_tail 9 (by kernel_rfl) (by kernel_rfl) ?_; simp only [List.take_succ_cons, List.take_zero, List.drop_succ_cons, List.drop_zero]; (repeat (go_big_quiet_step (fail))); refine wpQuiet_nil ?_; intro w' hB)
              clear k1 f1 l1 m1
              replace K1 := Lib.hid (K1.out.below hB)
              replace G := grown_on G hB
              clear hB
              (have k1 := Blk.cell K1.out; have f1 := Blk.free K1.out; have l1 := Blk.lt K1.out; have m1 := Nat.le_of_lt l1)
              go_wp2_with fail
              clear k1 f1 l1 m1
              replace K1 := Lib.hid (K1.out.set_ 0 (.int .u32 (vw (v.a + u.a))))
              replace G := grown_set (i := 0) (u := .int .u32 (vw (v.a + u.a))) G
              simp only [List.setIfInBounds_toArray, List.set_cons_succ, List.set_cons_zero] at K1
              generalize w'.setCell ⟨b, 0, none⟩ (.int .u32 (vw (v.a + u.a))) = v0 at K1 G ⊢
              rw [rounds_succ]
              (have k1 := Blk.cell K1.out; have f1 := Blk.free K1.out; have l1 := Blk.lt K1.out; have m1 := Nat.le_of_lt l1)
              go_wp2_with fail
              (refine wp_region_later_tail 9 (by kernel_rfl) (by kernel_rfl) ?_; simp only [List.take_succ_cons, List.take_zero, List.drop_succ_cons, List.drop_zero]; (repeat (go_big_quiet_step (fail))); refine wpQuiet_nil ?_; intro w' hB)
              clear k1 f1 l1 m1
              replace K1 := Lib.hid (K1.out.below hB)
              replace G := grown_on G hB
              clear hB
              (have k1 := Blk.cell K1.out; have f1 := Blk.free K1.out; have l1 := Blk.lt K1.out; have m1 := Nat.le_of_lt l1)
              go_wp2_with fail
              clear k1 f1 l1 m1
              replace K1 := Lib.hid (K1.out.set_ 1 (.int .u32 (vw (v.b + u.b))))
              replace G := grown_set (i := 1) (u := .int .u32 (vw (v.b + u.b))) G
              simp only [List.setIfInBounds_toArray, List.set_cons_succ, List.set_cons_zero] at K1
              generalize w'.setCell ⟨b, 1, none⟩ (.int .u32 (vw (v.b + u.b))) = v1 at K1 G ⊢
              rw [rounds_succ]
              (have k1 := Blk.cell K1.out; have f1 := Blk.free K1.out; have l1 := Blk.lt K1.out; have m1 := Nat.le_of_lt l1)
              go_wp2_with fail
              (refine wp_region_later_tail 9 (by kernel_rfl) (by kernel_rfl) ?_; simp only [List.take_succ_cons, List.take_zero, List.drop_succ_cons, List.drop_zero]; (repeat (go_big_quiet_step (fail))); refine wpQuiet_nil ?_; intro w' hB)
              clear k1 f1 l1 m1
              replace K1 := Lib.hid (K1.out.below hB)
              replace G := grown_on G hB
              clear hB
              (have k1 := Blk.cell K1.out; have f1 := Blk.free K1.out; have l1 := Blk.lt K1.out; have m1 := Nat.le_of_lt l1)
              go_wp2_with fail
              clear k1 f1 l1 m1
              replace K1 := Lib.hid (K1.out.set_ 2 (.int .u32 (vw (v.c + u.c))))
              replace G := grown_set (i := 2) (u := .int .u32 (vw (v.c + u.c))) G
              simp only [List.setIfInBounds_toArray, List.set_cons_succ, List.set_cons_zero] at K1
              generalize w'.setCell ⟨b, 2, none⟩ (.int .u32 (vw (v.c + u.c))) = v2 at K1 G ⊢
              rw [rounds_succ]
              (have k1 := Blk.cell K1.out; have f1 := Blk.free K1.out; have l1 := Blk.lt K1.out; have m1 := Nat.le_of_lt l1)
              go_wp2_with fail
              (refine wp_region_later_tail 9 (by kernel_rfl) (by kernel_rfl) ?_; simp only [List.take_succ_cons, List.take_zero, List.drop_succ_cons, List.drop_zero]; (repeat (go_big_quiet_step (fail))); refine wpQuiet_nil ?_; intro w' hB)
              clear k1 f1 l1 m1
              replace K1 := Lib.hid (K1.out.below hB)
              replace G := grown_on G hB
              clear hB
              (have k1 := Blk.cell K1.out; have f1 := Blk.free K1.out; have l1 := Blk.lt K1.out; have m1 := Nat.le_of_lt l1)
              go_wp2_with fail
              clear k1 f1 l1 m1
              replace K1 := Lib.hid (K1.out.set_ 3 (.int .u32 (vw (v.d + u.d))))
              replace G := grown_set (i := 3) (u := .int .u32 (vw (v.d + u.d))) G
              simp only [List.setIfInBounds_toArray, List.set_cons_succ, List.set_cons_zero] at K1
              generalize w'.setCell ⟨b, 3, none⟩ (.int .u32 (vw (v.d + u.d))) = v3 at K1 G ⊢
              rw [rounds_succ]
              (have k1 := Blk.cell K1.out; have f1 := Blk.free K1.out; have l1 := Blk.lt K1.out; have m1 := Nat.le_of_lt l1)
              go_wp2_with fail
              (refine wp_region_later_tail 9 (by kernel_rfl) (by kernel_rfl) ?_; simp only [List.take_succ_cons, List.take_zero, List.drop_succ_cons, List.drop_zero]; (repeat (go_big_quiet_step (fail))); refine wpQuiet_nil ?_; intro w' hB)
              clear k1 f1 l1 m1
              replace K1 := Lib.hid (K1.out.below hB)
              replace G := grown_on G hB
              clear hB
              (have k1 := Blk.cell K1.out; have f1 := Blk.free K1.out; have l1 := Blk.lt K1.out; have m1 := Nat.le_of_lt l1)
              go_wp2_with fail
              clear k1 f1 l1 m1
              replace K1 := Lib.hid (K1.out.set_ 4 (.int .u32 (vw (v.e + u.e))))
              replace G := grown_set (i := 4) (u := .int .u32 (vw (v.e + u.e))) G
              simp only [List.setIfInBounds_toArray, List.set_cons_succ, List.set_cons_zero] at K1
              generalize w'.setCell ⟨b, 4, none⟩ (.int .u32 (vw (v.e + u.e))) = v4 at K1 G ⊢
              rw [rounds_succ]
              (have k1 := Blk.cell K1.out; have f1 := Blk.free K1.out; have l1 := Blk.lt K1.out; have m1 := Nat.le_of_lt l1)
              go_wp2_with fail
              (refine wp_region_later_tail 9 (by kernel_rfl) (by kernel_rfl) ?_; simp only [List.take_succ_cons, List.take_zero, List.drop_succ_cons, List.drop_zero]; (repeat (go_big_quiet_step (fail))); refine wpQuiet_nil ?_; intro w' hB)
              clear k1 f1 l1 m1
              replace K1 := Lib.hid (K1.out.below hB)
              replace G := grown_on G hB
              clear hB
              (have k1 := Blk.cell K1.out; have f1 := Blk.free K1.out; have l1 := Blk.lt K1.out; have m1 := Nat.le_of_lt l1)
              go_wp2_with fail
              clear k1 f1 l1 m1
              replace K1 := Lib.hid (K1.out.set_ 5 (.int .u32 (vw (v.f + u.f))))
              replace G := grown_set (i := 5) (u := .int .u32 (vw (v.f + u.f))) G
              simp only [List.setIfInBounds_toArray, List.set_cons_succ, List.set_cons_zero] at K1
              generalize w'.setCell ⟨b, 5, none⟩ (.int .u32 (vw (v.f + u.f))) = v5 at K1 G ⊢
              rw [rounds_succ]
              (have k1 := Blk.cell K1.out; have f1 := Blk.free K1.out; have l1 := Blk.lt K1.out; have m1 := Nat.le_of_lt l1)
              go_wp2_with fail
              (refine wp_region_later_tail 9 (by kernel_rfl) (by kernel_rfl) ?_; simp only [List.take_succ_cons, List.take_zero, List.drop_succ_cons, List.drop_zero]; (repeat (go_big_quiet_step (fail))); refine wpQuiet_nil ?_; intro w' hB)
              clear k1 f1 l1 m1
              replace K1 := Lib.hid (K1.out.below hB)
              replace G := grown_on G hB
              clear hB
              (have k1 := Blk.cell K1.out; have f1 := Blk.free K1.out; have l1 := Blk.lt K1.out; have m1 := Nat.le_of_lt l1)
              go_wp2_with fail
              clear k1 f1 l1 m1
              replace K1 := Lib.hid (K1.out.set_ 6 (.int .u32 (vw (v.g + u.g))))
              replace G := grown_set (i := 6) (u := .int .u32 (vw (v.g + u.g))) G
              simp only [List.setIfInBounds_toArray, List.set_cons_succ, List.set_cons_zero] at K1
              generalize w'.setCell ⟨b, 6, none⟩ (.int .u32 (vw (v.g + u.g))) = v6 at K1 G ⊢
              rw [rounds_succ]
              (have k1 := Blk.cell K1.out; have f1 := Blk.free K1.out; have l1 := Blk.lt K1.out; have m1 := Nat.le_of_lt l1)
              go_wp2_with fail
              (refine wp_region_later_tail 9 (by kernel_rfl) (by kernel_rfl) ?_; simp only [List.take_succ_cons, List.take_zero, List.drop_succ_cons, List.drop_zero]; (repeat (go_big_quiet_step (fail))); refine wpQuiet_nil ?_; intro w' hB)
              clear k1 f1 l1 m1
              replace K1 := Lib.hid (K1.out.below hB)
              replace G := grown_on G hB
              clear hB
              (have k1 := Blk.cell K1.out; have f1 := Blk.free K1.out; have l1 := Blk.lt K1.out; have m1 := Nat.le_of_lt l1)
              go_wp2_with fail
              clear k1 f1 l1 m1
              replace K1 := Lib.hid (K1.out.set_ 7 (.int .u32 (vw (v.h + u.h))))
              replace G := grown_set (i := 7) (u := .int .u32 (vw (v.h + u.h))) G
              simp only [List.setIfInBounds_toArray, List.set_cons_succ, List.set_cons_zero] at K1
              generalize w'.setCell ⟨b, 7, none⟩ (.int .u32 (vw (v.h + u.h))) = v7 at K1 G ⊢
              rw [rounds_succ]
              go_wp2_with fail
              refine bodyPost_end (results_none rfl _ _ _) rfl ?_

              exact ⟨rfl, G, by rw [← HU.out]; exact K1.out⟩
end Go.Proofs.YthflonnkmkjddaaDoor
end
section
namespace Go.Proofs.YthflonnkmkjddaaDoor
open Go.RowKit Go.Shelf

def SeqSt {α σ : Type} (F : Fence) (n : Nat) (P : Program) (g : Nat) (lb : Array Value) (encs : α → Array Value) (At : List α → α → σ → World → Prop)
    (Kp : σ → World → World → Prop) (Ab : σ → World → σ → World → Prop) (x0 : σ) (S Sp : List α → Prop) (w : World) : Prop :=
  ∀ (l : Nat) (J Jx : List α → σ → World → Prop) (W : World), Below w.heap.size w W →
    (∀ s x A y B, J s x A → Ab x A y B → J s y B) → (∀ s x A y B, Jx s x A → Ab x A y B → Jx s y B) →
    (∀ pre y x A, J pre x A → At pre y x A → YieldAt F (n - 1) P l (encs y) A fun e B =>
      (e = .returned (.bool true) ∧ J (pre ++ [y]) x B ∧ Kp x A B) ∨ (e = .returned (.bool false) ∧ Jx (pre ++ [y]) x B)) →
    J [] x0 W →
    CallsIn F n P g (#[.func (.yield l) #[] #[]] ++ lb) W fun e B => (∃ v, e = .returned v) ∧ ((∃ xs x, S xs ∧ J xs x B) ∨ (∃ pre x, Sp pre ∧ Jx pre x B))

theorem wpIn_rangeFunc_st {α σ : Type} {F : Fence} {n : Nat} {P : Program} {g : Operand} {ps : Array Tmp} {assign body : Code} {Q : Exit → Act → World → Prop} {a : Act} {w : World}
    (hro : F.round = none) (h1 : 1 ≤ n) {gf : Nat} {lb : Array Value} (hg : a.eval g = .func (.func gf) #[] lb) (hFg : F.fn gf) (eg : ∀ args w, (callFunc gf args).run P w = .ok (.enter gf args) w)
    {encs : α → Array Value} {At : List α → α → σ → World → Prop} {Kp : σ → World → World → Prop} {Ab : σ → World → σ → World → Prop} {x0 : σ} {S Sp : List α → Prop}
    (hseq : SeqSt F (n - 1) P gf lb encs At Kp Ab x0 S Sp w) (hps : ∀ y, (encs y).size = ps.size)
    (hKt : ∀ x A B C, Kp x A B → Kp x B C → Kp x A C) (hKb : ∀ x (W : World) (l : Nat) (o o' : Obj), w.heap.size ≤ l → W.heap[l]? = some o → o.isCells = false → o.isWalk = false → Kp x W (W.putObj l o'))
    (hAb : ∀ x (A : World) y (B : World) (k : Nat) (o : Obj), Ab x A y B → w.heap.size ≤ k → A.heap[k]? = some o → o.isCells = false → o.isWalk = false → B.heap[k]? = some o)
    (hAt : ∀ pre y x (W : World) (l : Nat) (o o' : Obj), At pre y x W → w.heap.size ≤ l → W.heap[l]? = some o → o.isCells = false → At pre y x (W.putObj l o'))
    (I : List α → σ → World → Prop) (Ix : Code → List α → σ → World → Prop) (hI : ∀ x, OwnFrom w.heap.size fun s W => I s x W) (hIx : ∀ c x, OwnFrom w.heap.size fun s W => Ix c s x W)
    (hIA : ∀ s x A y B, I s x A → Ab x A y B → I s y B) (hIxA : ∀ c s x A y B, Ix c s x A → Ab x A y B → Ix c s y B)
    (h0 : I [] x0 w) (a₁ : α → Act)
    (hassign : ∀ (l : Nat) (y : α) (W : World) (K : Act → World → Prop), K (a₁ y) W →
      assign.wpIn (F.inRound l) (n - 1 - 1) P (Exit.then K (fun _ _ _ => False)) { tmps := (ps.zip (encs y)).foldl (fun t (p, v) => t.setIfInBounds p v) a.tmps, defers := [] } W)
    (hbody : ∀ (l : Nat) (pre : List α) (y : α) (x : σ) (W : World), I pre x W → At pre y x W →
      body.wpIn (F.inRound l) (n - 1 - 1) P (ownPostK (Kp x) (fun s W => I s x W) (fun c s W => Ix c s x W) (pre ++ [y]) W) (a₁ y) W)
    (hdone : ∀ (D : Nat) (xs : List α) (x : σ) (W : World), w.heap.size ≤ D → S xs → I xs x W → W.heap[D]? = some (.deferred (some [])) → Q .normal { a with defers := { target := .collected D, args := #[] } :: a.defers } W)
    (hstop : ∀ (D : Nat) (c : Code) (pre : List α) (x : σ) (W : World), w.heap.size ≤ D → Sp pre → Ix c pre x W → W.heap[D]? = some (.deferred (some [])) → c.wpIn F n P Q { a with defers := { target := .collected D, args := #[] } :: a.defers } W) :
    (Code.rangeFunc g ps assign body).wpIn F n P Q a w := by
  refine wpIn_rangeFunc fun fn hfn => ?_
  rw [hro]
  obtain ⟨rec, hrec⟩ : ∃ rec : LoopState → Option Code → Loop, rec = fun st pe => { state := st, pending := pe, fn, tmps := a.tmps, params := ps, assign, body, defers := w.heap.size } := ⟨_, rfl⟩
  obtain ⟨V, hV⟩ : ∃ V, (w.alloc (.deferred (some []))).alloc (.loop (rec .ready none)) = V := ⟨_, rfl⟩
  have hLV : V.heap[w.heap.size + 1]? = some (.loop (rec .ready none)) := by
    rw [← hV]
    have := World.alloc_heap_new (w.alloc (.deferred (some []))) (.loop (rec .ready none))
    rwa [World.size_alloc] at this
  have hDV : V.heap[w.heap.size]? = some (.deferred (some [])) := by
    rw [← hV]
    exact (Below.heap_alloc _ _ _ (by simp)).trans (World.alloc_heap_new w _)
  have hIV : I [] x0 V := by rw [← hV]; exact (hI x0).alloc _ ((hI x0).alloc _ h0)
  have hBV : Below w.heap.size w V := by rw [← hV]; exact ((Below.refl _ w).alloc (Nat.le_refl _) _).alloc (by simp) _
  -- the caller's word with the two blocks of book-keeping beside it
  let J : List α → σ → World → Prop := fun s x W => I s x W ∧ W.heap[w.heap.size + 1]? = some (.loop (rec .ready none)) ∧ W.heap[w.heap.size]? = some (.deferred (some []))
  let Jx : List α → σ → World → Prop := fun s x W => ∃ c, Ix c s x W ∧ W.heap[w.heap.size + 1]? = some (.loop (rec .done (some c))) ∧ W.heap[w.heap.size]? = some (.deferred (some []))
  have hJ : ∀ s x A y B, J s x A → Ab x A y B → J s y B := fun s x A y B h hab => ⟨hIA _ _ _ _ _ h.1 hab, hAb _ _ _ _ _ _ hab (by omega) h.2.1 rfl rfl, hAb _ _ _ _ _ _ hab (Nat.le_refl _) h.2.2 rfl rfl⟩
  have hJx : ∀ s x A y B, Jx s x A → Ab x A y B → Jx s y B := fun s x A y B h hab => by
    obtain ⟨c, h1, h2, h3⟩ := h
    exact ⟨c, hIxA _ _ _ _ _ _ h1 hab, hAb _ _ _ _ _ _ hab (by omega) h2 rfl rfl, hAb _ _ _ _ _ _ hab (Nat.le_refl _) h3 rfl rfl⟩
  have round : ∀ pre y x A, J pre x A → At pre y x A → YieldAt F (n - 1 - 1) P (w.heap.size + 1) (encs y) A fun e B =>
      (e = .returned (.bool true) ∧ J (pre ++ [y]) x B ∧ Kp x A B) ∨ (e = .returned (.bool false) ∧ Jx (pre ++ [y]) x B) := by
    rintro pre y x W ⟨hi, hl, hk⟩ hat
    have hlt : w.heap.size + 1 < W.heap.size := (Array.getElem?_eq_some_iff.1 hl).1
    have hy := run_yield (P := P) (args := encs y) hl (by rw [hrec]; exact hps y)
    rw [hrec] at hy
    refine ⟨fn, _, assign, body, hy, roundIn_of_wpIn hfn (hassign _ y W _ ⟨_, run_beginRound hl (by rw [hrec]), ?_⟩)⟩
    have hl2 : (W.putObj (w.heap.size + 1) (.loop { rec .ready none with state := .busy })).heap[w.heap.size + 1]? = some (.loop { rec .ready none with state := .busy }) := World.putObj_heap_same hlt
    have hk2 : (W.putObj (w.heap.size + 1) (.loop { rec .ready none with state := .busy })).heap[w.heap.size]? = some (.deferred (some [])) := (World.putObj_heap_other (by omega)).trans hk
    have hw2 : Kp x W (W.putObj (w.heap.size + 1) (.loop { rec .ready none with state := .busy })) := hKb _ _ _ _ _ (by omega) hl rfl rfl
    refine wpIn_mono (hbody _ pre y x _ ((hI x).putObj _ hi (by omega) hl rfl) (hAt _ _ _ _ _ _ _ hat (by omega) hl rfl)) ?_
    have fin : ∀ (jump : Option Code) (W3 : World), KeepsOthers (W.putObj (w.heap.size + 1) (.loop { rec .ready none with state := .busy })) W3 →
        (Instr.endRound (w.heap.size + 1) jump).run P W3 = .ok (.bool jump.isNone) (W3.putObj (w.heap.size + 1) (.loop (rec (if jump.isNone then .ready else .done) jump))) ∧
        W3.heap[w.heap.size + 1]? = some (.loop { rec .ready none with state := .busy }) ∧
        (W3.putObj (w.heap.size + 1) (.loop (rec (if jump.isNone then .ready else .done) jump))).heap[w.heap.size + 1]? = some (.loop (rec (if jump.isNone then .ready else .done) jump)) ∧
        (W3.putObj (w.heap.size + 1) (.loop (rec (if jump.isNone then .ready else .done) jump))).heap[w.heap.size]? = some (.deferred (some [])) := fun jump W3 hk3 => by
      have hl3 := hk3.same _ _ hl2 rfl
      have h4 := run_endRound (P := P) jump hl3
      rw [hrec] at h4 ⊢
      exact ⟨h4, by rw [hrec] at hl3; exact hl3, World.putObj_heap_same (Array.getElem?_eq_some_iff.1 hl3).1, (World.putObj_heap_other (by omega)).trans (hk3.same _ _ hk2 rfl)⟩
    rintro e a3 W3 hp
    cases e with
    | normal =>
      obtain ⟨hk3, hkp3, hi3⟩ := hp
      obtain ⟨hr, hl3, hl4, hk4⟩ := fin none W3 hk3
      exact ⟨_, _, hr, .inl ⟨rfl, ⟨(hI x).putObj _ hi3 (by omega) hl3 rfl, hl4, hk4⟩, hKt _ _ _ _ (hKt _ _ _ _ hw2 hkp3) (hKb _ _ _ _ _ (by omega) hl3 rfl rfl)⟩⟩
    | ret =>
      obtain ⟨hr, hl3, hl4, hk4⟩ := fin (some .ret) W3 hp.1
      exact ⟨_, _, hr, .inr ⟨rfl, .ret, (hIx _ x).putObj _ hp.2 (by omega) hl3 rfl, hl4, hk4⟩⟩
    | exit id =>
      obtain ⟨hr, hl3, hl4, hk4⟩ := fin (some (.exit id)) W3 hp.1
      exact ⟨_, _, hr, .inr ⟨rfl, .exit id, (hIx _ x).putObj _ hp.2 (by omega) hl3 rfl, hl4, hk4⟩⟩
    | goto t =>
      obtain ⟨hr, hl3, hl4, hk4⟩ := fin (some (.goto t)) W3 hp.1
      exact ⟨_, _, hr, .inr ⟨rfl, .goto t, (hIx _ x).putObj _ hp.2 (by omega) hl3 rfl, hl4, hk4⟩⟩
    | panic ch => exact hp.elim
    | outgrown => exact hp.elim
  refine ⟨w.heap.size + 1, [{ target := .collected w.heap.size, args := #[] }], V, { target := .fn (.func gf) lb, args := #[.func (.yield (w.heap.size + 1)) #[] #[]] }, V, gf,
    #[.func (.yield (w.heap.size + 1)) #[] #[]] ++ lb, V, ?_, ?_, ?_, ?_, fun _ => h1, ?_⟩
  · rw [← hV, hrec]; exact run_enterLoop_outer _ _ _ _ _
  · simp only [resolve, hg]
    simp [go_sem]
  · intro f' hf'
    simp [Target.leads] at hf'
    subst hf'
    exact hFg
  · simp [invoke, go_sem, eg]
  refine (hseq (w.heap.size + 1) J Jx V hBV hJ hJx round ⟨hIV, hLV, hDV⟩).mono ?_
  rintro e W2 ⟨⟨v, rfl⟩, (⟨xs, x, hS, hi, hl, hk⟩ | ⟨pre, x, hSp, c, hi, hl, hk⟩)⟩
  · exact ⟨none, _, by have := run_endLoop (P := P) hl (by rw [hrec]; simp); rw [hrec] at this; exact this, hdone _ xs x _ (Nat.le_refl _) hS ((hI x).putObj _ hi (by omega) hl rfl) ((World.putObj_heap_other (by omega)).trans hk)⟩
  · exact ⟨some c, _, by have := run_endLoop (P := P) hl (by rw [hrec]; simp); rw [hrec] at this; exact this, hstop _ c pre x _ (Nat.le_refl _) hSp ((hIx c x).putObj _ hi (by omega) hl rfl) ((World.putObj_heap_other (by omega)).trans hk)⟩
end Go.Proofs.YthflonnkmkjddaaDoor
end
