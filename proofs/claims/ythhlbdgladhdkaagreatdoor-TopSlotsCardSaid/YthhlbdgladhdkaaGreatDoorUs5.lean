/- What the later texts stand on (Lrow, Itm, Rlp1, Bld, Bld2, Ixs): plain laws and walks, each by its own conditions. -/
import Derived.Test.YthhlbdgladhdkaaGreatDoorUs3
import Derived.Test.YthhlbdgladhdkaaGreatDoorUs4
import Derived.Deep.AppendLies
import Derived.Maps.OwnIn
import Derived.Test.YthhlbdgladhdkaaGreatDoorShelf
import Derived.Lib.Builder
set_option linter.unusedSimpArgs false
set_option linter.unusedVariables false
section
namespace Go.Proofs.YthhlbdgladhdkaaGreatDoor
open BigFrame Go.RowKit Go.Phx Go.Shelf
attribute [local go_sem] Oper.semAt_some

def Txts (w : World) (A : Option Addr) (L : List Bytes) : Prop := Strs w A (L.map bs)
theorem Txts.at {w : World} {A : Option Addr} {L : List Bytes} (h : Txts w A L) (i : Nat) (hi : i < L.length) : ∃ b o, A = some ⟨b, o, none⟩ ∧ b < w.heap.size ∧ w.cell? ⟨b, o + i, none⟩ = some (.string (bs (L.getD i []))) := by
 obtain ⟨b, o, ha, hb, hc⟩ := h (by simp; omega)
 exact ⟨b, o, ha, hb, hc i _ (by rw [List.getElem?_map, List.getElem?_eq_getElem hi, List.getD, List.getElem?_eq_getElem hi]; rfl)⟩
def tv (b : Bytes) : Value := .string (bs b)
def LRow (base : Nat) (w : World) (v : Value) (L : List Bytes) : Prop := w.ownsRow base 9 1 v L.length (L.map tv)
theorem LRow.txts {base : Nat} {w : World} {v : Value} {L : List Bytes} (h : LRow base w v L) : ∃ A c, v = .slice A L.length c ∧ Txts w A L := by
 rcases h.2 with ⟨rfl, h0⟩ | ⟨g, cap, cur, rfl, _⟩
 ·obtain rfl := List.eq_nil_of_length_eq_zero h0
  exact ⟨none, 0, rfl, Strs.nil _ _⟩
 ·refine ⟨_, _, rfl, Strs.mk (h.lt g rfl).2 fun i x hx => ?_⟩
  have hi : i < L.length := by have := (List.getElem?_eq_some_iff.1 hx).1; simpa using this
  rw [Nat.zero_add, World.ownsRow.cellAt h i (by omega)]
  rw [List.getElem?_map] at hx ⊢
  cases hl : L[i]? with
  | none => rw [hl] at hx; cases hx
  | some y => rw [hl] at hx; simp only [Option.map_some, Option.some.injEq] at hx ⊢; rw [← hx]; rfl
theorem LRow.cells {base : Nat} {w : World} {v : Value} {L : List Bytes} (h : LRow base w v L) : ∀ j, v.ownBlock = some j → base ≤ j ∧ ∃ cs t fz, w.heap[j]? = some (.cells cs t fz) := fun j hj => by
 rcases h.2 with ⟨rfl, h0⟩ | ⟨g, cap, cur, rfl, hb, hg, _⟩
 ·cases hj
 ·cases hj
  exact ⟨hb, cur, _, _, hg⟩
theorem LRow.mono {base base' : Nat} {w : World} {v : Value} {L : List Bytes} (h : LRow base w v L) (hb : base' ≤ base) : LRow base' w v L :=
 ⟨h.1, h.2.imp id fun ⟨g, cap, cur, a, b, r⟩ => ⟨g, cap, cur, a, Nat.le_trans hb b, r⟩⟩
theorem LRow.at {base : Nat} {w : World} {g cap : Nat} {L : List Bytes} {n : Nat} (h : LRow base w (.slice (some ⟨g, 0, none⟩) n cap) L) (i : Nat) (hi : i < L.length) : w.cell? ⟨g, i, none⟩ = some (.string (bs (L.getD i []))) := by
 have hn : L.length = n := by
  rcases h.2 with ⟨h', _⟩ | ⟨g', cap', cur, h', _⟩
  ·simp at h'
  ·simp only [Value.slice.injEq] at h'
   exact h'.2.1.symm
 subst hn
 rw [World.ownsRow.cellAt h i (by omega), List.getElem?_map, List.getElem?_eq_getElem hi, List.getD, List.getElem?_eq_getElem hi]
 rfl
theorem infoStr : (Tryz.prog.info? 9).map (fun i => (i.zero, i.size, i.bytes)) = some (some (.string ByteArray.empty), 1, 16) := by kernel_rfl
theorem LRow.keep {base : Nat} {w w' : World} {v : Value} {L : List Bytes} {r : Option Nat} (h : LRow base w v L) (hg : w.grownBy w' r) (hn : ∀ j, v.ownBlock = some j → r ≠ some j) : LRow base w' v L :=
 h.kept hg (by
  cases hv : v.ownBlock with
  | none => exact .inl rfl
  | some g => exact .inr fun e => hn g hv e.symm)
theorem LRow.on {base : Nat} {w : World} {v : Value} {L : List Bytes} (h : LRow base w v L) (o : Obj) : LRow base (w.alloc o) v L :=
 h.keep (World.grownBy_alloc w o none) fun _ _ e => by cases e
theorem wpList_append_txt {ops : Array Oper} {rest : List Oper} {o : Oper} {a : Act} {w : World} {Q : Exit → Act → World → Prop} (hgd : o.guard = none) (s x : Operand)
  (ho : o.op = .call { callee := .builtin .append, args := #[s, x], argTypes := #[41, 41] }) (base : Nat) (v : Value) (L : List Bytes) (hs : a.eval s = v) (R : LRow base w v L)
  (u : Bytes) (ad : Addr) (hx : a.eval x = .slice (some ad) 1 1) (hc : w.cell? (ad.add 0) = some (tv u)) (hl : L.length ≤ 1000000000) (hb : base ≤ w.heap.size)
  (h : ∀ v' w', LRow base w' v' (L ++ [u]) → w.grownBy w' v.ownBlock → (v'.ownBlock = v.ownBlock ∨ v'.ownBlock = some w.heap.size) → wpList Tryz.prog ops Q rest (a.put o.dst v') w') : wpList Tryz.prog ops Q (o :: rest) a w := by
 refine wpList_plain hgd fun K hK => ?_
 obtain ⟨i0, hi, hz0, hz1, hz2⟩ := info_parts infoStr
 obtain ⟨v', w', hr, h2, h3, _, h5⟩ := run_append_own_at (P := Tryz.prog) w base 41 o.type 9 i0 (.string ByteArray.empty) 1 16 Tryz.underlying41 hi hz0 hz1 hz2 rfl (by decide) v L.length (L.map tv) R ad 1 1 [tv u] rfl (fun j y hy => by
  match j, hy with
  | 0, hy => simp at hy; subst hy; exact hc) (by simp [Value.oneCell', tv]) (by unfold maxLen; omega) (by omega) hb
 unfold Oper.wp execOp
 simp only [ho, resolve, invoke, builtin, Sem.run_bind, Sem.run_pure, Result.andThen_ok, List.map_toArray, List.map_cons, List.map_nil, hs, hx, hr]
 refine hK _ _ (h v' w' ?_ h3 h5)
 unfold LRow
 rw [List.length_append, List.map_append]
 exact h2
theorem new_cell (w : World) (t : TypeId) (v : Value) : (w.alloc (.cells #[v] t)).cell? ((⟨w.heap.size, 0, none⟩ : Addr).add 0) = some v := news1 w t v 0 v rfl
end Go.Proofs.YthhlbdgladhdkaaGreatDoor
end
section
namespace Go.Proofs.YthhlbdgladhdkaaGreatDoor
open BigFrame Go.RowKit Go.Phx Go.Shelf
attribute [local go_sem] Oper.semAt_some

def CsS (S : Nat → Prop) (w : World) (A : Option Addr) (cs : List Value) : Prop := 0 < cs.length → ∃ b o, A = some ⟨b, o, none⟩ ∧ S b ∧ b < w.heap.size ∧ ∀ i v, cs[i]? = some v → w.cell? ⟨b, o + i, none⟩ = some v
theorem CsS.keep {S S' : Nat → Prop} {w w' : World} {A : Option Addr} {cs : List Value} (h : CsS S w A cs) (hz : w.heap.size ≤ w'.heap.size) (hS : ∀ b, S b → b < w.heap.size → S' b ∧ w'.heap[b]? = w.heap[b]?) : CsS S' w' A cs := fun h0 => by
 obtain ⟨b, o, ha, hs, hb, hc⟩ := h h0
 obtain ⟨h1, h2⟩ := hS b hs hb
 exact ⟨b, o, ha, h1, by omega, fun i x hx => (World.cell?_of_block (w := w) h2).trans (hc i x hx)⟩
theorem cell_cells {w : World} {b o : Nat} {v : Value} (h : w.cell? ⟨b, o, none⟩ = some v) : ∃ cs t fz, w.heap[b]? = some (.cells cs t fz) := by
 unfold World.cell? at h
 split at h
 ·rename_i c e f hb
  exact ⟨c, e, f, hb⟩
 ·cases h
theorem CsS.keep2 {S S' : Nat → Prop} {w w' : World} {A : Option Addr} {cs : List Value} (h : CsS S w A cs) (hz : w.heap.size ≤ w'.heap.size) (hS : ∀ b, S b → b < w.heap.size → (∃ cs t fz, w.heap[b]? = some (.cells cs t fz)) → S' b ∧ w'.heap[b]? = w.heap[b]?) : CsS S' w' A cs := fun h0 => by
 obtain ⟨b, o, ha, hs, hb, hc⟩ := h h0
 obtain ⟨h1, h2⟩ := hS b hs hb (cell_cells (hc 0 _ (List.getElem?_eq_getElem h0)))
 exact ⟨b, o, ha, h1, by omega, fun i x hx => (World.cell?_of_block (w := w) h2).trans (hc i x hx)⟩
theorem CsS.below {S : Nat → Prop} {w w' : World} {A : Option Addr} {cs : List Value} (h : CsS S w A cs) (hB : Below w.heap.size w w') : CsS S w' A cs := h.keep hB.size fun b hs hb => ⟨hs, hB.block b hb⟩
theorem CsS.nil (S : Nat → Prop) (w : World) (A : Option Addr) : CsS S w A [] := fun h => absurd h (by simp)
abbrev Cs (w : World) (A : Option Addr) (cs : List Value) : Prop := CsS (fun _ => True) w A cs
theorem Cs.nil (w : World) (A : Option Addr) : Cs w A [] := CsS.nil _ w A
structure Iv where
 f : Bool
 t : Bytes
 A : Option Addr
 n : Nat
 c : Nat
abbrev itV (f : Bool) (t : Bytes) (A : Option Addr) (n c : Nat) : Value := .agg #[.bool f, .string (bs t), .slice A n c]
abbrev Iv.val (v : Iv) : Value := itV v.f v.t v.A v.n v.c
def Iv.cells (v : Iv) : List Value := [.bool v.f, .string (bs v.t), .slice v.A v.n v.c]
def IvL (vs : List Iv) : List Value := vs.flatMap Iv.cells
theorem IvL_cons (v : Iv) (vs : List Iv) : IvL (v :: vs) = .bool v.f :: .string (bs v.t) :: .slice v.A v.n v.c :: IvL vs := rfl
theorem IvL_len (vs : List Iv) : (IvL vs).length = 3 * vs.length := by
 induction vs with
 | nil => rfl
 | cons v vs ih => rw [IvL_cons]; simp only [List.length_cons, ih]; omega
theorem IvL_at : ∀ (vs : List Iv) (i : Nat) (v : Iv), vs[i]? = some v → (IvL vs)[3 * i]? = some (.bool v.f) ∧ (IvL vs)[3 * i + 1]? = some (.string (bs v.t)) ∧ (IvL vs)[3 * i + 2]? = some (.slice v.A v.n v.c)
 | [], i, v, h => by simp at h
 | u :: vs, 0, v, h => by
  simp at h
  subst h
  rw [IvL_cons]
  simp
 | u :: vs, i + 1, v, h => by
  have ih := IvL_at vs i v (by simpa using h)
  rw [IvL_cons, show 3 * (i + 1) = 3 * i + 1 + 1 + 1 by omega, show 3 * i + 1 + 1 + 1 + 1 = 3 * i + 1 + 1 + 1 + 1 from rfl]
  simp only [List.getElem?_cons_succ]
  exact ih
theorem IvL_app (a b : List Iv) : IvL (a ++ b) = IvL a ++ IvL b := by simp [IvL]
inductive RepS (S : Nat → Prop) (W : World) : It → Iv → Prop
 | text (b : Bytes) : RepS S W (.text b) ⟨false, b, none, 0, 0⟩
 | list (l : List It) (A : Option Addr) (c : Nat) (vs : List Iv) (hl : vs.length = l.length) (hc : l.length ≤ c) (hm : c ≤ maxLen) (hA : CsS S W A (IvL vs)) (h : ∀ (i : Nat) x v, l[i]? = some x → vs[i]? = some v → RepS S W x v) : RepS S W (.list l) ⟨true, [], A, l.length, c⟩
abbrev Rep (W : World) (x : It) (v : Iv) : Prop := RepS (fun _ => True) W x v
theorem RepS.keep {S S' : Nat → Prop} {W W' : World} {x : It} {v : Iv} (h : RepS S W x v) (hz : W.heap.size ≤ W'.heap.size) (hS : ∀ b, S b → b < W.heap.size → S' b ∧ W'.heap[b]? = W.heap[b]?) : RepS S' W' x v := by
 induction h with
 | text b => exact .text b
 | list l A c vs hl hc hm hA h ih => exact .list l A c vs hl hc hm (hA.keep hz hS) ih
theorem RepS.keep2 {S S' : Nat → Prop} {W W' : World} {x : It} {v : Iv} (h : RepS S W x v) (hz : W.heap.size ≤ W'.heap.size) (hS : ∀ b, S b → b < W.heap.size → (∃ cs t fz, W.heap[b]? = some (.cells cs t fz)) → S' b ∧ W'.heap[b]? = W.heap[b]?) : RepS S' W' x v := by
 induction h with
 | text b => exact .text b
 | list l A c vs hl hc hm hA h ih => exact .list l A c vs hl hc hm (hA.keep2 hz hS) ih
theorem RepS.on {S : Nat → Prop} {W W' : World} {x : It} {v : Iv} (h : RepS S W x v) (hB : Below W.heap.size W W') : RepS S W' x v := h.keep hB.size fun b hs hb => ⟨hs, hB.block b hb⟩
theorem RepS.weak {S S' : Nat → Prop} {W : World} {x : It} {v : Iv} (h : RepS S W x v) (hS : ∀ b, S b → b < W.heap.size → S' b) : RepS S' W x v := h.keep (Nat.le_refl _) fun b hs hb => ⟨hS b hs hb, rfl⟩
theorem RepS.rep {S : Nat → Prop} {W : World} {x : It} {v : Iv} (h : RepS S W x v) : Rep W x v := h.weak fun _ _ _ => trivial
def RepLS (S : Nat → Prop) (W : World) (l : List It) (A : Option Addr) : Prop := ∃ vs : List Iv, vs.length = l.length ∧ CsS S W A (IvL vs) ∧ ∀ (i : Nat) x v, l[i]? = some x → vs[i]? = some v → RepS S W x v
abbrev RepL (W : World) (l : List It) (A : Option Addr) : Prop := RepLS (fun _ => True) W l A
theorem RepLS.keep {S S' : Nat → Prop} {W W' : World} {l : List It} {A : Option Addr} (h : RepLS S W l A) (hz : W.heap.size ≤ W'.heap.size) (hS : ∀ b, S b → b < W.heap.size → S' b ∧ W'.heap[b]? = W.heap[b]?) : RepLS S' W' l A := by
 obtain ⟨vs, h1, h2, h3⟩ := h
 exact ⟨vs, h1, h2.keep hz hS, fun i x v hx hv => (h3 i x v hx hv).keep hz hS⟩
theorem RepLS.below {S : Nat → Prop} {W W' : World} {l : List It} {A : Option Addr} (h : RepLS S W l A) (hB : Below W.heap.size W W') : RepLS S W' l A := h.keep hB.size fun b hs hb => ⟨hs, hB.block b hb⟩
theorem RepLS.any {S : Nat → Prop} {W : World} {l : List It} {A : Option Addr} (h : RepLS S W l A) : RepL W l A := h.keep (Nat.le_refl _) fun _ _ _ => ⟨trivial, rfl⟩
theorem RepS.row {S : Nat → Prop} {W : World} {l : List It} {v : Iv} (h : RepS S W (.list l) v) : v.f = true ∧ v.t = [] ∧ v.n = l.length ∧ l.length ≤ v.c ∧ v.c ≤ maxLen ∧ RepLS S W l v.A := by
 cases h with
 | list _ A c vs hl hc hm hA h => exact ⟨rfl, rfl, rfl, hc, hm, vs, hl, hA, h⟩
theorem RepS.txt {S : Nat → Prop} {W : World} {b : Bytes} {v : Iv} (h : RepS S W (.text b) v) : v = ⟨false, b, none, 0, 0⟩ := by
 cases h with
 | text => rfl
theorem RepS.flag {S : Nat → Prop} {W : World} {x : It} {v : Iv} (h : RepS S W x v) : v.f = isL x := by cases h <;> rfl
theorem RepLS.of {S : Nat → Prop} {W : World} {l : List It} {A : Option Addr} (h : RepLS S W l A) {c : Nat} (hc : l.length ≤ c) (hm : c ≤ maxLen) : RepS S W (.list l) ⟨true, [], A, l.length, c⟩ := by
 obtain ⟨vs, h1, h2, h3⟩ := h
 exact .list l A c vs h1 hc hm h2 h3
theorem RepLS.at {S : Nat → Prop} {W : World} {l : List It} {A : Option Addr} (h : RepLS S W l A) (i : Nat) (x : It) (hi : l[i]? = some x) : ∃ b o v, A = some ⟨b, o, none⟩ ∧ b < W.heap.size ∧ W.cell? ⟨b, o + i * 3, none⟩ = some (.bool v.f) ∧ W.cell? ⟨b, o + i * 3 + 1, none⟩ = some (.string (bs v.t)) ∧
  W.cell? ⟨b, o + i * 3 + 2, none⟩ = some (.slice v.A v.n v.c) ∧ RepS S W x v := by
 obtain ⟨vs, h1, h2, h3⟩ := h
 have hlt : i < l.length := (List.getElem?_eq_some_iff.1 hi).1
 obtain ⟨b, o, hA, _, hb, hc⟩ := h2 (by rw [IvL_len]; omega)
 obtain ⟨e1, e2, e3⟩ := IvL_at vs i vs[i] (List.getElem?_eq_getElem (by omega))
 rw [Nat.mul_comm 3 i] at e1 e2 e3
 exact ⟨b, o, vs[i], hA, hb, hc _ _ e1, by rw [Nat.add_assoc]; exact hc _ _ e2, by rw [Nat.add_assoc]; exact hc _ _ e3, h3 i x _ hi (List.getElem?_eq_getElem (by omega))⟩
theorem deepL_mem {y : It} {l : List It} (h : y ∈ l) : deepI y ≤ deepL l := by
 induction l with
 | nil => cases h
 | cons x r ih =>
  rw [deepL]
  rcases List.mem_cons.1 h with h | h
  ·subst h; omega
  ·have := ih h; omega
theorem deepL_ex {m : Nat} {l : List It} (h : m < deepL l) : ∃ y ∈ l, m < deepI y := by
 induction l with
 | nil => simp [deepL] at h
 | cons x r ih =>
  rw [deepL] at h
  by_cases hx : m < deepI x
  ·exact ⟨x, List.mem_cons_self, hx⟩
  ·obtain ⟨y, hy, hm⟩ := ih (by omega)
   exact ⟨y, List.mem_cons_of_mem _ hy, hm⟩
theorem putL_mem_le {y : It} : ∀ {l : List It}, y ∈ l → (putI y).length ≤ (putL l).length
 | x :: r, h => by
  rw [putL_cons, List.length_append]
  rcases List.mem_cons.1 h with h | h
  ·subst h; omega
  ·have := putL_mem_le h; omega
end Go.Proofs.YthhlbdgladhdkaaGreatDoor
end
section
namespace Go.Proofs.YthhlbdgladhdkaaGreatDoor
open BigFrame Go.RowKit Go.Phx Go.Shelf
attribute [local go_sem] Oper.semAt_some

theorem text_calls (s : Bytes) (w : World) : Calls Tryz.prog 14 #[.string (bs s)] w (Ret w (itV false s none 0 0)) := by
 go_enter Tryz.func14, Tryz.ntmps14
 go_wp2_with fail
 exact bodyPost_ret (v := itV false s none 0 0) (by simp (maxDischargeDepth := 9) [results, Tryz.results14, go_sem, *]) rfl ⟨rfl, bel⟩
theorem list_calls (A : Option Addr) (n c : Nat) (w : World) : Calls Tryz.prog 71 #[.slice A n c] w (Ret w (itV true [] A n c)) := by
 go_enter Tryz.func71, Tryz.ntmps71
 go_wp2_with fail
 exact bodyPost_ret (v := .agg #[.bool true, .string ⟨#[]⟩, .slice A n c]) (by simp (maxDischargeDepth := 9) [results, Tryz.results71, go_sem, *]) rfl ⟨rfl, bel⟩
set_option maxRecDepth 100000
theorem windex (P : It → Bool) (A : Option Addr) (c : Nat) (L : List It) (hL : L.length ≤ c) (hm : c ≤ maxLen) (w : World) (hs : RepL w L A)  
  (hP : ∀ x ∈ L, ∀ v w', Below w.heap.size w w' → Rep w' x v → Calls Tryz.prog 27 #[v.val] w' (Ret w' (.bool (P x)))) :
  Calls Tryz.prog 60 #[.slice A L.length c, .func (.func 27) #[] #[]] w (fun e w' => (∃ i : Int, e = .returned (.int .i64 i) ∧ (0 ≤ i ↔ ∃ x ∈ L, P x = true)) ∧ Below w.heap.size w w') := by
 have hL63 : L.length ≤ 9223372036854775807 := by unfold maxLen at hm; omega
 replace hP := Lib.hid hP
 replace hs := Lib.hid hs
 clear hL hm
 go_enter Tryz.func60, Tryz.ntmps60
 go_wp2_with fail
 go_loopw [8] (fun i wr => ∃ k : Nat, k ≤ L.length ∧ i = .int .i64 k ∧ (∀ x ∈ L.take k, P x = false) ∧ Below w.heap.size w wr) (fun i _ => (L.length - intOf i).toNat)
 case atStart => exact ⟨0, by omega, rfl, by simp, Below.refl _ _⟩
 case round =>
  obtain ⟨k, hk, rfl, hall, HB⟩ := hrel
  by_cases hlt : k < L.length
  ·obtain ⟨b, o, v, rfl, hb, c0, c1, c2, R⟩ := (hs.out.below HB).at k L[k] (List.getElem?_eq_getElem hlt)
   have hPk := hP.out L[k] (List.getElem_mem hlt) v
   have hm := List.getElem_mem hlt
   have ht : L.take (k + 1) = L.take k ++ [L[k]] := by rw [List.take_add_one, List.getElem?_eq_getElem hlt]; rfl
   generalize L[k] = x at *
   obtain ⟨f, t, vA, vn, vc⟩ := v
   have HT := Lib.hid ht
   have HA := Lib.hid hall
   replace hPk := Lib.hid hPk
   replace R := Lib.hid R
   simp only at c0 c1 c2
   clear ht hall hP hs
   go_wp2_with fail
   refine (hPk.out _ HB R.out).mono ?_
   rintro e w1 ⟨rfl, h1⟩
   have HB1 := HB.trans (h1.mono HB.size)
   clear HB h1 hPk R c0 c1 c2
   cases hx : P x with
   | false =>
    go_wp2_with fail
    go_roundw
    case rel => exact ⟨k + 1, by omega, by go_num, by rw [HT.out]; intro y hy; rcases List.mem_append.1 hy with hy | hy; exact HA.out y hy; rw [List.mem_singleton.1 hy]; exact hx, HB1⟩
    case measure => simp [intOf]; omega
   | true =>
    go_wp2_with fail
    go_ret
    exact ⟨⟨_, rfl, fun _ => ⟨x, hm, hx⟩, fun _ => by omega⟩, HB1⟩
  ·obtain rfl : k = L.length := by omega
   rw [List.take_of_length_le (Nat.le_refl _)] at hall
   have HA := Lib.hid hall
   clear hall hP hs
   go_wp2_with fail
   go_ret
   exact ⟨⟨_, rfl, fun h => by omega, fun ⟨x, h1, h2⟩ => by rw [HA.out x h1] at h2; cases h2⟩, HB⟩
theorem wcontains (P : It → Bool) (A : Option Addr) (c : Nat) (L : List It) (hL : L.length ≤ c) (hm : c ≤ maxLen) (w : World) (hs : RepL w L A)  
  (hP : ∀ x ∈ L, ∀ v w', Below w.heap.size w w' → Rep w' x v → Calls Tryz.prog 27 #[v.val] w' (Ret w' (.bool (P x)))) :
  Calls Tryz.prog 40 #[.slice A L.length c, .func (.func 27) #[] #[]] w (Ret w (.bool (L.any P))) := by
 have n1 := Lib.hid (windex P A c L hL hm w hs   hP)
 clear hL hm hs hP
 go_enter Tryz.func40, Tryz.ntmps40
 go_wp2_with fail
 refine n1.out.mono ?_
 rintro e w1 ⟨⟨i, rfl, hi⟩, h1⟩
 have he : decide (0 ≤ i) = L.any P := by
  rw [Bool.eq_iff_iff, decide_eq_true_iff, hi, List.any_eq_true]
 replace he := Lib.hid he
 clear hi n1
 go_wp2_with fail
 go_ret
 exact ⟨by rw [he.out]; rfl, h1⟩
theorem dindex (P : It → Bool) (A : Option Addr) (c : Nat) (L : List It) (hL : L.length ≤ c) (hm : c ≤ maxLen) (w : World) (hs : RepL w L A) (cb : Nat)
  (hP : ∀ x ∈ L, ∀ v w', Below w.heap.size w w' → Rep w' x v → Calls Tryz.prog 41 #[v.val, .pointer (some ⟨cb, 0, none⟩)] w' (Ret w' (.bool (P x)))) :
  Calls Tryz.prog 60 #[.slice A L.length c, .func (.func 41) #[] #[.pointer (some ⟨cb, 0, none⟩)]] w (fun e w' => (∃ i : Int, e = .returned (.int .i64 i) ∧ (0 ≤ i ↔ ∃ x ∈ L, P x = true)) ∧ Below w.heap.size w w') := by
 have hL63 : L.length ≤ 9223372036854775807 := by unfold maxLen at hm; omega
 replace hP := Lib.hid hP
 replace hs := Lib.hid hs
 clear hL hm
 go_enter Tryz.func60, Tryz.ntmps60
 go_wp2_with fail
 go_loopw [8] (fun i wr => ∃ k : Nat, k ≤ L.length ∧ i = .int .i64 k ∧ (∀ x ∈ L.take k, P x = false) ∧ Below w.heap.size w wr) (fun i _ => (L.length - intOf i).toNat)
 case atStart => exact ⟨0, by omega, rfl, by simp, Below.refl _ _⟩
 case round =>
  obtain ⟨k, hk, rfl, hall, HB⟩ := hrel
  by_cases hlt : k < L.length
  ·obtain ⟨b, o, v, rfl, hb, c0, c1, c2, R⟩ := (hs.out.below HB).at k L[k] (List.getElem?_eq_getElem hlt)
   have hPk := hP.out L[k] (List.getElem_mem hlt) v
   have hm := List.getElem_mem hlt
   have ht : L.take (k + 1) = L.take k ++ [L[k]] := by rw [List.take_add_one, List.getElem?_eq_getElem hlt]; rfl
   generalize L[k] = x at *
   obtain ⟨f, t, vA, vn, vc⟩ := v
   have HT := Lib.hid ht
   have HA := Lib.hid hall
   replace hPk := Lib.hid hPk
   replace R := Lib.hid R
   simp only at c0 c1 c2
   clear ht hall hP hs
   go_wp2_with fail
   refine (hPk.out _ HB R.out).mono ?_
   rintro e w1 ⟨rfl, h1⟩
   have HB1 := HB.trans (h1.mono HB.size)
   clear HB h1 hPk R c0 c1 c2
   cases hx : P x with
   | false =>
    go_wp2_with fail
    go_roundw
    case rel => exact ⟨k + 1, by omega, by go_num, by rw [HT.out]; intro y hy; rcases List.mem_append.1 hy with hy | hy; exact HA.out y hy; rw [List.mem_singleton.1 hy]; exact hx, HB1⟩
    case measure => simp [intOf]; omega
   | true =>
    go_wp2_with fail
    go_ret
    exact ⟨⟨_, rfl, fun _ => ⟨x, hm, hx⟩, fun _ => by omega⟩, HB1⟩
  ·obtain rfl : k = L.length := by omega
   rw [List.take_of_length_le (Nat.le_refl _)] at hall
   have HA := Lib.hid hall
   clear hall hP hs
   go_wp2_with fail
   go_ret
   exact ⟨⟨_, rfl, fun h => by omega, fun ⟨x, h1, h2⟩ => by rw [HA.out x h1] at h2; cases h2⟩, HB⟩
theorem dcontains (P : It → Bool) (A : Option Addr) (c : Nat) (L : List It) (hL : L.length ≤ c) (hm : c ≤ maxLen) (w : World) (hs : RepL w L A) (cb : Nat)
  (hP : ∀ x ∈ L, ∀ v w', Below w.heap.size w w' → Rep w' x v → Calls Tryz.prog 41 #[v.val, .pointer (some ⟨cb, 0, none⟩)] w' (Ret w' (.bool (P x)))) :
  Calls Tryz.prog 40 #[.slice A L.length c, .func (.func 41) #[] #[.pointer (some ⟨cb, 0, none⟩)]] w (Ret w (.bool (L.any P))) := by
 have n1 := Lib.hid (dindex P A c L hL hm w hs cb hP)
 clear hL hm hs hP
 go_enter Tryz.func40, Tryz.ntmps40
 go_wp2_with fail
 refine n1.out.mono ?_
 rintro e w1 ⟨⟨i, rfl, hi⟩, h1⟩
 have he : decide (0 ≤ i) = L.any P := by
  rw [Bool.eq_iff_iff, decide_eq_true_iff, hi, List.any_eq_true]
 replace he := Lib.hid he
 clear hi n1
 go_wp2_with fail
 go_ret
 exact ⟨by rw [he.out]; rfl, h1⟩
theorem wrong_calls : ∀ (k : Nat) (x : It), deepI x ≤ k → ∀ (v : Iv) (w : World), Rep w x v → Calls Tryz.prog 27 #[v.val] w (Ret w (.bool false)) := by
 intro k
 induction k with
 | zero => intro x hx; cases x <;> simp [deepI] at hx
 | succ k ih =>
  intro x hx v w R
  cases x with
  | text b =>
   obtain rfl := R.txt
   clear R
   go_enter Tryz.func27, Tryz.ntmps27
   go_wp2_with fail
   go_ret
   exact ⟨rfl, bel⟩
  | list l =>
   obtain ⟨f, t, A, n, c⟩ := v
   obtain ⟨h1, h2, h3, hc, hm, hr⟩ := R.row
   simp only at h1 h2 h3 hc hm hr
   subst h1 h2 h3
   have hany : l.any (fun _ => false) = false := by simp
   have n1 := fun w' (hB : Below w.heap.size w w') => wcontains (fun _ => false) A c l hc hm w' (hr.below hB) (fun y hy v w2 hB2 R2 => ih y (by rw [deepI] at hx; have := deepL_mem hy; omega) v w2 R2)
   simp only [hany] at n1
   replace n1 := Lib.hid n1
   clear ih R hr hany hc hm
   go_enter Tryz.func27, Tryz.ntmps27
   go_wp2_with fail
   refine (n1.out _ bel).mono ?_
   rintro e w1 ⟨rfl, hB⟩
   go_wp2_with fail
   go_ret
   exact ⟨rfl, bel⟩
theorem any_deep (m : Nat) (l : List It) : (l.any fun y => decide (m < deepI y)) = decide (m < deepL l) := by
 rw [Bool.eq_iff_iff, decide_eq_true_iff, List.any_eq_true]
 constructor
 ·rintro ⟨y, hy, h⟩
  have := deepL_mem hy
  have := of_decide_eq_true h
  omega
 ·intro h
  obtain ⟨y, hy, h⟩ := deepL_ex h
  exact ⟨y, hy, decide_eq_true h⟩
theorem deep_calls : ∀ (k : Nat) (x : It), deepI x ≤ k → ∀ (m : Nat) (hm : m ≤ 1000000) (v : Iv) (w : World), Rep w x v → Calls Tryz.prog 26 #[v.val, .int .i64 (m : Int)] w (Ret w (.bool (decide (m < deepI x)))) := by
 intro k
 induction k with
 | zero => intro x hx; cases x <;> simp [deepI] at hx
 | succ k ih =>
  intro x hx m hm v w R
  by_cases h0 : m = 0
  ·subst h0
   have hpos : decide (0 < deepI x) = true := decide_eq_true (by cases x <;> simp [deepI])
   rw [hpos]
   obtain ⟨f, t, A, n, c⟩ := v
   clear R
   go_enter Tryz.func26, Tryz.ntmps26
   go_wp2_with fail
   go_ret
   exact ⟨rfl, bel⟩
  obtain ⟨q, rfl⟩ : ∃ q, m = q + 1 := ⟨m - 1, by omega⟩
  have hq1 : ¬ (((q + 1 : Nat) : Int) < 1) := by omega
  have hq2 : decide (((q + 1 : Nat) : Int) < 1) = false := decide_eq_false hq1
  have hq3 : (((q + 1 : Nat) : Int) - 1) = (q : Int) := by omega
  have hq4 : (0 : Int) ≤ (q : Int) := by omega
  have hq5 : (q : Int) ≤ 1000000 := by omega
  -- the closure
  have cl : ∀ (x : It), deepI x ≤ k → ∀ (v : Iv) (b : Nat) (w : World), w.cell? ⟨b, 0, none⟩ = some (.int .i64 ((q + 1 : Nat) : Int)) → b < w.heap.size → Rep w x v → Calls Tryz.prog 41 #[v.val, .pointer (some ⟨b, 0, none⟩)] w (Ret w (.bool (decide (q < deepI x)))) := by
   intro x hx v b w hb hbl R
   have n1 := fun w' (hB : Below w.heap.size w w') => ih x hx q (by omega) v w' (R.on hB)
   obtain ⟨f, t, A, n, c⟩ := v
   replace n1 := Lib.hid n1
   clear ih R
   go_enter Tryz.func41, Tryz.ntmps41
   go_wp2_with fail
   refine (n1.out _ bel).mono ?_
   rintro e w1 ⟨rfl, hB⟩
   go_wp2_with fail
   go_ret
   exact ⟨rfl, bel⟩
  cases x with
  | text b =>
   obtain rfl := R.txt
   have hn : ∀ w', RepL w' [] none := fun w' => ⟨[], rfl, Cs.nil _ _, by simp⟩
   have n1 := fun w' cb => dcontains (fun y => decide (q < deepI y)) none 0 [] (by simp) (by simp) w' (hn w') cb (by simp)
   have hfin : decide (q + 1 < deepI (.text b)) = false := decide_eq_false (by simp [deepI])
   simp only [List.length_nil, List.any_nil] at n1
   rw [hfin]
   replace n1 := Lib.hid n1
   clear ih R cl hn
   go_enter Tryz.func26, Tryz.ntmps26
   go_wp2_with fail
   refine (n1.out _ _).mono ?_
   rintro e w1 ⟨rfl, hB⟩
   go_wp2_with fail
   go_ret
   exact ⟨rfl, bel⟩
  | list l =>
   obtain ⟨f, t, A, n, c⟩ := v
   obtain ⟨h1, h2, h3, hc, hm2, hr⟩ := R.row
   simp only at h1 h2 h3 hc hm2 hr
   subst h1 h2 h3
   have n1 := fun w' (hB : Below w.heap.size w w') (cb : Nat) (h1 : w'.cell? ⟨cb, 0, none⟩ = some (.int .i64 ((q + 1 : Nat) : Int))) (h2 : cb < w'.heap.size) => dcontains (fun y => decide (q < deepI y)) A c l hc hm2 w' (hr.below hB) cb
    (fun y hy v w2 hB2 R2 => cl y (by rw [deepI] at hx; have := deepL_mem hy; omega) v cb w2 ((hB2.cell (p := ⟨cb, 0, none⟩) h2).trans h1) (Nat.lt_of_lt_of_le h2 hB2.size) R2)
   have hfin : (l.any fun y => decide (q < deepI y)) = decide (q + 1 < deepI (.list l)) := by rw [any_deep, deepI]; simp
   simp only [hfin] at n1
   replace n1 := Lib.hid n1
   clear ih R hr hc hm2 cl hfin
   go_enter Tryz.func26, Tryz.ntmps26
   go_wp2_with fail
   refine (n1.out _ bel _ (by simp) (by simp)).mono ?_
   rintro e w1 ⟨rfl, hB⟩
   go_wp2_with fail
   go_ret
   exact ⟨rfl, bel⟩
end Go.Proofs.YthhlbdgladhdkaaGreatDoor
end
section
namespace Go.Proofs.YthhlbdgladhdkaaGreatDoor
open BigFrame Go.RowKit Go.Phx Go.Shelf
attribute [local go_sem] Oper.semAt_some

theorem bldSize : (Tryz.prog.info? 66).map (·.size) = some 2 := by kernel_rfl
theorem bldLies : liesAt Tryz.prog Tryz.prog.depth 66 (2 / Tryz.prog.cellsOf 66) 0 66 1 = true := by kernel_rfl
theorem bldPtr : Tryz.prog.underlying 64 = some (.pointer 66) := by kernel_rfl
theorem bldUns : Tryz.prog.underlying 124 = some .unsafePointer := by kernel_rfl
set_option maxRecDepth 100000 in
set_option maxHeartbeats 1000000 in
theorem check_used (b : Nat) (w : World) (h0 : w.cell? ⟨b, 0, none⟩ = some (.pointer (some ⟨b, 0, none⟩))) :
  Calls Tryz.prog 38 #[.pointer (some ⟨b, 0, none⟩)] w fun e w' => e = .returned (.tuple #[]) ∧ w' = w := by
 obtain ⟨j, hj, _⟩ := Option.map_eq_some_iff.1 bldSize
 go_enter Tryz.func38, Tryz.ntmps38
 go_wp2_with fail
 rw [Lib.run_neq_ptr_same w _ bldPtr hj]
 go_wp2_with fail
 go_end0
 exact ⟨rfl, rfl⟩
set_option maxRecDepth 100000 in
set_option maxHeartbeats 1000000 in
theorem check_fresh (b : Nat) (w : World) (h0 : w.cell? ⟨b, 0, none⟩ = some (.pointer none)) (hsh : w.shape? b = some (66, 2)) (hfz : w.frozen? ⟨b, 0, none⟩ = false) :
  Calls Tryz.prog 38 #[.pointer (some ⟨b, 0, none⟩)] w fun e w' => e = .returned (.tuple #[]) ∧ w' = w.setCell ⟨b, 0, none⟩ (.pointer (some ⟨b, 0, none⟩)) := by
 obtain ⟨j, hj, hjs⟩ := Option.map_eq_some_iff.1 bldSize
 go_enter Tryz.func38, Tryz.ntmps38
 go_wp2_with fail
 rw [Lib.run_to_unsafe w ⟨b, 0, none⟩ bldPtr bldUns hj (by rw [hjs]; decide) hsh (Nat.zero_lt_succ 1)]
 simp only [Result.andThen]
 rw [Oper.upon_value]
 go_wp2_with fail
 rw [run_callFunc_extern Tryz.func58 (by kernel_rfl) (by kernel_rfl) (by kernel_rfl) (e := Extern.AbiNoEscape.same) (by kernel_rfl)]
 rw [Lib.run_noEscape]
 simp only [Result.andThen]
 rw [Oper.upon_value]
 go_wp2_with fail
 rw [Lib.run_from_unsafe w ⟨b, 0, none⟩ bldUns bldPtr hj hsh bldLies]
 simp only [Result.andThen]
 rw [Oper.upon_value]
 go_wp2_with fail
 go_end0
 exact ⟨rfl, rfl⟩
def BldAt (B b : Nat) (l : List UInt8) (w : World) : Prop := Lib.IsBuilder 66 5 B b (Lib.byteCells l) w
theorem check_any (B b : Nat) (bs : List Value) (w : World) (h : Lib.IsBuilder 66 5 B b bs w) :
  Calls Tryz.prog 38 #[.pointer (some ⟨b, 0, none⟩)] w fun e w' => e = .returned (.tuple #[]) ∧ (Lib.BuilderAt 66 5 B b (.pointer (some ⟨b, 0, none⟩)) bs w' ∧ Below B w w') := by
 rcases h with h | h
 ·refine (check_fresh b w h.cell0 h.shape h.frozen0).mono ?_
  rintro e w' ⟨rfl, rfl⟩
  exact ⟨rfl, h.used _, (Below.refl B w).setCell (p := ⟨b, 0, none⟩) h.1 _⟩
 ·refine (check_used b w h.cell0).mono ?_
  rintro e w' ⟨rfl, rfl⟩
  exact ⟨rfl, h, Below.refl B _⟩
theorem infoU8b : (Tryz.prog.info? 5).map (fun i => (i.zero, i.size, i.bytes)) = some (some (.int .u8 0), 1, 1) := by kernel_rfl
theorem bld_string (B b : Nat) (l : List UInt8) (w : World) (h : BldAt B b l w) (hBw : B ≤ w.heap.size) :
  Calls Tryz.prog 24 #[.pointer (some ⟨b, 0, none⟩)] w fun e w' => e = .returned (.string (bs l)) ∧ Below B w w' := Tryz.Builder_String_any B b l w h hBw
end Go.Proofs.YthhlbdgladhdkaaGreatDoor
end
section
namespace Go.Proofs.YthhlbdgladhdkaaGreatDoor
open BigFrame Go.RowKit Go.Phx Go.Shelf
attribute [local go_sem] Oper.semAt_some

theorem strCells_bs (t : List UInt8) : Lib.strCells (bs t) = Lib.byteCells t := by
 simp [Lib.strCells, Lib.byteCells, bs]
theorem byteCells_app (a b : List UInt8) : Lib.byteCells (a ++ b) = Lib.byteCells a ++ Lib.byteCells b := by simp [Lib.byteCells]
set_option maxRecDepth 100000 in
set_option maxHeartbeats 1000000 in
theorem write_str (B b : Nat) (l t : List UInt8) (w : World) (h : BldAt B b l w) (hlen : l.length + t.length ≤ 140737488355328) (hBw : B ≤ w.heap.size) :
  Calls Tryz.prog 23 #[.pointer (some ⟨b, 0, none⟩), .string (bs t)] w fun e w' => e = .returned (.tuple #[.int .i64 (t.length : Int), .nilIface]) ∧ BldAt B b (l ++ t) w' ∧ Below B w w' := by
 obtain ⟨i0, hi, hz0, hz1, hz2⟩ := info_parts infoU8b
 have hl : (Lib.byteCells l).length = l.length := by simp [Lib.byteCells]
 have hts : (bs t).size = t.length := bs_size t
 have hsc := strCells_bs t
 have hap := byteCells_app l t
 generalize hxs : Lib.byteCells l = xs at *
 obtain ⟨s, hs⟩ : ∃ s, bs t = s := ⟨_, rfl⟩
 rw [hs] at hts hsc ⊢
 unfold BldAt at h ⊢
 rw [hxs] at h
 rw [hap, ← hsc]
 have hlen2 : xs.length + s.size ≤ 140737488355328 := by omega
 rw [← hts]
 clear hap hsc hxs hl hlen hs hts
 go_enter Tryz.func23, Tryz.ntmps23
 go_wp2_with (go_at_call 38; refine (check_any B b xs _ h).mono ?_)
 rintro e w1 ⟨rfl, h1, hb1⟩
 obtain ⟨hB, v, hbk, hown, hne⟩ := h1
 have c0 : w1.cell? ⟨b, 0, none⟩ = some (.pointer (some ⟨b, 0, none⟩)) := by rw [Lib.cell_of_heap hbk]; rfl
 have c1 : w1.cell? ⟨b, 1, none⟩ = some v := by rw [Lib.cell_of_heap hbk]; rfl
 go_wp2_with (at_builtin; refine Lib.wpList_append_own_string _ rfl _ _ 42 9 rfl B 5 i0 Tryz.underlying42 Tryz.underlying9 hi hz0 hz1 hz2 _ _ _ rfl hown s rfl (by unfold maxLen; omega) (by omega) (by have := hb1.size; omega) ?_)
 intro v' w2 hown' hgrow _
 have hlt : b < w1.heap.size := (Array.getElem?_eq_some_iff.1 hbk).1
 have hb2 : w2.heap[b]? = some (.cells #[.pointer (some ⟨b, 0, none⟩), v] 66 (0, 0)) := by
  rw [hgrow.block b hlt (fun e => hne e.symm)]
  exact hbk
 have d0 : w2.cell? ⟨b, 0, none⟩ = some (.pointer (some ⟨b, 0, none⟩)) := by rw [Lib.cell_of_heap hb2]; rfl
 have d1 : w2.cell? ⟨b, 1, none⟩ = some v := by rw [Lib.cell_of_heap hb2]; rfl
 have f1 : w2.frozen? ⟨b, 1, none⟩ = false := Lib.frozen_of_heap hb2 1
 obtain ⟨ao, n', cap, rfl⟩ : ∃ ao n' cap, v' = .slice ao n' cap := by
  rcases hown'.2 with ⟨hv, _⟩ | ⟨g, cap, cur, hv, _⟩
  ·exact ⟨_, _, _, hv⟩
  ·exact ⟨_, _, _, hv⟩
 go_wp2_with fail
 go_ret2
 refine ⟨rfl, .inr ?_, ?_⟩
 ·exact Lib.BuilderAt.put hB hb2 (bs' := xs ++ Lib.strCells s) (by simpa [Lib.strCells_length] using hown') (by decide)
 ·exact (hb1.grown hgrow (by have := hb1.size; omega) (fun k hk => (hown.lt k hk).1)).setCell (p := ⟨b, 1, none⟩) hB _
theorem bld_newB (B : Nat) (w : World) (hB : B ≤ w.heap.size) : BldAt B w.heap.size [] (w.alloc (.cells #[.pointer none, .slice none 0 0] 66)) :=
 .inl ⟨hB, .slice none 0 0, heap_alloc_new w _, World.ownsRow_nil _ _ _ _, by simp [Value.ownBlock]⟩
theorem bld_new1 (w : World) (o : Obj) : BldAt w.heap.size (w.heap.size + 1) [] ((w.alloc o).alloc (.cells #[.pointer none, .slice none 0 0] 66)) := by
 have h := bld_newB w.heap.size (w.alloc o) (by simp)
 rw [size_alloc] at h
 exact h
theorem bldAt_below {T e : TypeId} {B b : Nat} {p : Value} {xs : List Value} {w w' : World} (h : Lib.BuilderAt T e B b p xs w) (hB : Below w.heap.size w w') : Lib.BuilderAt T e B b p xs w' := by
 obtain ⟨h1, v, h2, h3, h4⟩ := h
 refine ⟨h1, v, (hB.block b (Array.getElem?_eq_some_iff.1 h2).1).trans h2, h3.kept (row := none) ⟨hB.os, hB.tape, hB.output, hB.size, fun k hk _ => hB.block k hk⟩ ?_, h4⟩
 cases hv : v.ownBlock with
 | none => exact .inl rfl
 | some g => exact .inr (by simp)
theorem bld_below {B b : Nat} {l : List UInt8} {w w' : World} (h : BldAt B b l w) (hB : Below w.heap.size w w') : BldAt B b l w' := h.imp (fun h => bldAt_below h hB) fun h => bldAt_below h hB
end Go.Proofs.YthhlbdgladhdkaaGreatDoor
end
section
namespace Go.Proofs.YthhlbdgladhdkaaGreatDoor
open BigFrame Go.RowKit Go.Phx Go.Shelf
attribute [local go_sem] Oper.semAt_some

theorem grown_far {w W : World} {b g i : Nat} {u : Value} (G : w.grownBy W (some b)) (hg : w.heap.size ≤ g) : w.grownBy (W.setCell ⟨g, i, none⟩ u) (some b) :=
 ⟨G.os, G.tape, G.output, by rw [size_set]; exact G.size, fun k hk hn => (Below.heap_setCell _ _ _ _ (fun e => by simp at e; omega)).trans (G.block k hk hn)⟩
theorem and15' : ∀ n : Nat, n < 256 → bits .and .u8 (n : Int) 15 = ((n % 16 : Nat) : Int) := by decide +kernel
theorem and15 (c : UInt8) : bits .and .u8 (c.toNat : Int) 15 = ((c.toNat % 16 : Nat) : Int) := and15' _ c.toNat_lt
theorem index_bs (l : List UInt8) (k : Nat) (hk : k < l.length) (h63 : l.length ≤ 9223372036854775807) (w : World) : (Instr.index 9 (.string (bs l)) (.int .i64 (k : Int))).run Tryz.prog w = .ok (.int .u8 ((l.getD k 0).toNat : Int)) w := by
 have := index_at (bs l) k (by rw [bs_size]; exact hk) (by rw [bs_size]; exact h63) w
 rw [vw_bw] at this
 exact this
end Go.Proofs.YthhlbdgladhdkaaGreatDoor
end
