/- Plain laws and walks, each by its own conditions. -/
import Derived.Test.YtegaaccioppfjaaGreatDoorFm2
import Derived.Deep.MidRow
import Derived.Lib.FrozenHead
import Derived.Laws.OwnMore
import Derived.Test.YtegaaccioppfjaaGreatDoorFm7
import Derived.Deep.AppendLies
import Derived.Maps.OwnIn
import Derived.Deep.RegionLaw
import Derived.Test.YtegaaccioppfjaaGreatDoorFmS
import Derived.Lib.Builder
set_option linter.unusedSimpArgs false
set_option linter.unusedVariables false
set_option maxRecDepth 100000
set_option maxHeartbeats 16000000
section
namespace Go.Proofs.YtegaaccioppfjaaGreatDoor
open Go.RowKit Go.Shelf

theorem wpIn_rangeFunc_stb {α σ : Type} {F : Fence} {n : Nat} {P : Program} {g : Operand} {ps : Array Tmp} {assign body : Code} {Q : Exit → Act → World → Prop} {a : Act} {w : World}
  (hro : F.round = none) (h1 : 1 ≤ n) {gf : Nat} {lb : Array Value} (hg : a.eval g = .func (.func gf) #[] lb) (hFg : F.fn gf) (eg : ∀ args w, (callFunc gf args).run P w = .ok (.enter gf args) w)
  {encs : α → Array Value} {At : List α → α → σ → World → Prop} {Kp : σ → World → World → Prop} {Ab : σ → World → σ → World → Prop} {x0 : σ} {S Sp : List α → Prop}
  (hseq : SeqSt F (n - 1) P gf lb encs At Kp Ab x0 S Sp w) (hps : ∀ y, (encs y).size = ps.size)
  (hKt : ∀ x A B C, Kp x A B → Kp x B C → Kp x A C) (hKb : ∀ x (W : World) (l : Nat) (o o' : Obj), w.heap.size ≤ l → W.heap[l]? = some o → o.isCells = false → o.isWalk = false → Kp x W (W.putObj l o'))
  (hAb : ∀ x (A : World) y (B : World) (k : Nat) (o : Obj), Ab x A y B → w.heap.size ≤ k → A.heap[k]? = some o → o.isCells = false → o.isWalk = false → B.heap[k]? = some o)
  (hAt : ∀ pre y x (W : World) (l : Nat) (o o' : Obj), At pre y x W → w.heap.size ≤ l → W.heap[l]? = some o → o.isCells = false → At pre y x (W.putObj l o'))
  (I : List α → σ → World → Prop) (Ix : Code → List α → σ → World → Prop) (hI : ∀ x, OwnFrom w.heap.size fun s W => I s x W) (hIx : ∀ c x, OwnFrom w.heap.size fun s W => Ix c s x W)
  (hIA : ∀ s x A y B, I s x A → Ab x A y B → I s y B) (hIxA : ∀ c s x A y B, Ix c s x A → Ab x A y B → Ix c s y B)
  (h0 : I [] x0 w) (a₁ : α → Nat → Act) (box : α → Obj)
  (hKa : ∀ x (W : World) (o : Obj), Kp x W (W.alloc o)) (hAta : ∀ pre y x (W : World) (o : Obj), At pre y x W → At pre y x (W.alloc o))
  (hassign : ∀ (l : Nat) (y : α) (W : World) (K : Act → World → Prop), K (a₁ y W.heap.size) (W.alloc (box y)) →
   assign.wpIn (F.inRound l) (n - 1 - 1) P (Exit.then K (fun _ _ _ => False)) { tmps := (ps.zip (encs y)).foldl (fun t (p, v) => t.setIfInBounds p v) a.tmps, defers := [] } W)
  (hbody : ∀ (l : Nat) (pre : List α) (y : α) (x : σ) (W : World) (c : Nat), I pre x W → At pre y x W → w.heap.size ≤ c → W.heap[c]? = some (box y) →
   body.wpIn (F.inRound l) (n - 1 - 1) P (ownPostK (Kp x) (fun s W => I s x W) (fun c s W => Ix c s x W) (pre ++ [y]) W) (a₁ y c) W)
  (hdone : ∀ (D : Nat) (xs : List α) (x : σ) (W : World), w.heap.size ≤ D → S xs → I xs x W → W.heap[D]? = some (.deferred (some [])) → Q .normal { a with defers := { target := .collected D, args := #[] } :: a.defers } W)
  (hstop : ∀ (D : Nat) (c : Code) (pre : List α) (x : σ) (W : World), w.heap.size ≤ D → Sp pre → Ix c pre x W → W.heap[D]? = some (.deferred (some [])) → c.wpIn F n P Q { a with defers := { target := .collected D, args := #[] } :: a.defers } W) :
  (Code.rangeFunc g ps assign body).wpIn F n P Q a w := by
 refine wpIn_rangeFunc fun fn hfn => ?_
 rw [hro]
 obtain ⟨rec, hrec⟩ : ∃ rec : LoopState → Option Code → Loop, rec = fun st pe => { state := st, pending := pe, fn, tmps := a.tmps, params := ps, assign, body, defers := w.heap.size } := ⟨_, rfl⟩
 obtain ⟨V, hV⟩ : ∃ V, (w.alloc (.deferred (some []))).alloc (.loop (rec .ready none)) = V := ⟨_, rfl⟩
 have hLV : V.heap[w.heap.size + 1]? = some (.loop (rec .ready none)) := by
  rw [← hV]
  have := World.alloc_heap_new (w.alloc (.deferred (some []))) (.loop (rec .ready none))
  rwa [World.size_alloc] at this
 have hDV : V.heap[w.heap.size]? = some (.deferred (some [])) := by
  rw [← hV]
  exact (Below.heap_alloc _ _ _ (by simp)).trans (World.alloc_heap_new w _)
 have hIV : I [] x0 V := by rw [← hV]; exact (hI x0).alloc _ ((hI x0).alloc _ h0)
 have hBV : Below w.heap.size w V := by rw [← hV]; exact ((Below.refl _ w).alloc (Nat.le_refl _) _).alloc (by simp) _
 -- the caller's word with the two blocks of book-keeping beside it
 let J : List α → σ → World → Prop := fun s x W => I s x W ∧ W.heap[w.heap.size + 1]? = some (.loop (rec .ready none)) ∧ W.heap[w.heap.size]? = some (.deferred (some []))
 let Jx : List α → σ → World → Prop := fun s x W => ∃ c, Ix c s x W ∧ W.heap[w.heap.size + 1]? = some (.loop (rec .done (some c))) ∧ W.heap[w.heap.size]? = some (.deferred (some []))
 have hJ : ∀ s x A y B, J s x A → Ab x A y B → J s y B := fun s x A y B h hab => ⟨hIA _ _ _ _ _ h.1 hab, hAb _ _ _ _ _ _ hab (by omega) h.2.1 rfl rfl, hAb _ _ _ _ _ _ hab (Nat.le_refl _) h.2.2 rfl rfl⟩
 have hJx : ∀ s x A y B, Jx s x A → Ab x A y B → Jx s y B := fun s x A y B h hab => by
  obtain ⟨c, h1, h2, h3⟩ := h
  exact ⟨c, hIxA _ _ _ _ _ _ h1 hab, hAb _ _ _ _ _ _ hab (by omega) h2 rfl rfl, hAb _ _ _ _ _ _ hab (Nat.le_refl _) h3 rfl rfl⟩
 have round : ∀ pre y x A, J pre x A → At pre y x A → YieldAt F (n - 1 - 1) P (w.heap.size + 1) (encs y) A fun e B =>
   (e = .returned (.bool true) ∧ J (pre ++ [y]) x B ∧ Kp x A B) ∨ (e = .returned (.bool false) ∧ Jx (pre ++ [y]) x B) := by
  rintro pre y x W ⟨hi, hl, hk⟩ hat
  have hlt : w.heap.size + 1 < W.heap.size := (Array.getElem?_eq_some_iff.1 hl).1
  have hy := run_yield (P := P) (args := encs y) hl (by rw [hrec]; exact hps y)
  rw [hrec] at hy
  have hal : (W.alloc (box y)).heap[w.heap.size + 1]? = some (.loop (rec .ready none)) := (Below.heap_alloc W _ _ hlt).trans hl
  have hak : (W.alloc (box y)).heap[w.heap.size]? = some (.deferred (some [])) := (Below.heap_alloc W _ _ (by omega)).trans hk
  have hia : I pre x (W.alloc (box y)) := (hI x).alloc _ hi
  have hata := hAta _ _ _ _ (box y) hat
  have hba : (W.alloc (box y)).heap[W.heap.size]? = some (box y) := World.alloc_heap_new W _
  have hwl : w.heap.size ≤ W.heap.size := by omega
  have hne : W.heap.size ≠ w.heap.size + 1 := by omega
  have hka := hKa x W (box y)
  refine ⟨fn, _, assign, body, hy, roundIn_of_wpIn hfn (hassign _ y W _ ⟨_, run_beginRound hal (by rw [hrec]), ?_⟩)⟩
  obtain ⟨V2, hV2⟩ : ∃ V2, W.alloc (box y) = V2 := ⟨_, rfl⟩
  rw [hV2] at hal hak hia hata hba hka ⊢
  have hl2 : (V2.putObj (w.heap.size + 1) (.loop { rec .ready none with state := .busy })).heap[w.heap.size + 1]? = some (.loop { rec .ready none with state := .busy }) := World.putObj_heap_same (Array.getElem?_eq_some_iff.1 hal).1
  have hk2 : (V2.putObj (w.heap.size + 1) (.loop { rec .ready none with state := .busy })).heap[w.heap.size]? = some (.deferred (some [])) := (World.putObj_heap_other (by omega)).trans hak
  have hw2 : Kp x W (V2.putObj (w.heap.size + 1) (.loop { rec .ready none with state := .busy })) := hKt _ _ _ _ hka (hKb _ _ _ _ _ (by omega) hal rfl rfl)
  refine wpIn_mono (hbody _ pre y x _ W.heap.size ((hI x).putObj _ hia (by omega) hal rfl) (hAt _ _ _ _ _ _ _ hata (by omega) hal rfl) hwl ((World.putObj_heap_other hne).trans hba)) ?_
  have fin : ∀ (jump : Option Code) (W3 : World), KeepsOthers (V2.putObj (w.heap.size + 1) (.loop { rec .ready none with state := .busy })) W3 →
    (Instr.endRound (w.heap.size + 1) jump).run P W3 = .ok (.bool jump.isNone) (W3.putObj (w.heap.size + 1) (.loop (rec (if jump.isNone then .ready else .done) jump))) ∧
    W3.heap[w.heap.size + 1]? = some (.loop { rec .ready none with state := .busy }) ∧
    (W3.putObj (w.heap.size + 1) (.loop (rec (if jump.isNone then .ready else .done) jump))).heap[w.heap.size + 1]? = some (.loop (rec (if jump.isNone then .ready else .done) jump)) ∧
    (W3.putObj (w.heap.size + 1) (.loop (rec (if jump.isNone then .ready else .done) jump))).heap[w.heap.size]? = some (.deferred (some [])) := fun jump W3 hk3 => by
   have hl3 := hk3.same _ _ hl2 rfl
   have h4 := run_endRound (P := P) jump hl3
   rw [hrec] at h4 ⊢
   exact ⟨h4, by rw [hrec] at hl3; exact hl3, World.putObj_heap_same (Array.getElem?_eq_some_iff.1 hl3).1, (World.putObj_heap_other (by omega)).trans (hk3.same _ _ hk2 rfl)⟩
  rintro e a3 W3 hp
  cases e with
  | normal =>
   obtain ⟨hk3, hkp3, hi3⟩ := hp
   obtain ⟨hr, hl3, hl4, hk4⟩ := fin none W3 hk3
   exact ⟨_, _, hr, .inl ⟨rfl, ⟨(hI x).putObj _ hi3 (by omega) hl3 rfl, hl4, hk4⟩, hKt _ _ _ _ (hKt _ _ _ _ hw2 hkp3) (hKb _ _ _ _ _ (by omega) hl3 rfl rfl)⟩⟩
  | ret =>
   obtain ⟨hr, hl3, hl4, hk4⟩ := fin (some .ret) W3 hp.1
   exact ⟨_, _, hr, .inr ⟨rfl, .ret, (hIx _ x).putObj _ hp.2 (by omega) hl3 rfl, hl4, hk4⟩⟩
  | exit id =>
   obtain ⟨hr, hl3, hl4, hk4⟩ := fin (some (.exit id)) W3 hp.1
   exact ⟨_, _, hr, .inr ⟨rfl, .exit id, (hIx _ x).putObj _ hp.2 (by omega) hl3 rfl, hl4, hk4⟩⟩
  | goto t =>
   obtain ⟨hr, hl3, hl4, hk4⟩ := fin (some (.goto t)) W3 hp.1
   exact ⟨_, _, hr, .inr ⟨rfl, .goto t, (hIx _ x).putObj _ hp.2 (by omega) hl3 rfl, hl4, hk4⟩⟩
  | panic ch => exact hp.elim
  | outgrown => exact hp.elim
 refine ⟨w.heap.size + 1, [{ target := .collected w.heap.size, args := #[] }], V, { target := .fn (.func gf) lb, args := #[.func (.yield (w.heap.size + 1)) #[] #[]] }, V, gf,
  #[.func (.yield (w.heap.size + 1)) #[] #[]] ++ lb, V, ?_, ?_, ?_, ?_, fun _ => h1, ?_⟩
 ·rw [← hV, hrec]; exact run_enterLoop_outer _ _ _ _ _
 ·simp only [resolve, hg]
  simp [go_sem]
 ·intro f' hf'
  simp [Target.leads] at hf'
  subst hf'
  exact hFg
 ·simp [invoke, go_sem, eg]
 refine (hseq (w.heap.size + 1) J Jx V hBV hJ hJx round ⟨hIV, hLV, hDV⟩).mono ?_
 rintro e W2 ⟨⟨v, rfl⟩, (⟨xs, x, hS, hi, hl, hk⟩ | ⟨pre, x, hSp, c, hi, hl, hk⟩)⟩
 ·exact ⟨none, _, by have := run_endLoop (P := P) hl (by rw [hrec]; simp); rw [hrec] at this; exact this, hdone _ xs x _ (Nat.le_refl _) hS ((hI x).putObj _ hi (by omega) hl rfl) ((World.putObj_heap_other (by omega)).trans hk)⟩
 ·exact ⟨some c, _, by have := run_endLoop (P := P) hl (by rw [hrec]; simp); rw [hrec] at this; exact this, hstop _ c pre x _ (Nat.le_refl _) hSp ((hIx c x).putObj _ hi (by omega) hl rfl) ((World.putObj_heap_other (by omega)).trans hk)⟩
end Go.Proofs.YtegaaccioppfjaaGreatDoor
end
section
namespace Go.Proofs.YtegaaccioppfjaaGreatDoor
open Go.RowKit Go.Phx Go.Shelf

def setRow (w : World) (g : Nat) (t : TypeId) (cs : Array Value) : World := w.putObj g (.cells cs t (0, 0))
theorem Blk.row {w : World} {g : Nat} {t : TypeId} {cs : Array Value} (hg : g < w.heap.size) : Blk (setRow w g t cs) g t cs := World.putObj_heap_same hg
theorem Blk.rowOver {w : World} {g g' : Nat} {t t' : TypeId} {cs cs' : Array Value} (hn : g ≠ g') (h : Blk w g t cs) : Blk (setRow w g' t' cs') g t cs := (World.putObj_heap_other hn).trans h
theorem grown_row (w : World) (g : Nat) (t : TypeId) (cs : Array Value) : w.grownBy (setRow w g t cs) (some g) := grownBy_putObj' _ _ _
theorem size_row (w : World) (g : Nat) (t : TypeId) (cs : Array Value) : (setRow w g t cs).heap.size = w.heap.size := by simp [setRow]
theorem Below.row {n : Nat} {w W : World} {g : Nat} {t : TypeId} {cs : Array Value} (h : Below n w W) (hg : n ≤ g) (hz : n ≤ W.heap.size) : Below n w (setRow W g t cs) := h.grown (grown_row _ _ _ _) hz fun k e => by injection e with e; omega
theorem row_set (w : World) (g : Nat) (t : TypeId) (cs : Array Value) (i : Nat) (v : Value) (hg : g < w.heap.size) : (setRow w g t cs).setCell ⟨g, i, none⟩ v = setRow w g t (cs.setIfInBounds i v) := by
 unfold setRow World.putObj World.setCell
 congr 1
 apply Array.ext_getElem?
 intro k
 by_cases hk : k = g
 ·subst hk
  rw [Array.getElem?_modify, if_pos rfl, Array.getElem?_setIfInBounds_self, if_pos hg, Array.getElem?_setIfInBounds_self, if_pos hg]
  rfl
 ·simp [Array.getElem?_modify, Array.getElem?_setIfInBounds, Ne.symm hk, hk]
theorem row_of (w : World) (g : Nat) (t : TypeId) (cs : Array Value) (h : Blk w g t cs) : setRow w g t cs = w := by
 unfold setRow World.putObj
 have : w.heap.setIfInBounds g (.cells cs t (0, 0)) = w.heap := by
  apply Array.ext_getElem?
  intro k
  by_cases hk : k = g
  ·subst hk
   rw [Array.getElem?_setIfInBounds_self, if_pos h.lt]
   exact h.symm
  ·rw [Array.getElem?_setIfInBounds_ne (Ne.symm hk)]
 rw [this]
theorem row_cells (w : World) (g : Nat) (t : TypeId) (hg : g < w.heap.size) : ∀ (vs pre olds : List Value), olds.length = vs.length → (setRow w g t (pre ++ olds).toArray).setCells g pre.length vs = setRow w g t (pre ++ vs).toArray
 | [], pre, olds, h => by
  obtain rfl := List.eq_nil_of_length_eq_zero h
  rfl
 | v :: vs, pre, [], h => by simp at h
 | v :: vs, pre, u :: olds, h => by
  rw [World.setCells, row_set w g t _ _ _ hg, List.setIfInBounds_toArray, List.set_append_right _ _ (Nat.le_refl _), Nat.sub_self, List.set_cons_zero]
  have := row_cells w g t hg vs (pre ++ [v]) olds (by simpa using h)
  simp only [List.length_append, List.length_cons, List.length_nil, List.append_assoc, List.cons_append, List.nil_append] at this
  exact this
theorem setCells_row {w : World} {g : Nat} {t : TypeId} {cs cells : Array Value} (h : Blk w g t cs) (hs : cells.size = cs.size) : w.setCells g 0 cells.toList = setRow w g t cells := by
 have := row_cells w g t h.lt cells.toList [] cs.toList (by simp [hs])
 simp only [List.nil_append, List.length_nil] at this
 rw [row_of w g t _ (by simpa using h)] at this
 exact this
theorem wpList_store_blk {P : Program} {ops : Array Oper} {rest : List Oper} {o : Oper} {a : Act} {w : World} {Q : Exit → Act → World → Prop} {g : Nat} {t ty : TypeId} {cs cells : Array Value} (h0 : Blk w g t cs)
  (hgd : o.guard = none) (x y : Operand) (ho : o.op = .store ty x y) (hx : a.eval x = .pointer (some ⟨g, 0, none⟩)) (hy : a.eval y = .agg cells)
  (hs : cells.size = cs.size) (hi : (P.info? ty).map (·.size) = some cells.size) (h1 : cells.all (·.oneCell') = true)
  (h : wpList P ops Q rest (a.put o.dst undef) (setRow w g t cells)) : wpList P ops Q (o :: rest) a w := by
 refine wpList_store_mid hgd ty x y ho g 0 cells hx hy (fun j hj => ?_) hi h1 ?_
 ·rw [h0.cell, h0.free, Nat.zero_add]
  have : j < cs.size := by omega
  simp [this]
 ·rw [setCells_row h0 hs]
  exact h
theorem wpList_load_row' {P : Program} {ops : Array Oper} {rest : List Oper} {o : Oper} {a : Act} {w : World} {Q : Exit → Act → World → Prop} {g : Nat} {t ty : TypeId} {cs : Array Value} {d : TypeDesc} (h0 : Blk w g t cs)
  (hu : P.underlying ty = some d) (hd : (match d with | .struct _ | .array _ _ => true | _ => false) = true) (hi : (P.info? ty).map (·.size) = some cs.size)
  (hgd : o.guard = none) (x : Operand) (ho : o.op = .load ty x) (hx : a.eval x = .pointer (some ⟨g, 0, none⟩))
  (h : wpList P ops Q rest (a.put o.dst (.agg cs)) w) : wpList P ops Q (o :: rest) a w :=
 wpList_load_blk h0 hgd x ho hx hu hd hi h
theorem row_new (w : World) (t : TypeId) (cs cs' : Array Value) : setRow (w.alloc (.cells cs t)) w.heap.size t cs' = w.alloc (.cells cs' t) := by
 unfold setRow World.putObj World.alloc
 congr 1
 apply Array.ext_getElem?
 intro k
 by_cases hk : k = w.heap.size
 ·subst hk
  simp
 ·rw [Array.getElem?_setIfInBounds_ne (Ne.symm hk), Array.getElem?_push, Array.getElem?_push, if_neg hk, if_neg hk]
theorem wpList_store_new {P : Program} {ops : Array Oper} {rest : List Oper} {o : Oper} {a : Act} {w : World} {Q : Exit → Act → World → Prop} {t ty : TypeId} {cs cells : Array Value}
  (hgd : o.guard = none) (x y : Operand) (ho : o.op = .store ty x y) (hx : a.eval x = .pointer (some ⟨w.heap.size, 0, none⟩)) (hy : a.eval y = .agg cells)
  (hs : cells.size = cs.size) (hi : (P.info? ty).map (·.size) = some cells.size) (h1 : cells.all (·.oneCell') = true)
  (h : wpList P ops Q rest (a.put o.dst undef) (w.alloc (.cells cells t))) : wpList P ops Q (o :: rest) a (w.alloc (.cells cs t)) := by
 refine wpList_store_blk (Blk.new0 w t cs) hgd x y ho hx hy hs hi h1 ?_
 rw [row_new]
 exact h
theorem cw_one (L : List Wd) : (cw L).all (·.oneCell') = true := by
 unfold cw
 rw [Array.all_eq_true_iff_forall_mem]
 intro v hv
 simp at hv
 obtain ⟨x, _, rfl⟩ := hv
 rfl
theorem cw_size (L : List Wd) : (cw L).size = L.length := by simp [cw]
def OwnX (w : World) (base : Nat) (e : TypeId) (v : Value) (n : Nat) (xs : List Value) : Prop :=
 xs.length = n ∧ ∃ g cap cur fz, v = .slice (some ⟨g, 0, none⟩) n cap ∧ base ≤ g ∧ w.heap[g]? = some (.cells cur e fz) ∧ (fz.2 ≤ fz.1 ∨ cap ≤ fz.1) ∧ n ≤ cap ∧ cap ≤ maxLen ∧ cur.size = cap ∧ cur.toList.take n = xs
theorem OwnX.form {w : World} {base : Nat} {e : TypeId} {v : Value} {n : Nat} {xs : List Value} (h : OwnX w base e v n xs) :
  ∃ g cap, v = .slice (some ⟨g, 0, none⟩) n cap ∧ base ≤ g ∧ g < w.heap.size ∧ n ≤ cap ∧ cap ≤ maxLen ∧ ∀ j u, xs[j]? = some u → w.cell? ⟨g, j, none⟩ = some u := by
 obtain ⟨_, g, cap, cur, fz, hv, hb, hg, _, hnc, hcm, _, ht⟩ := h
 refine ⟨g, cap, hv, hb, (Array.getElem?_eq_some_iff.1 hg).1, hnc, hcm, fun j u hu => ?_⟩
 rw [cell_of_row w g j cur e fz hg]
 rw [← ht, List.getElem?_take] at hu
 split at hu
 ·simpa using hu
 ·cases hu
theorem OwnX.kept {w w' : World} {base : Nat} {e : TypeId} {v : Value} {n : Nat} {xs : List Value} {row : Option Nat} (h : OwnX w base e v n xs) (hg : w.grownBy w' row) (hne : v.ownBlock ≠ row) : OwnX w' base e v n xs := by
 obtain ⟨hl, g, cap, cur, fz, hv, hb, hh, r⟩ := h
 refine ⟨hl, g, cap, cur, fz, hv, hb, ?_, r⟩
 rw [hg.block g (Array.getElem?_eq_some_iff.1 hh).1 (by subst hv; simpa [Value.ownBlock] using hne)]
 exact hh
theorem OwnX.alloc {w : World} {base : Nat} {e : TypeId} {v : Value} {n : Nat} {xs : List Value} (h : OwnX w base e v n xs) (o : Obj) : OwnX (w.alloc o) base e v n xs :=
 h.kept (World.grownBy_alloc w o none) (by
  obtain ⟨_, g, cap, cur, fz, rfl, _⟩ := h
  simp [Value.ownBlock])
theorem OwnX.below {w w' : World} {base : Nat} {e : TypeId} {v : Value} {n : Nat} {xs : List Value} (h : OwnX w base e v n xs) (hB : Below w.heap.size w w') : OwnX w' base e v n xs := by
 obtain ⟨hl, g, cap, cur, fz, hv, hb, hh, r⟩ := h
 exact ⟨hl, g, cap, cur, fz, hv, hb, (hB.block g (Array.getElem?_eq_some_iff.1 hh).1).trans hh, r⟩
theorem run_storeCells_X (P : Program) (g o : Nat) (t : TypeId) (fz : Nat × Nat) : ∀ (vs : List Value) (i : Nat) (cur : Array Value) (w : World), w.heap[g]? = some (.cells cur t fz) → (fz.2 ≤ fz.1 ∨ cur.size ≤ fz.1) → o + i + vs.length ≤ cur.size → (∀ v ∈ vs, v.oneCell' = true) →
  (storeCells ⟨g, o, none⟩ vs i).run P w = .ok () (w.setRow g (cur.toList.take (o + i) ++ vs ++ cur.toList.drop (o + i + vs.length)).toArray)
 | [], i, cur, w, hg, _, _, _ => by
  simp only [storeCells, List.append_nil, List.length_nil, Nat.add_zero, List.take_append_drop, Array.toArray_toList]
  rw [setRow_self w g cur t fz hg]
  rfl
 | v :: rest, i, cur, w, hg, hfz, hl, h1 => by
  have hi : o + i < cur.size := by simp at hl; omega
  have hadd : (⟨g, o, none⟩ : Addr).add i = ⟨g, o + i, none⟩ := by unfold Addr.add; split <;> simp_all
  have hcell : w.cell? ⟨g, o + i, none⟩ = some cur[o + i] := by simp [World.cell?, hg, hi]
  have hfro : w.frozen? ⟨g, o + i, none⟩ = false := by
   obtain ⟨lo, hi'⟩ := fz
   simp only [World.frozen?, hg, Bool.and_eq_false_iff, decide_eq_false_iff_not]
   simp only at hfz
   omega
  have hst : (store ((⟨g, o, none⟩ : Addr).add i) v).run P w = .ok () (w.setRow g (cur.setIfInBounds (o + i) v)) := by
   rw [hadd, run_store P w _ v _ (h1 v (by simp)), hcell]
   simp [hfro, setCell_eq_setRow w g (o + i) cur t fz v hg]
  have ih := run_storeCells_X P g o t fz rest (i + 1) (cur.setIfInBounds (o + i) v) (w.setRow g (cur.setIfInBounds (o + i) v)) (setRow_heap w g cur _ t _ hg) (by simpa using hfz) (by simp at hl ⊢; omega) (fun x hx => h1 x (by simp [hx]))
  simp only [storeCells, Sem.run_bind, hst, Result.andThen_ok, ih, setRow_setRow]
  congr 3
  have e := list_seg_step cur.toList (o + i) v rest (by simp at hl ⊢; omega)
  simpa [Array.toList_setIfInBounds, Nat.add_assoc] using e

theorem run_append_X {P : Program} (w : World) (base : Nat) (t ty e : TypeId) (i : TypeInfo) (z : Value) (ht : P.underlying t = some (.slice e)) (hi : P.info? e = some i) (hz : i.zero = some z)
  (hsize : i.size = 1) (hby : i.bytes = 1) (hzs : z.cells.size = 1)
  (v : Value) (n : Nat) (xs : List Value) (hown : OwnX w base e v n xs)
  (a : Addr) (m c : Nat) (news : List Value) (hl : news.length = m) (hnews : ∀ j u, news[j]? = some u → w.cell? (a.add j) = some u) (h1 : ∀ u ∈ news, u.oneCell' = true)
  (h63 : n + m ≤ 140737488355328) (hbase : base ≤ w.heap.size) :
  ∃ v' w', (Builtin.append_ #[t, t] ty #[v, .slice (some a) m c]).run P w = .ok v' w' ∧ OwnX w' base e v' (n + m) (xs ++ news) ∧ w.grownBy w' v.ownBlock := by
 obtain ⟨hxl, g, cap, cur, fz, rfl, hbg, hg, hfz, hnc, hcm, hcs, htake⟩ := hown
 have hlen : (xs ++ news).length = n + m := by rw [List.length_append, hxl, hl]
 by_cases hroom : n + m ≤ cap
 ·have hf := run_firstCells_some (P := P) w i.size m a m c news (by rw [hsize, Nat.mul_one]; exact hl) hnews
  rw [hsize] at hf
  have hst := run_storeCells_X P g n e fz news 0 cur w hg (by rw [hcs]; exact hfz) (by omega) h1
  simp only [Nat.add_zero] at hst
  refine ⟨.slice (some ⟨g, 0, none⟩) (n + m) cap, w.setRow g (cur.toList.take n ++ news ++ cur.toList.drop (n + news.length)).toArray, ?_, ⟨hlen, g, cap, _, fz, rfl, hbg, setRow_heap w g cur _ e _ hg, hfz, hroom, hcm, ?_, ?_⟩,
   ⟨rfl, rfl, rfl, by simp, fun k _ hk => setRow_other w g k _ (fun e => hk (by simp [Value.ownBlock, e]))⟩⟩
  ·simp [Builtin.append_, run_underlying ht, sizeOf, typeInfo, hi, Builtin.lenOf, hroom, hf, Addr.add_lit, hst, hsize]
  ·simp only [List.size_toArray, List.length_append, List.length_take, List.length_drop, Array.length_toList]
   omega
  ·rw [htake, ← hlen]
   exact List.take_left
 ·have holds : ∀ j u, xs[j]? = some u → w.cell? ((⟨g, 0, none⟩ : Addr).add j) = some u := fun j u hu => by
   have hadd : (⟨g, 0, none⟩ : Addr).add j = ⟨g, j, none⟩ := by unfold Addr.add; split <;> simp_all
   rw [hadd, cell_of_row w g j cur e fz hg]
   rw [← htake, List.getElem?_take] at hu
   split at hu
   ·simpa using hu
   ·cases hu
  have hr := run_append_grow (P := P) w t ty e i z ht hi hz ⟨g, 0, none⟩ n cap xs (by rw [hsize, Nat.mul_one]; exact hxl) holds a m c news (by rw [hsize, Nat.mul_one]; exact hl) hnews (by omega) (by omega) (growslice_fits (by omega) (by rw [hby]; omega))
  have hge := grownCap_ge w (n + m) cap e
  have hcm2 : grownCap w (n + m) cap e ≤ maxLen := grownCap_le_maxLen w (n + m) cap e (by unfold maxLen; omega)
  refine ⟨_, _, hr, ⟨hlen, w.heap.size, _, _, (0, 0), rfl, hbase, heap_alloc_new w.drew _, .inl (Nat.le_refl _), hge, hcm2, ?_, ?_⟩, ⟨rfl, rfl, rfl, by simp, fun k hk _ => heap_alloc_old w.drew _ hk⟩⟩
  ·simp only [Array.size_append, List.size_toArray, size_zeroCells, hzs, hxl, hl]
   omega
  ·simp only [Array.toList_append, List.append_assoc]
   rw [← List.append_assoc, ← hlen]
   exact List.take_left
theorem wpList_append_X {P : Program} {ops : Array Oper} {rest : List Oper} {o : Oper} {a : Act} {w : World} {Q : Exit → Act → World → Prop} (hgd : o.guard = none) (s x : Operand) (t : TypeId)
  (ho : o.op = .call { callee := .builtin .append, args := #[s, x], argTypes := #[t, t] })
  (base : Nat) (e : TypeId) (i : TypeInfo) (z : Value) (ht : P.underlying t = some (.slice e)) (hi : P.info? e = some i) (hz : i.zero = some z) (hsize : i.size = 1) (hby : i.bytes = 1) (hzs : z.cells.size = 1)
  (v : Value) (n : Nat) (xs : List Value) (hs : a.eval s = v) (hown : OwnX w base e v n xs)
  (ad : Addr) (m c : Nat) (news : List Value) (hx : a.eval x = .slice (some ad) m c) (hl : news.length = m) (hnews : ∀ j u, news[j]? = some u → w.cell? (ad.add j) = some u) (h1 : ∀ u ∈ news, u.oneCell' = true)
  (h63 : n + m ≤ 140737488355328) (hbase : base ≤ w.heap.size)
  (h : ∀ v' w', OwnX w' base e v' (n + m) (xs ++ news) → w.grownBy w' v.ownBlock → wpList P ops Q rest (a.put o.dst v') w') : wpList P ops Q (o :: rest) a w := by
 refine wpList_plain hgd fun K hK => ?_
 obtain ⟨v', w', hr, h2, h3⟩ := run_append_X (P := P) w base t o.type e i z ht hi hz hsize hby hzs v n xs hown ad m c news hl hnews h1 h63 hbase
 unfold Oper.wp execOp
 simp only [ho, resolve, invoke, builtin, Sem.run_bind, Sem.run_pure, Result.andThen_ok, List.map_toArray, List.map_cons, List.map_nil, hs, hx, hr]
 exact hK _ _ (h v' w' h2 h3)
theorem news1 (W : World) (t : TypeId) (v : Value) : ∀ j u, [v][j]? = some u → (W.alloc (.cells #[v] t)).cell? ((⟨W.heap.size, 0, none⟩ : Addr).add j) = some u := by
 intro j u hu
 match j, hu with
 | 0, hu =>
  have := (Blk.new0 W t #[v]).cell 0
  simp at hu
  subst hu
  simp [Addr.add]
def bv (c : UInt8) : Value := .int .u8 (c.toNat : Int)
def txtCells (w : World) (s : ByteArray) : World :=
 w.drew.alloc (.cells (bytesRow s (grownCap w s.size 0 5)) 5 ((bytesRow s (grownCap w s.size 0 5)).size, (bytesRow s (grownCap w s.size 0 5)).size + 1))
@[go_sem] theorem conv_txt (w : World) (s : ByteArray) : (convert 9 108 (.string s)).run Tryz.prog w = .ok (.slice (some ⟨w.heap.size, 0, none⟩) s.size (grownCap w s.size 0 5)) (txtCells w s) :=
 run_bytes_of_string w _ _ _ s (show Tryz.prog.underlying 9 = some .string by kernel_rfl) (show Tryz.prog.underlying 108 = some (.slice 5) by kernel_rfl) (show Tryz.prog.underlying 5 = some (.int .u8) by kernel_rfl)
theorem txt_own (w : World) (l : List UInt8) (base : Nat) (hb : base ≤ w.heap.size) (hl : l.length ≤ 140737488355328) :
  OwnX (txtCells w (bs l)) base 5 (.slice (some ⟨w.heap.size, 0, none⟩) l.length (grownCap w l.length 0 5)) l.length (l.map bv) := by
 have hge := grownCap_ge w l.length 0 5
 unfold txtCells
 rw [bs_size]
 refine ⟨by simp, w.heap.size, _, _, _, rfl, hb, heap_alloc_new w.drew _, .inr ?_, hge, grownCap_le_maxLen w _ _ _ (by unfold maxLen; omega), ?_, ?_⟩
 ·show _ ≤ (bytesRow (bs l) _).size
  have e1 : (bs l).data.size = l.length := by simp [bs]
  unfold bytesRow
  rw [Array.size_append, Array.size_map, Array.size_replicate, bs_size, e1]
  omega
 ·have e1 : (bs l).data.size = l.length := by simp [bs]
  unfold bytesRow
  rw [Array.size_append, Array.size_map, Array.size_replicate, bs_size, e1]
  omega
 ·simp [bytesRow, bs]
  exact fun _ _ => rfl
theorem txt_below (w : World) (s : ByteArray) : Below w.heap.size w (txtCells w s) := ((Below.refl _ _).drew).alloc (Nat.le_refl _) _
theorem txt_size (w : World) (s : ByteArray) : (txtCells w s).heap.size = w.heap.size + 1 := by simp [txtCells]
theorem conv_cells (W : World) (g : Nat) (L : List UInt8) (n c : Nat) (hn : L.length = n) (h : ∀ j u, (L.map bv)[j]? = some u → W.cell? ⟨g, j, none⟩ = some u) :
  (convert 108 9 (.slice (some ⟨g, 0, none⟩) n c)).run Tryz.prog W = .ok (.string (bs L)) W := by
 have hs : Tryz.prog.underlying 108 = some (.slice 5) := by kernel_rfl
 have he : Tryz.prog.underlying 5 = some (.int .u8) := by kernel_rfl
 have hd : Tryz.prog.underlying 9 = some .string := by kernel_rfl
 have := run_convert_bytes_arg (P := Tryz.prog) W _ _ hs he g 0 n c (L.map fun c : UInt8 => (c.toNat : Int)) (by simpa using hn) (fun i hi => by
  rw [Nat.zero_add, h i (bv (L.getD i 0)) (by rw [List.getElem?_map, List.getElem?_eq_getElem (by omega), List.getD, List.getElem?_eq_getElem (by omega)]; rfl)]
  unfold bv
  simp [List.getD, List.getElem?_eq_getElem (show i < L.length by omega)]) _ hd
 rw [this, strOfNums_map]
theorem own_cells {w : World} {base : Nat} {e : TypeId} {n cap g : Nat} {xs : List Value} (h : w.ownsRow base e 1 (.slice (some ⟨g, 0, none⟩) n cap) n xs) : ∀ j u, xs[j]? = some u → w.cell? ⟨g, j, none⟩ = some u := fun j u hu => by
 have := h.cells (g := g) rfl j u hu
 rwa [Addr.add_mid, Nat.zero_add] at this
structure HoldsX (w0 wr : World) (v : Value) (q : List UInt8) : Prop where
 own : OwnX wr w0.heap.size 5 v q.length (q.map bv)
 below : Below w0.heap.size w0 wr
theorem HoldsX.step {w0 wr w' : World} {v v' : Value} {q : List UInt8} {o : Obj} {x : Int} (c : UInt8) (h : HoldsX w0 wr v q) (hx : x = (c.toNat : Int)) (hown : OwnX w' w0.heap.size 5 v' (q.length + 1) (q.map bv ++ [.int .u8 x])) (hg : (wr.alloc o).grownBy w' v.ownBlock) :
  HoldsX w0 w' v' (q ++ [c]) := by
 subst hx
 refine ⟨by simpa [bv] using hown, (h.below.alloc h.below.size o).grown hg (by have := h.below.size; simp; omega) fun k e => ?_⟩
 obtain ⟨g, cap, hv, hb, _⟩ := h.own.form
 rw [hv] at e
 simp [Value.ownBlock] at e
 omega
end Go.Proofs.YtegaaccioppfjaaGreatDoor
end
section
namespace Go.Proofs.YtegaaccioppfjaaGreatDoor
open BigFrame Go.RowKit Go.Phx Go.Shelf
attribute [local go_sem] Oper.semAt_some

def Txts (w : World) (A : Option Addr) (L : List Bytes) : Prop := Strs w A (L.map bs)
theorem Txts.at {w : World} {A : Option Addr} {L : List Bytes} (h : Txts w A L) (i : Nat) (hi : i < L.length) : ∃ b o, A = some ⟨b, o, none⟩ ∧ b < w.heap.size ∧ w.cell? ⟨b, o + i, none⟩ = some (.string (bs (L.getD i []))) := by
 obtain ⟨b, o, ha, hb, hc⟩ := h (by simp; omega)
 exact ⟨b, o, ha, hb, hc i _ (by rw [List.getElem?_map, List.getElem?_eq_getElem hi, List.getD, List.getElem?_eq_getElem hi]; rfl)⟩
def tv (b : Bytes) : Value := .string (bs b)
def LRow (base : Nat) (w : World) (v : Value) (L : List Bytes) : Prop := w.ownsRow base 9 1 v L.length (L.map tv)
theorem LRow.txts {base : Nat} {w : World} {v : Value} {L : List Bytes} (h : LRow base w v L) : ∃ A c, v = .slice A L.length c ∧ Txts w A L := by
 rcases h.2 with ⟨rfl, h0⟩ | ⟨g, cap, cur, rfl, _⟩
 ·obtain rfl := List.eq_nil_of_length_eq_zero h0
  exact ⟨none, 0, rfl, Strs.nil _ _⟩
 ·refine ⟨_, _, rfl, Strs.mk (h.lt g rfl).2 fun i x hx => ?_⟩
  have hi : i < L.length := by have := (List.getElem?_eq_some_iff.1 hx).1; simpa using this
  rw [Nat.zero_add, World.ownsRow.cellAt h i (by omega)]
  rw [List.getElem?_map] at hx ⊢
  cases hl : L[i]? with
  | none => rw [hl] at hx; cases hx
  | some y => rw [hl] at hx; simp only [Option.map_some, Option.some.injEq] at hx ⊢; rw [← hx]; rfl
theorem LRow.cells {base : Nat} {w : World} {v : Value} {L : List Bytes} (h : LRow base w v L) : ∀ j, v.ownBlock = some j → base ≤ j ∧ ∃ cs t fz, w.heap[j]? = some (.cells cs t fz) := fun j hj => by
 rcases h.2 with ⟨rfl, h0⟩ | ⟨g, cap, cur, rfl, hb, hg, _⟩
 ·cases hj
 ·cases hj
  exact ⟨hb, cur, _, _, hg⟩
theorem LRow.mono {base base' : Nat} {w : World} {v : Value} {L : List Bytes} (h : LRow base w v L) (hb : base' ≤ base) : LRow base' w v L :=
 ⟨h.1, h.2.imp id fun ⟨g, cap, cur, a, b, r⟩ => ⟨g, cap, cur, a, Nat.le_trans hb b, r⟩⟩
theorem LRow.at {base : Nat} {w : World} {g cap : Nat} {L : List Bytes} {n : Nat} (h : LRow base w (.slice (some ⟨g, 0, none⟩) n cap) L) (i : Nat) (hi : i < L.length) : w.cell? ⟨g, i, none⟩ = some (.string (bs (L.getD i []))) := by
 have hn : L.length = n := by
  rcases h.2 with ⟨h', _⟩ | ⟨g', cap', cur, h', _⟩
  ·simp at h'
  ·simp only [Value.slice.injEq] at h'
   exact h'.2.1.symm
 subst hn
 rw [World.ownsRow.cellAt h i (by omega), List.getElem?_map, List.getElem?_eq_getElem hi, List.getD, List.getElem?_eq_getElem hi]
 rfl
theorem infoStr : (Tryz.prog.info? 9).map (fun i => (i.zero, i.size, i.bytes)) = some (some (.string ByteArray.empty), 1, 16) := by kernel_rfl
theorem LRow.keep {base : Nat} {w w' : World} {v : Value} {L : List Bytes} {r : Option Nat} (h : LRow base w v L) (hg : w.grownBy w' r) (hn : ∀ j, v.ownBlock = some j → r ≠ some j) : LRow base w' v L :=
 h.kept hg (by
  cases hv : v.ownBlock with
  | none => exact .inl rfl
  | some g => exact .inr fun e => hn g hv e.symm)
theorem LRow.on {base : Nat} {w : World} {v : Value} {L : List Bytes} (h : LRow base w v L) (o : Obj) : LRow base (w.alloc o) v L :=
 h.keep (World.grownBy_alloc w o none) fun _ _ e => by cases e
theorem wpList_append_txt {ops : Array Oper} {rest : List Oper} {o : Oper} {a : Act} {w : World} {Q : Exit → Act → World → Prop} (hgd : o.guard = none) (s x : Operand)
  (ho : o.op = .call { callee := .builtin .append, args := #[s, x], argTypes := #[27, 27] }) (base : Nat) (v : Value) (L : List Bytes) (hs : a.eval s = v) (R : LRow base w v L)
  (u : Bytes) (ad : Addr) (hx : a.eval x = .slice (some ad) 1 1) (hc : w.cell? (ad.add 0) = some (tv u)) (hl : L.length ≤ 1000000000) (hb : base ≤ w.heap.size)
  (h : ∀ v' w', LRow base w' v' (L ++ [u]) → w.grownBy w' v.ownBlock → (v'.ownBlock = v.ownBlock ∨ v'.ownBlock = some w.heap.size) → wpList Tryz.prog ops Q rest (a.put o.dst v') w') : wpList Tryz.prog ops Q (o :: rest) a w := by
 refine wpList_plain hgd fun K hK => ?_
 obtain ⟨i0, hi, hz0, hz1, hz2⟩ := info_parts infoStr
 obtain ⟨v', w', hr, h2, h3, _, h5⟩ := run_append_own_at (P := Tryz.prog) w base 27 o.type 9 i0 (.string ByteArray.empty) 1 16 Tryz.underlying27 hi hz0 hz1 hz2 rfl (by decide) v L.length (L.map tv) R ad 1 1 [tv u] rfl (fun j y hy => by
  match j, hy with
  | 0, hy => simp at hy; subst hy; exact hc) (by simp [Value.oneCell', tv]) (by unfold maxLen; omega) (by omega) hb
 unfold Oper.wp execOp
 simp only [ho, resolve, invoke, builtin, Sem.run_bind, Sem.run_pure, Result.andThen_ok, List.map_toArray, List.map_cons, List.map_nil, hs, hx, hr]
 refine hK _ _ (h v' w' ?_ h3 h5)
 unfold LRow
 rw [List.length_append, List.map_append]
 exact h2
theorem new_cell (w : World) (t : TypeId) (v : Value) : (w.alloc (.cells #[v] t)).cell? ((⟨w.heap.size, 0, none⟩ : Addr).add 0) = some v := news1 w t v 0 v rfl
theorem below_app {w W w' : World} {v : Value} {L : List Bytes} (hB : Below w.heap.size w W) (R : LRow w.heap.size W v L) (hg : W.grownBy w' v.ownBlock) : Below w.heap.size w w' :=
 hB.grown hg hB.size fun j e => (R.lt j e).1
theorem start_append (w : World) (base : Nat) (hb : base ≤ w.heap.size) (n : Nat) (hn : n ≤ 1048576) (A : Option Addr) (c : Nat) (L : List Bytes) (hL : L.length ≤ 1048576) (hs : Txts w A L) :
  ∃ v w1, (Instr.makeSlice 27 (.int .i64 0) (.int .i64 n)).run Tryz.prog w = .ok v w1 ∧ Below w.heap.size w w1 ∧
   ∃ v' w', (Builtin.append_ #[27, 27] 27 #[v, .slice A L.length c]).run Tryz.prog w1 = .ok v' w' ∧ LRow base w' v' L ∧ Below w.heap.size w w' := by
 obtain ⟨i0, hi, hz0, hz1, hz2⟩ := info_parts infoStr
 obtain ⟨w1, hmk, hown, hgr⟩ := run_make_own (P := Tryz.prog) w base 27 9 i0 (.string ByteArray.empty) 1 Tryz.underlying27 hi hz0 hz1 .i64 .i64 n (by rw [hz2]; omega) (by unfold maxLen; omega) hb
 have hB1 : Below w.heap.size w w1 := (Below.refl w.heap.size w).grown hgr (Nat.le_refl _) (fun k e => by cases e)
 refine ⟨_, w1, hmk, hB1, ?_⟩
 by_cases h0 : L = []
 ·subst h0
  refine ⟨.slice (some ⟨w.heap.size, 0, none⟩) 0 n, w1, ?_, hown, hB1⟩
  have hsc : Builtin.firstCells 1 0 (.slice A 0 c) = pure #[] := by
   cases A <;> simp [Builtin.firstCells, loadCells, loadCellsFrom]
  simp [Builtin.append_, run_underlying Tryz.underlying27, sizeOf, typeInfo, hi, hz1, Builtin.lenOf, hsc, storeCells]
 ·have hpos : 0 < L.length := by cases L with | nil => exact absurd rfl h0 | cons => simp
  obtain ⟨b, o, rfl, hb2, _⟩ := hs.at 0 hpos
  have hcs : ∀ (j : Nat) u, (L.map tv)[j]? = some u → w1.cell? ((⟨b, o, none⟩ : Addr).add j) = some u := fun j u hu => by
   have hj : j < L.length := by have := (List.getElem?_eq_some_iff.1 hu).1; simpa using this
   obtain ⟨b', o', he, hlt, hc⟩ := hs.at j hj
   simp only [Option.some.injEq, Addr.mk.injEq, and_true] at he
   obtain ⟨rfl, rfl⟩ := he
   rw [Addr.add_mid, hB1.cell (p := ⟨b, o + j, none⟩) hlt, hc]
   rw [List.getElem?_map, List.getElem?_eq_getElem hj] at hu
   simp only [Option.map_some, Option.some.injEq] at hu
   rw [← hu, List.getD, List.getElem?_eq_getElem hj]
   rfl
  obtain ⟨v', w', hr, h2, h3, _, _⟩ := run_append_own_at (P := Tryz.prog) w1 base 27 27 9 i0 (.string ByteArray.empty) 1 16 Tryz.underlying27 hi hz0 hz1 hz2 rfl (by decide) _ 0 [] hown ⟨b, o, none⟩ L.length c (L.map tv) (by simp) hcs (fun u hu => by
   simp only [List.mem_map] at hu
   obtain ⟨x, _, rfl⟩ := hu
   rfl) (by unfold maxLen; omega) (by omega) (Nat.le_trans hb hB1.size)
  refine ⟨v', w', hr, ?_, hB1.grown h3 hB1.size fun j e => (?_ : w.heap.size ≤ j)⟩
  ·have := h2
   simp only [Nat.zero_add, List.nil_append] at this
   exact this
  ·simp [Value.ownBlock] at e
   omega
theorem wpList_append_run {P : Program} {ops : Array Oper} {rest : List Oper} {o : Oper} {a : Act} {w w' : World} {Q : Exit → Act → World → Prop} (hgd : o.guard = none) (s x : Operand) (t u : TypeId)
  (ho : o.op = .call { callee := .builtin .append, args := #[s, x], argTypes := #[t, u] }) (v y v' : Value) (hs : a.eval s = v) (hx : a.eval x = y)
  (hr : (Builtin.append_ #[t, u] o.type #[v, y]).run P w = .ok v' w') (h : wpList P ops Q rest (a.put o.dst v') w') : wpList P ops Q (o :: rest) a w := by
 refine wpList_plain hgd fun K hK => ?_
 unfold Oper.wp execOp
 simp only [ho, resolve, invoke, builtin, Sem.run_bind, Sem.run_pure, Result.andThen_ok, List.map_toArray, List.map_cons, List.map_nil, hs, hx, hr]
 exact hK _ _ h
theorem shr_n (x : Wd) (n : Nat) : vw x / 2 ^ n = vw (x >>> n) := shr_w x n _ rfl
theorem shl_n (x : Wd) (n : Nat) : vw x * 2 ^ n % 4294967296 = vw (x <<< n) := shl_w' x n _ rfl
theorem rturn_nat (x : Wd) (n : Nat) (h0 : 0 < n) (h1 : n < 32) (w : World) : Calls Tryz.prog 180 #[.int .u32 (vw x), .int .i64 n] w (Ret w (.int .u32 (vw (ror x n)))) := by
 have v1 := vw_nonneg x
 have v2 := vw_lt x
 have e1 := shr_n x n
 have e2 := shl_n x (32 - n)
 have e3 : IntKind.i64.wrap (32 - (n : Int)) = 32 - (n : Int) := IntWalk.i64_in _ (by omega)
 go_enter Tryz.func180, Tryz.ntmps180
 go_wp2_with fail
 go_quiet (fail)
 go_wp2_with fail
 go_ret
 exact ⟨by simp only [e2]; rfl, below_drewN (Below.refl _ _) _⟩
theorem rturn_calls (x : Wd) (n : Int) (h : 0 < n ∧ n < 32) (w : World) : Calls Tryz.prog 180 #[.int .u32 (vw x), .int .i64 n] w (Ret w (.int .u32 (vw (ror x n.toNat)))) := by
 obtain ⟨m, rfl⟩ : ∃ m : Nat, n = m := ⟨n.toNat, by omega⟩
 exact rturn_nat x m (by omega) (by omega) w

theorem wordOf4 (a b c d : UInt8) : wordOf [a, b, c, d] = bw a <<< 24 ||| bw b <<< 16 ||| bw c <<< 8 ||| bw d := by
 unfold wordOf
 simp only [List.foldl_cons, List.foldl_nil]
 rw [show (0 : Wd) <<< 8 = 0 from rfl, show ∀ x : Wd, (0 : Wd) ||| x = x from fun x => BitVec.zero_or, BitVec.shiftLeft_or_distrib, BitVec.shiftLeft_or_distrib, BitVec.shiftLeft_or_distrib, ← BitVec.shiftLeft_add, ← BitVec.shiftLeft_add, ← BitVec.shiftLeft_add]
 rfl
theorem take4 (l : List UInt8) (k : Nat) (h : 4 * k + 4 ≤ l.length) : (l.drop (4 * k)).take 4 = [l.getD (4 * k) 0, l.getD (4 * k + 1) 0, l.getD (4 * k + 2) 0, l.getD (4 * k + 3) 0] := by
 have e : ∀ i, i < 4 → (l.drop (4 * k))[i]? = some (l.getD (4 * k + i) 0) := fun i hi => by
  rw [List.getElem?_drop, List.getD, List.getElem?_eq_getElem (by omega)]
  rfl
 apply List.ext_getElem?
 intro i
 by_cases hi : i < 4
 ·rw [List.getElem?_take_of_lt hi, e i hi]
  match i, hi with
  | 0, _ => rfl
  | 1, _ => rfl
  | 2, _ => rfl
  | 3, _ => rfl
 ·rw [List.getElem?_eq_none (by simp; omega), List.getElem?_eq_none (by simp; omega)]
def headW (l : List UInt8) (k : Nat) : List Wd := (words16 l).take k ++ List.replicate (64 - k) 0
theorem headW_len (l : List UInt8) (k : Nat) (hk : k ≤ 16) : (headW l k).length = 64 := by
 unfold headW
 simp [words16_len]
 omega
theorem headW_all (l : List UInt8) : headW l 16 = moreW l 0 := by
 unfold headW moreW
 rw [List.take_of_length_le (by rw [words16_len]; exact Nat.le_refl _)]
 rfl
theorem headW_next (l : List UInt8) (hl : l.length = 64) (k : Nat) (hk : k < 16) :
  headW l (k + 1) = (headW l k).set k (bw (l.getD (4 * k) 0) <<< 24 ||| bw (l.getD (4 * k + 1) 0) <<< 16 ||| bw (l.getD (4 * k + 2) 0) <<< 8 ||| bw (l.getD (4 * k + 3) 0)) := by
 rw [← wordOf4, ← take4 l k (by omega)]
 unfold headW
 rw [List.set_append_right _ _ (by simp; omega), List.length_take, words16_len, show k - min k 16 = 0 by omega, show 64 - k = (64 - (k + 1)) + 1 by omega, List.replicate_succ, List.set_cons_zero, List.take_add_one,
  List.getElem?_eq_getElem (by rw [words16_len]; exact hk), List.append_assoc]
 simp [words16]
def BytesAt (w : World) (g o : Nat) (l : List UInt8) : Prop := g < w.heap.size ∧ ∀ j, j < l.length → w.cell? ⟨g, o + j, none⟩ = some (.int .u8 (vw (bw (l.getD j 0))))
theorem BytesAt.from {n : Nat} {w w' : World} {g o : Nat} {l : List UInt8} (h : BytesAt w g o l) (hB : Below n w w') (hn : g < n) (hz : w.heap.size ≤ w'.heap.size) : BytesAt w' g o l :=
 ⟨Nat.lt_of_lt_of_le h.1 hz, fun j hj => (hB.cell (p := ⟨g, o + j, none⟩) hn).trans (h.2 j hj)⟩

theorem spread_calls (g o c : Nat) (l : List UInt8) (hl : l.length = 64) (w : World) (hb : BytesAt w g o l) (ho : o + 64 ≤ 9223372036854775807) (hc : 64 ≤ c) :
  Calls Tryz.prog 178 #[.slice (some ⟨g, o, none⟩) 64 c] w (Ret w (.agg (cw (moreW l 48)))) := by
 have HBA := Lib.hid hb
 have hgl := hb.1
 clear hb
 go_enter Tryz.func178, Tryz.ntmps178
 go_wp2_with fail
 go_loopw [4] (fun i wr => ∃ k : Nat, k ≤ 64 ∧ i = .int .i64 k ∧ Blk wr (w.heap.size + 1) 183 (cw (if k ≤ 16 then headW l k else moreW l (k - 16))) ∧ Blk wr w.heap.size 183 (cw (List.replicate 64 0)) ∧ Below w.heap.size w wr ∧ w.heap.size + 1 < wr.heap.size)
  (fun i _ => (64 - intOf i).toNat)
 case atStart => exact ⟨0, by omega, rfl, by rw [if_pos (by omega)]; exact Blk.to (Blk.new1 _ _ _ _) rfl, Blk.to ((Blk.new0 _ _ _).alloc _) rfl, bel, by simp⟩
 case round =>
  obtain ⟨k, hk, rfl, K0, K1, HB, hz⟩ := hrel
  replace K1 := Lib.hid K1
  have hBA := HBA.out.from HB hgl (by have := HB.size; exact this)
  by_cases h16 : k < 16
  ·rw [if_pos (by omega)] at K0
   have b0 := hBA.2 (4 * k) (by omega)
   have b1 := hBA.2 (4 * k + 1) (by omega)
   have b2 := hBA.2 (4 * k + 2) (by omega)
   have b3 := hBA.2 (4 * k + 3) (by omega)
   have HN := headW_next l hl k h16
   have hc := cw_set (headW l k) k (bw (l.getD (4 * k) 0) <<< 24 ||| bw (l.getD (4 * k + 1) 0) <<< 16 ||| bw (l.getD (4 * k + 2) 0) <<< 8 ||| bw (l.getD (4 * k + 3) 0))
   rw [← HN] at hc
   have gk := cw_get (L := headW l k) (i := k) (by rw [headW_len l k (by omega)]; omega)
   have hgr := hBA.1
   clear HN hBA
   generalize l.getD (4 * k) 0 = x0 at *
   generalize l.getD (4 * k + 1) 0 = x1 at *
   generalize l.getD (4 * k + 2) 0 = x2 at *
   generalize l.getD (4 * k + 3) 0 = x3 at *
   have p0 := vw_nonneg (bw x0)
   have p1 := vw_nonneg (bw x1)
   have p2 := vw_nonneg (bw x2)
   have p3 := vw_nonneg (bw x3)
   have q0 := bw_lt x0
   have q1 := bw_lt x1
   have q2 := bw_lt x2
   have q3 := bw_lt x3
   have s0 : vw (bw x0) * 16777216 = vw (bw x0 <<< 24) := by have := shl_w' (bw x0) 24 16777216 rfl; omega
   have s1 : vw (bw x1) * 65536 = vw (bw x1 <<< 16) := by have := shl_w' (bw x1) 16 65536 rfl; omega
   have s2 : vw (bw x2) * 256 = vw (bw x2 <<< 8) := by have := shl_w' (bw x2) 8 256 rfl; omega
   generalize headW l k = L at *
   replace hc := Lib.hid hc
   replace K0 := Lib.hid K0
   (obtain ⟨k0, f0, l0, m0⟩ := rl_ K0; obtain ⟨k1, f1, l1, m1⟩ := rl_ K1)
   go_wp2_with fail
   (refine wp_region_later_tail 35 (by kernel_rfl) (by kernel_rfl) ?_; simp only [List.take_succ_cons, List.take_zero, List.drop_succ_cons, List.drop_zero]; (repeat (go_big_quiet_step (fail))); refine wpQuiet_nil ?_; intro w' hB)
   (replace HB : Below w.heap.size w w' := Below.on hB bel; replace K0 := hkJ K0.out hB; replace K1 := hkJ K1.out hB; (try simp only [sB, sC, sD] at K0 K1); clear k0 f0 l0 m0 k1 f1 l1 m1 hB; have HZw' := HB.size; obtain ⟨k0, f0, l0, m0⟩ := rl_ K0; obtain ⟨k1, f1, l1, m1⟩ := rl_ K1)
   go_wp2_with fail
   go_roundw
   case rel => exact ⟨k + 1, by omega, by go_num, by rw [if_pos (by omega), ← hc.out, ← or_w, ← or_w, ← or_w, ← s0, ← s1, ← s2]; exact K0.out.set_ _ _, K1.out.over (by simp), bel, by rw [size_set]; exact l0⟩
   case measure => simp [intOf]; omega
  ·obtain ⟨j, rfl⟩ : ∃ j, k = j + 16 := ⟨k - 16, by omega⟩
   have hj48 : j ≤ 48 := by omega
   have e0 : (if j + 16 ≤ 16 then headW l (j + 16) else moreW l (j + 16 - 16)) = moreW l j := by
    by_cases h0 : j = 0
    ·subst h0
     exact headW_all l
    ·rw [if_neg (by omega)]
     rfl
   rw [e0] at K0
   clear e0 hBA
   by_cases hlt : j < 48
   ·have HN := moreW_next l j hlt
    have hlen := moreW_len l j hj48
    have hc := cw_set (moreW l j) (j + 16) ((moreW l j).getD j 0 + (moreW l j).getD (j + 9) 0 + sig0 ((moreW l j).getD (j + 1) 0) + sig1 ((moreW l j).getD (j + 14) 0))
    rw [← HN] at hc
    have g0 := cw_get (L := moreW l j) (i := j) (by omega)
    have g9 := cw_get (L := moreW l j) (i := j + 9) (by omega)
    have g1 := cw_get (L := moreW l j) (i := j + 1) (by omega)
    have g14 := cw_get (L := moreW l j) (i := j + 14) (by omega)
    have g16 := cw_get (L := moreW l j) (i := j + 16) (by omega)
    clear HN hlen
    generalize (moreW l j).getD j 0 = x0 at *
    generalize (moreW l j).getD (j + 9) 0 = x9 at *
    generalize (moreW l j).getD (j + 1) 0 = x1 at *
    generalize (moreW l j).getD (j + 14) 0 = x14 at *
    generalize (moreW l j).getD (j + 16) 0 = x16 at *
    generalize moreW l j = L at *
    have g9' := g9
    rw [show j + 9 = j + 16 - 7 from rfl] at g9'
    have g1' := g1
    rw [show j + 1 = j + 16 - 15 from rfl] at g1'
    have g14' := g14
    rw [show j + 14 = j + 16 - 2 from rfl] at g14'
    replace hc := Lib.hid hc
    have e1 := shr_w x1 3 8 rfl
    have e2 := shr_w x14 10 1024 rfl
    replace K0 := Lib.hid K0
    (obtain ⟨k0, f0, l0, m0⟩ := rl_ K0; obtain ⟨k1, f1, l1, m1⟩ := rl_ K1)
    go_wp2_with fail
    refine (rturn_calls _ _ (by decide) _).mono ?_
    rintro e w1 ⟨rfl, h1⟩
    go_wp2_with fail
    refine (rturn_calls _ _ (by decide) _).mono ?_
    rintro e w2 ⟨rfl, h2⟩
    go_wp2_with fail
    refine (rturn_calls _ _ (by decide) _).mono ?_
    rintro e w3 ⟨rfl, h3⟩
    go_wp2_with fail
    refine (rturn_calls _ _ (by decide) _).mono ?_
    rintro e w4 ⟨rfl, h4⟩
    have hB : Below wr.heap.size wr w4 := Below.on h4 (Below.on h3 (Below.on h2 h1))
    clear h1 h2 h3 h4
    (replace HB : Below w.heap.size w w4 := Below.on hB bel; replace K0 := hkJ K0.out hB; replace K1 := hkJ K1.out hB; (try simp only [sB, sC, sD] at K0 K1); clear k0 f0 l0 m0 k1 f1 l1 m1 hB; have HZw4 := HB.size; obtain ⟨k0, f0, l0, m0⟩ := rl_ K0; obtain ⟨k1, f1, l1, m1⟩ := rl_ K1)
    go_wp2_with fail
    have ea : x0 + (ror x1 7 ^^^ ror x1 18 ^^^ x1 >>> 3) + x9 + (ror x14 17 ^^^ ror x14 19 ^^^ x14 >>> 10) = x0 + x9 + sig0 x1 + sig1 x14 := by
     unfold sig0 sig1
     ac_rfl
    replace ea := Lib.hid ea
    (refine wp_region_later_tail 15 (by kernel_rfl) (by kernel_rfl) ?_; simp only [List.take_succ_cons, List.take_zero, List.drop_succ_cons, List.drop_zero]; (repeat (go_big_quiet_step (fail))); refine wpQuiet_nil ?_; intro w' hB)
    (replace HB : Below w.heap.size w w' := Below.on hB bel; replace K0 := hkJ K0.out hB; replace K1 := hkJ K1.out hB; (try simp only [sB, sC, sD] at K0 K1); clear k0 f0 l0 m0 k1 f1 l1 m1 hB; have HZw' := HB.size; obtain ⟨k0, f0, l0, m0⟩ := rl_ K0; obtain ⟨k1, f1, l1, m1⟩ := rl_ K1)
    go_wp2_with fail
    rw [ea.out]
    go_roundw
    case rel => exact ⟨j + 1 + 16, by omega, by congr 1 <;> omega, by rw [if_neg (by omega), show j + 1 + 16 - 16 = j + 1 by omega, ← hc.out]; exact K0.out.set_ _ _, K1.out.over (by simp), bel, by rw [size_set]; exact l0⟩
    case measure => simp [intOf]; omega
   ·obtain rfl : j = 48 := by omega
    simp only [show ((48 + 16 : Nat) : Int) = 64 from rfl]
    replace K0 := Lib.hid K0
    have hsz := (cw_size (moreW l 48)).trans (moreW_len l 48 (by decide))
    have HSZ := Lib.hid hsz
    clear hsz
    go_wp2_with (first
     | (with_reducible refine wpList_load_row' (o := ⟨some 89, _, _, _, _, _⟩) K0.out Tryz.underlying183 rfl ?hi rfl _ rfl rfl ?_)
     | (with_reducible refine wpList_store_blk (o := ⟨none, .store 183 _ _, _, _, _, _⟩) K1.out rfl _ _ rfl rfl rfl ?hs ?hi2 (cw_one _) ?_))
    case hi => rw [HSZ.out]; kernel_rfl
    case hs => rw [HSZ.out]; simp [cw]
    case hi2 => rw [HSZ.out]; kernel_rfl
    refine bodyPost_ret (results_cell_row rfl _ _ w.heap.size _ _ _ _ rfl (Blk.row K1.out.lt) Tryz.underlying183 rfl (by rw [HSZ.out]; kernel_rfl)) rfl ⟨rfl, Below.row HB (Nat.le_refl _) HB.size⟩
theorem ch_eq (e f g : Wd) : e &&& f ^^^ ~~~e &&& g = chf e f g := by
 unfold chf
 ext i hi
 simp
 cases e[i] <;> cases f[i] <;> cases g[i] <;> rfl
theorem maj_eq (a b c : Wd) : a &&& b ^^^ a &&& c ^^^ b &&& c = maj a b c := by
 unfold maj
 ext i hi
 simp
 cases a[i] <;> cases b[i] <;> cases c[i] <;> rfl
theorem words_calls (w : World) : Calls Tryz.prog 179 #[] w (Ret w (.agg (cw kTab))) := by
 go_enter Tryz.func179, Tryz.ntmps179
 go_wp2_with (first
  | (with_reducible refine wpList_store_blk (o := ⟨none, .store 183 _ _, _, _, _, _⟩) (Blk.new0 _ _ _) rfl _ _ rfl rfl rfl ?hs ?hi2 ?h1 ?_))
 case hs => kernel_rfl
 case hi2 => kernel_rfl
 case h1 => kernel_rfl
 refine bodyPost_ret (results_cell_row rfl _ _ w.heap.size _ _ _ _ rfl (Blk.row (by simp)) Tryz.underlying183 rfl (by kernel_rfl)) rfl ⟨?_, Below.row bel (Nat.le_refl _) (by simp)⟩
 kernel_rfl
theorem blk_over8 {w : World} {g b : Nat} {t : TypeId} {cs : Array Value} (hn : g ≠ b) (x0 x1 x2 x3 x4 x5 x6 x7 : Value) (h : Blk w g t cs) : Blk ((((((((w.setCell ⟨b, 0, none⟩ x0).setCell ⟨b, 1, none⟩ x1).setCell ⟨b, 2, none⟩ x2).setCell ⟨b, 3, none⟩ x3).setCell ⟨b, 4, none⟩ x4).setCell ⟨b, 5, none⟩ x5).setCell ⟨b, 6, none⟩ x6).setCell ⟨b, 7, none⟩ x7) g t cs :=
 Blk.over2 hn (Blk.over2 hn (Blk.over2 hn (Blk.over2 hn (Blk.over2 hn (Blk.over2 hn (Blk.over2 hn (Blk.over2 hn (h))))))))
theorem blk_put8 {w : World} {b : Nat} {t : TypeId} {y0 y1 y2 y3 y4 y5 y6 y7 : Value} (x0 x1 x2 x3 x4 x5 x6 x7 : Value) (h : Blk w b t #[y0, y1, y2, y3, y4, y5, y6, y7]) : Blk ((((((((w.setCell ⟨b, 0, none⟩ x0).setCell ⟨b, 1, none⟩ x1).setCell ⟨b, 2, none⟩ x2).setCell ⟨b, 3, none⟩ x3).setCell ⟨b, 4, none⟩ x4).setCell ⟨b, 5, none⟩ x5).setCell ⟨b, 6, none⟩ x6).setCell ⟨b, 7, none⟩ x7) b t #[x0, x1, x2, x3, x4, x5, x6, x7] := by
 have := ((((((((h.set_ 0 x0).set_ 1 x1).set_ 2 x2).set_ 3 x3).set_ 4 x4).set_ 5 x5).set_ 6 x6).set_ 7 x7)
 simpa using this
theorem below_put8 {n : Nat} {w0 w : World} {b : Nat} (hb : n ≤ b) (x0 x1 x2 x3 x4 x5 x6 x7 : Value) (h : Below n w0 w) : Below n w0 ((((((((w.setCell ⟨b, 0, none⟩ x0).setCell ⟨b, 1, none⟩ x1).setCell ⟨b, 2, none⟩ x2).setCell ⟨b, 3, none⟩ x3).setCell ⟨b, 4, none⟩ x4).setCell ⟨b, 5, none⟩ x5).setCell ⟨b, 6, none⟩ x6).setCell ⟨b, 7, none⟩ x7) :=
 ((((((((h.setCell (p := ⟨b, 0, none⟩) hb x0).setCell (p := ⟨b, 1, none⟩) hb x1).setCell (p := ⟨b, 2, none⟩) hb x2).setCell (p := ⟨b, 3, none⟩) hb x3).setCell (p := ⟨b, 4, none⟩) hb x4).setCell (p := ⟨b, 5, none⟩) hb x5).setCell (p := ⟨b, 6, none⟩) hb x6).setCell (p := ⟨b, 7, none⟩) hb x7)
@[go_sem] theorem not_w (x : Wd) : bits .xor .u32 (if IntKind.u32.signed = true then -1 else IntKind.u32.max) (vw x) = vw (~~~x) := by
 rw [show (if IntKind.u32.signed = true then -1 else IntKind.u32.max : Int) = vw (BitVec.allOnes 32) from by decide, xor_w, BitVec.allOnes_xor]
theorem rtake_calls (v : St) (g o c : Nat) (l : List UInt8) (hl : l.length = 64) (w : World) (hb : BytesAt w g o l) (ho : o + 64 ≤ 9223372036854775807) (hc : 64 ≤ c) :
  Calls Tryz.prog 139 #[.agg (cS v), .slice (some ⟨g, o, none⟩) 64 c] w (Ret w (.agg (cS (takeB v l)))) := by
 have hTB : takeB v l = v.add (roundW v (moreW l 48) 64) := by
  rw [roundW_all _ _ (moreW_len l 48 (by decide)), moreW_all]
  rfl
 rw [hTB]
 clear hTB
 have hML := moreW_len l 48 (by decide)
 have HSP := fun W => Lib.hid (spread_calls g o c l hl W)
 have HBA := Lib.hid hb
 have hgl := hb.1
 clear hb
 unfold cS
 go_enter Tryz.func139, Tryz.ntmps139
 go_wp2_with fail
 refine (HSP _).out (HBA.out.from (n := w.heap.size) bel hgl (by simp; omega)) ho hc |>.mono ?_
 rintro e w1 ⟨rfl, hB⟩
 clear HSP HBA
 (replace HB : Below w.heap.size w w1 := Below.on hB bel; replace K0 := hb_ (g := w.heap.size) blJ hB; replace K1 := hb_ (g := w.heap.size + 1) blJ hB; (try simp only [sB, sC, sD] at K0 K1); clear hB; have HZw1 := HB.size; obtain ⟨k0, f0, l0, m0⟩ := rl_ K0; obtain ⟨k1, f1, l1, m1⟩ := rl_ K1)
 have hz1 := l1
 go_wp2_with (first
  | (with_reducible refine wpList_store_new (o := ⟨none, .store 183 _ _, _, _, _, _⟩) rfl _ _ rfl rfl rfl ?hs1 ?hi1 (cw_one _) ?_)
  | fail)
 case hs1 => rw [cw_size, hML]; kernel_rfl
 case hi1 => rw [cw_size, hML]; kernel_rfl
 go_wp2_with fail
 refine (words_calls _).mono ?_
 rintro e w2 ⟨rfl, hB⟩
 (replace HB : Below w.heap.size w w2 := Below.on hB bel; replace K0 := hkJ K0.out hB; replace K1 := hkJ K1.out hB; replace K2 := hb_ (g := w1.heap.size) blJ hB; (try simp only [sB, sC, sD] at K0 K1 K2); clear k0 f0 l0 m0 k1 f1 l1 m1 hB; have HZw2 := HB.size; obtain ⟨k0, f0, l0, m0⟩ := rl_ K0; obtain ⟨k1, f1, l1, m1⟩ := rl_ K1; obtain ⟨k2, f2, l2, m2⟩ := rl_ K2)
 go_wp2_with (first
  | (with_reducible refine wpList_store_new (o := ⟨none, .store 183 _ _, _, _, _, _⟩) rfl _ _ rfl rfl rfl ?hs2 ?hi2 (cw_one _) ?_)
  | fail)
 case hs2 => kernel_rfl
 case hi2 => kernel_rfl
 go_wp2_with fail
 have hz2 : w1.heap.size < w2.heap.size := l2
 have K3 := Lib.hid (show Blk ((w2.alloc (.cells (cw kTab) 183)).alloc (.cells #[.int .u32 (vw v.a), .int .u32 (vw v.b), .int .u32 (vw v.c), .int .u32 (vw v.d), .int .u32 (vw v.e), .int .u32 (vw v.f), .int .u32 (vw v.g), .int .u32 (vw v.h)] 151)) w2.heap.size 183 (cw kTab) from (Blk.new0 _ _ _).alloc _)
 have K4 := Lib.hid (Blk.new1 w2 (.cells (cw kTab) 183) 151 #[.int .u32 (vw v.a), .int .u32 (vw v.b), .int .u32 (vw v.c), .int .u32 (vw v.d), .int .u32 (vw v.e), .int .u32 (vw v.f), .int .u32 (vw v.g), .int .u32 (vw v.h)])
 replace K0 := Lib.hid ((K0.out.alloc (.cells (cw kTab) 183)).alloc (.cells #[.int .u32 (vw v.a), .int .u32 (vw v.b), .int .u32 (vw v.c), .int .u32 (vw v.d), .int .u32 (vw v.e), .int .u32 (vw v.f), .int .u32 (vw v.g), .int .u32 (vw v.h)] 151))
 replace K1 := Lib.hid ((K1.out.alloc (.cells (cw kTab) 183)).alloc (.cells #[.int .u32 (vw v.a), .int .u32 (vw v.b), .int .u32 (vw v.c), .int .u32 (vw v.d), .int .u32 (vw v.e), .int .u32 (vw v.f), .int .u32 (vw v.g), .int .u32 (vw v.h)] 151))
 replace K2 := Lib.hid ((K2.out.alloc (.cells (cw kTab) 183)).alloc (.cells #[.int .u32 (vw v.a), .int .u32 (vw v.b), .int .u32 (vw v.c), .int .u32 (vw v.d), .int .u32 (vw v.e), .int .u32 (vw v.f), .int .u32 (vw v.g), .int .u32 (vw v.h)] 151))
 have HB3 : Below w.heap.size w ((w2.alloc (.cells (cw kTab) 183)).alloc (.cells #[.int .u32 (vw v.a), .int .u32 (vw v.b), .int .u32 (vw v.c), .int .u32 (vw v.d), .int .u32 (vw v.e), .int .u32 (vw v.f), .int .u32 (vw v.g), .int .u32 (vw v.h)] 151)) := bel
 clear HB HZw1 HZw2 k0 k1 k2 f0 f1 f2 l0 l1 l2 m0 m1 m2
 generalize ((w2.alloc (.cells (cw kTab) 183)).alloc (.cells #[.int .u32 (vw v.a), .int .u32 (vw v.b), .int .u32 (vw v.c), .int .u32 (vw v.d), .int .u32 (vw v.e), .int .u32 (vw v.f), .int .u32 (vw v.g), .int .u32 (vw v.h)] 151)) = W at K0 K1 K2 K3 K4 HB3 ⊢
 obtain ⟨b2, hb2⟩ : ∃ b2, w1.heap.size = b2 := ⟨_, rfl⟩
 obtain ⟨b3, hb3⟩ : ∃ b3, w2.heap.size = b3 := ⟨_, rfl⟩
 rw [hb2] at hz1 hz2 K2 ⊢
 rw [hb3] at hz2 K3 K4 ⊢
 clear hb2 hb3
 have HR := fun k hk => roundW_succ v (moreW l 48) hML k hk
 have hg := fun (i : Nat) (hi : i < 64) => cw_get (L := moreW l 48) (i := i) (by omega)
 have hgk := fun (i : Nat) (hi : i < 64) => cw_get (L := kTab) (i := i) hi
 generalize moreW l 48 = L at *
 go_loopw [8] (fun i wr => ∃ (k : Nat) (u : St), k ≤ 64 ∧ u = roundW v L k ∧ i = .int .i64 k ∧ Blk wr (b3 + 1) 151 (cS u) ∧ Blk wr b2 183 (cw L) ∧ Blk wr b3 183 (cw kTab) ∧ Blk wr w.heap.size 151 (cS v) ∧
   Blk wr (w.heap.size + 1) 151 #[.int .u32 0, .int .u32 0, .int .u32 0, .int .u32 0, .int .u32 0, .int .u32 0, .int .u32 0, .int .u32 0] ∧ Below w.heap.size w wr) (fun i _ => (64 - intOf i).toNat)
 case atStart => exact ⟨0, v, by omega, rfl, rfl, K4.out, K2.out, K3.out, K0.out, K1.out, HB3⟩
 case round =>
  clear K0 K1 K2 K3 K4 HB3
  obtain ⟨k, u, hk, hu, rfl, K4, K2, K3, K0, K1, HB⟩ := hrel
  replace K0 := Lib.hid K0
  replace K1 := Lib.hid K1
  replace K2 := Lib.hid K2
  replace K3 := Lib.hid K3
  unfold cS at K4
  replace K4 := Lib.hid K4
  by_cases hlt : k < 64
  ·have HS := HR k hlt
   rw [← hu] at HS
   have e2 := hg k hlt
   have e3 := hgk k hlt
   clear HR hg hgk hu hML
   generalize L.getD k 0 = y at *
   generalize kTab.getD k 0 = kk at *
   replace HS := Lib.hid HS
   (obtain ⟨k0, f0, l0, m0⟩ := rl_ K0; obtain ⟨k1, f1, l1, m1⟩ := rl_ K1; obtain ⟨k2, f2, l2, m2⟩ := rl_ K2; obtain ⟨k3, f3, l3, m3⟩ := rl_ K3; obtain ⟨k4, f4, l4, m4⟩ := rl_ K4)
   go_wp2_with fail
   (refine wp_region_later (by kernel_rfl) (by kernel_rfl) ?_; (repeat (go_big_quiet_step ((go_at_call 180; exact lq (rturn_calls _ _ (by decide) _))))); refine wpQuiet_nil ?_; intro w' hB)
   have c1 := ch_eq u.e u.f u.g
   have c2 := maj_eq u.a u.b u.c
   replace c1 := Lib.hid c1
   replace c2 := Lib.hid c2
   (replace HB : Below w.heap.size w w' := Below.on hB bel; replace K0 := hkJ K0.out hB; replace K1 := hkJ K1.out hB; replace K2 := hkJ K2.out hB; replace K3 := hkJ K3.out hB; replace K4 := hkJ K4.out hB; (try simp only [sB, sC, sD] at K0 K1 K2 K3 K4); clear k0 f0 l0 m0 k1 f1 l1 m1 k2 f2 l2 m2 k3 f3 l3 m3 k4 f4 l4 m4 hB; have HZw' := HB.size; obtain ⟨k0, f0, l0, m0⟩ := rl_ K0; obtain ⟨k1, f1, l1, m1⟩ := rl_ K1; obtain ⟨k2, f2, l2, m2⟩ := rl_ K2; obtain ⟨k3, f3, l3, m3⟩ := rl_ K3; obtain ⟨k4, f4, l4, m4⟩ := rl_ K4)
   go_wp2_with fail
   (refine wp_region_later (by kernel_rfl) (by kernel_rfl) ?_; (repeat (go_big_quiet_step ((go_at_call 180; exact lq (rturn_calls _ _ (by decide) _))))); refine wpQuiet_nil ?_; intro w' hB)
   (replace HB : Below w.heap.size w w' := Below.on hB bel; replace K0 := hkJ K0.out hB; replace K1 := hkJ K1.out hB; replace K2 := hkJ K2.out hB; replace K3 := hkJ K3.out hB; replace K4 := hkJ K4.out hB; (try simp only [sB, sC, sD] at K0 K1 K2 K3 K4); clear k0 f0 l0 m0 k1 f1 l1 m1 k2 f2 l2 m2 k3 f3 l3 m3 k4 f4 l4 m4 hB; have HZw' := HB.size; obtain ⟨k0, f0, l0, m0⟩ := rl_ K0; obtain ⟨k1, f1, l1, m1⟩ := rl_ K1; obtain ⟨k2, f2, l2, m2⟩ := rl_ K2; obtain ⟨k3, f3, l3, m3⟩ := rl_ K3; obtain ⟨k4, f4, l4, m4⟩ := rl_ K4)
   go_wp2_with fail
   rw [c1.out, c2.out]
   go_roundw
   case rel => exact ⟨k + 1, rnd u kk y, by omega, HS.out.symm, by go_num, blk_put8 _ _ _ _ _ _ _ _ K4.out, blk_over8 (by omega) _ _ _ _ _ _ _ _ K2.out, blk_over8 (by omega) _ _ _ _ _ _ _ _ K3.out, blk_over8 (by omega) _ _ _ _ _ _ _ _ K0.out, blk_over8 (by omega) _ _ _ _ _ _ _ _ K1.out, below_put8 (by omega) _ _ _ _ _ _ _ _ HB⟩
   case measure => simp [intOf]; omega
  ·obtain rfl : k = 64 := by omega
   have HU := Lib.hid hu
   clear hu HR hg hgk K2 K3
   simp only [show ((64 : Nat) : Int) = 64 from rfl]
   unfold cS at K0
   replace K0 := Lib.hid K0.out
   go_wp2_with fail
   refine wp_loop_rounds 9 ?_
   rw [rounds_succ]
   (obtain ⟨k0, f0, l0, m0⟩ := rl_ K0; obtain ⟨k4, f4, l4, m4⟩ := rl_ K4)
   go_wp2_with fail
   (refine wp_region_later_tail 9 (by kernel_rfl) (by kernel_rfl) ?_; simp only [List.take_succ_cons, List.take_zero, List.drop_succ_cons, List.drop_zero]; (repeat (go_big_quiet_step (fail))); refine wpQuiet_nil ?_; intro w' hB)
   clear k0 f0 l0 m0 k4 f4 l4 m4
   replace K0 := Lib.hid (K0.out.below hB)
   replace K4 := Lib.hid (K4.out.below hB)
   replace K1 := Lib.hid (K1.out.below hB)
   replace HB := Below.on hB HB
   clear hB
   (obtain ⟨k0, f0, l0, m0⟩ := rl_ K0)
   go_wp2_with fail
   clear k0 f0 l0 m0
   replace K0 := Lib.hid (K0.out.set_ 0 (.int .u32 (vw (v.a + u.a))))
   replace K4 := Lib.hid (K4.out.over2 (b := w.heap.size) (i := 0) (u := .int .u32 (vw (v.a + u.a))) (by omega))
   replace K1 := Lib.hid (K1.out.over2 (b := w.heap.size) (i := 0) (u := .int .u32 (vw (v.a + u.a))) (by omega))
   replace HB := HB.setCell (p := ⟨w.heap.size, 0, none⟩) (Nat.le_refl _) (.int .u32 (vw (v.a + u.a)))
   simp only [sB, sC, sD] at K0
   generalize w'.setCell ⟨w.heap.size, 0, none⟩ (.int .u32 (vw (v.a + u.a))) = v0 at K0 K1 K4 HB ⊢
   rw [rounds_succ]
   (obtain ⟨k0, f0, l0, m0⟩ := rl_ K0; obtain ⟨k4, f4, l4, m4⟩ := rl_ K4)
   go_wp2_with fail
   (refine wp_region_later_tail 9 (by kernel_rfl) (by kernel_rfl) ?_; simp only [List.take_succ_cons, List.take_zero, List.drop_succ_cons, List.drop_zero]; (repeat (go_big_quiet_step (fail))); refine wpQuiet_nil ?_; intro w' hB)
   clear k0 f0 l0 m0 k4 f4 l4 m4
   replace K0 := Lib.hid (K0.out.below hB)
   replace K4 := Lib.hid (K4.out.below hB)
   replace K1 := Lib.hid (K1.out.below hB)
   replace HB := Below.on hB HB
   clear hB
   (obtain ⟨k0, f0, l0, m0⟩ := rl_ K0)
   go_wp2_with fail
   clear k0 f0 l0 m0
   replace K0 := Lib.hid (K0.out.set_ 1 (.int .u32 (vw (v.b + u.b))))
   replace K4 := Lib.hid (K4.out.over2 (b := w.heap.size) (i := 1) (u := .int .u32 (vw (v.b + u.b))) (by omega))
   replace K1 := Lib.hid (K1.out.over2 (b := w.heap.size) (i := 1) (u := .int .u32 (vw (v.b + u.b))) (by omega))
   replace HB := HB.setCell (p := ⟨w.heap.size, 1, none⟩) (Nat.le_refl _) (.int .u32 (vw (v.b + u.b)))
   simp only [sB, sC, sD] at K0
   generalize w'.setCell ⟨w.heap.size, 1, none⟩ (.int .u32 (vw (v.b + u.b))) = v1 at K0 K1 K4 HB ⊢
   rw [rounds_succ]
   (obtain ⟨k0, f0, l0, m0⟩ := rl_ K0; obtain ⟨k4, f4, l4, m4⟩ := rl_ K4)
   go_wp2_with fail
   (refine wp_region_later_tail 9 (by kernel_rfl) (by kernel_rfl) ?_; simp only [List.take_succ_cons, List.take_zero, List.drop_succ_cons, List.drop_zero]; (repeat (go_big_quiet_step (fail))); refine wpQuiet_nil ?_; intro w' hB)
   clear k0 f0 l0 m0 k4 f4 l4 m4
   replace K0 := Lib.hid (K0.out.below hB)
   replace K4 := Lib.hid (K4.out.below hB)
   replace K1 := Lib.hid (K1.out.below hB)
   replace HB := Below.on hB HB
   clear hB
   (obtain ⟨k0, f0, l0, m0⟩ := rl_ K0)
   go_wp2_with fail
   clear k0 f0 l0 m0
   replace K0 := Lib.hid (K0.out.set_ 2 (.int .u32 (vw (v.c + u.c))))
   replace K4 := Lib.hid (K4.out.over2 (b := w.heap.size) (i := 2) (u := .int .u32 (vw (v.c + u.c))) (by omega))
   replace K1 := Lib.hid (K1.out.over2 (b := w.heap.size) (i := 2) (u := .int .u32 (vw (v.c + u.c))) (by omega))
   replace HB := HB.setCell (p := ⟨w.heap.size, 2, none⟩) (Nat.le_refl _) (.int .u32 (vw (v.c + u.c)))
   simp only [sB, sC, sD] at K0
   generalize w'.setCell ⟨w.heap.size, 2, none⟩ (.int .u32 (vw (v.c + u.c))) = v2 at K0 K1 K4 HB ⊢
   rw [rounds_succ]
   (obtain ⟨k0, f0, l0, m0⟩ := rl_ K0; obtain ⟨k4, f4, l4, m4⟩ := rl_ K4)
   go_wp2_with fail
   (refine wp_region_later_tail 9 (by kernel_rfl) (by kernel_rfl) ?_; simp only [List.take_succ_cons, List.take_zero, List.drop_succ_cons, List.drop_zero]; (repeat (go_big_quiet_step (fail))); refine wpQuiet_nil ?_; intro w' hB)
   clear k0 f0 l0 m0 k4 f4 l4 m4
   replace K0 := Lib.hid (K0.out.below hB)
   replace K4 := Lib.hid (K4.out.below hB)
   replace K1 := Lib.hid (K1.out.below hB)
   replace HB := Below.on hB HB
   clear hB
   (obtain ⟨k0, f0, l0, m0⟩ := rl_ K0)
   go_wp2_with fail
   clear k0 f0 l0 m0
   replace K0 := Lib.hid (K0.out.set_ 3 (.int .u32 (vw (v.d + u.d))))
   replace K4 := Lib.hid (K4.out.over2 (b := w.heap.size) (i := 3) (u := .int .u32 (vw (v.d + u.d))) (by omega))
   replace K1 := Lib.hid (K1.out.over2 (b := w.heap.size) (i := 3) (u := .int .u32 (vw (v.d + u.d))) (by omega))
   replace HB := HB.setCell (p := ⟨w.heap.size, 3, none⟩) (Nat.le_refl _) (.int .u32 (vw (v.d + u.d)))
   simp only [sB, sC, sD] at K0
   generalize w'.setCell ⟨w.heap.size, 3, none⟩ (.int .u32 (vw (v.d + u.d))) = v3 at K0 K1 K4 HB ⊢
   rw [rounds_succ]
   (obtain ⟨k0, f0, l0, m0⟩ := rl_ K0; obtain ⟨k4, f4, l4, m4⟩ := rl_ K4)
   go_wp2_with fail
   (refine wp_region_later_tail 9 (by kernel_rfl) (by kernel_rfl) ?_; simp only [List.take_succ_cons, List.take_zero, List.drop_succ_cons, List.drop_zero]; (repeat (go_big_quiet_step (fail))); refine wpQuiet_nil ?_; intro w' hB)
   clear k0 f0 l0 m0 k4 f4 l4 m4
   replace K0 := Lib.hid (K0.out.below hB)
   replace K4 := Lib.hid (K4.out.below hB)
   replace K1 := Lib.hid (K1.out.below hB)
   replace HB := Below.on hB HB
   clear hB
   (obtain ⟨k0, f0, l0, m0⟩ := rl_ K0)
   go_wp2_with fail
   clear k0 f0 l0 m0
   replace K0 := Lib.hid (K0.out.set_ 4 (.int .u32 (vw (v.e + u.e))))
   replace K4 := Lib.hid (K4.out.over2 (b := w.heap.size) (i := 4) (u := .int .u32 (vw (v.e + u.e))) (by omega))
   replace K1 := Lib.hid (K1.out.over2 (b := w.heap.size) (i := 4) (u := .int .u32 (vw (v.e + u.e))) (by omega))
   replace HB := HB.setCell (p := ⟨w.heap.size, 4, none⟩) (Nat.le_refl _) (.int .u32 (vw (v.e + u.e)))
   simp only [sB, sC, sD] at K0
   generalize w'.setCell ⟨w.heap.size, 4, none⟩ (.int .u32 (vw (v.e + u.e))) = v4 at K0 K1 K4 HB ⊢
   rw [rounds_succ]
   (obtain ⟨k0, f0, l0, m0⟩ := rl_ K0; obtain ⟨k4, f4, l4, m4⟩ := rl_ K4)
   go_wp2_with fail
   (refine wp_region_later_tail 9 (by kernel_rfl) (by kernel_rfl) ?_; simp only [List.take_succ_cons, List.take_zero, List.drop_succ_cons, List.drop_zero]; (repeat (go_big_quiet_step (fail))); refine wpQuiet_nil ?_; intro w' hB)
   clear k0 f0 l0 m0 k4 f4 l4 m4
   replace K0 := Lib.hid (K0.out.below hB)
   replace K4 := Lib.hid (K4.out.below hB)
   replace K1 := Lib.hid (K1.out.below hB)
   replace HB := Below.on hB HB
   clear hB
   (obtain ⟨k0, f0, l0, m0⟩ := rl_ K0)
   go_wp2_with fail
   clear k0 f0 l0 m0
   replace K0 := Lib.hid (K0.out.set_ 5 (.int .u32 (vw (v.f + u.f))))
   replace K4 := Lib.hid (K4.out.over2 (b := w.heap.size) (i := 5) (u := .int .u32 (vw (v.f + u.f))) (by omega))
   replace K1 := Lib.hid (K1.out.over2 (b := w.heap.size) (i := 5) (u := .int .u32 (vw (v.f + u.f))) (by omega))
   replace HB := HB.setCell (p := ⟨w.heap.size, 5, none⟩) (Nat.le_refl _) (.int .u32 (vw (v.f + u.f)))
   simp only [sB, sC, sD] at K0
   generalize w'.setCell ⟨w.heap.size, 5, none⟩ (.int .u32 (vw (v.f + u.f))) = v5 at K0 K1 K4 HB ⊢
   rw [rounds_succ]
   (obtain ⟨k0, f0, l0, m0⟩ := rl_ K0; obtain ⟨k4, f4, l4, m4⟩ := rl_ K4)
   go_wp2_with fail
   (refine wp_region_later_tail 9 (by kernel_rfl) (by kernel_rfl) ?_; simp only [List.take_succ_cons, List.take_zero, List.drop_succ_cons, List.drop_zero]; (repeat (go_big_quiet_step (fail))); refine wpQuiet_nil ?_; intro w' hB)
   clear k0 f0 l0 m0 k4 f4 l4 m4
   replace K0 := Lib.hid (K0.out.below hB)
   replace K4 := Lib.hid (K4.out.below hB)
   replace K1 := Lib.hid (K1.out.below hB)
   replace HB := Below.on hB HB
   clear hB
   (obtain ⟨k0, f0, l0, m0⟩ := rl_ K0)
   go_wp2_with fail
   clear k0 f0 l0 m0
   replace K0 := Lib.hid (K0.out.set_ 6 (.int .u32 (vw (v.g + u.g))))
   replace K4 := Lib.hid (K4.out.over2 (b := w.heap.size) (i := 6) (u := .int .u32 (vw (v.g + u.g))) (by omega))
   replace K1 := Lib.hid (K1.out.over2 (b := w.heap.size) (i := 6) (u := .int .u32 (vw (v.g + u.g))) (by omega))
   replace HB := HB.setCell (p := ⟨w.heap.size, 6, none⟩) (Nat.le_refl _) (.int .u32 (vw (v.g + u.g)))
   simp only [sB, sC, sD] at K0
   generalize w'.setCell ⟨w.heap.size, 6, none⟩ (.int .u32 (vw (v.g + u.g))) = v6 at K0 K1 K4 HB ⊢
   rw [rounds_succ]
   (obtain ⟨k0, f0, l0, m0⟩ := rl_ K0; obtain ⟨k4, f4, l4, m4⟩ := rl_ K4)
   go_wp2_with fail
   (refine wp_region_later_tail 9 (by kernel_rfl) (by kernel_rfl) ?_; simp only [List.take_succ_cons, List.take_zero, List.drop_succ_cons, List.drop_zero]; (repeat (go_big_quiet_step (fail))); refine wpQuiet_nil ?_; intro w' hB)
   clear k0 f0 l0 m0 k4 f4 l4 m4
   replace K0 := Lib.hid (K0.out.below hB)
   replace K4 := Lib.hid (K4.out.below hB)
   replace K1 := Lib.hid (K1.out.below hB)
   replace HB := Below.on hB HB
   clear hB
   (obtain ⟨k0, f0, l0, m0⟩ := rl_ K0)
   go_wp2_with fail
   clear k0 f0 l0 m0
   replace K0 := Lib.hid (K0.out.set_ 7 (.int .u32 (vw (v.h + u.h))))
   replace K4 := Lib.hid (K4.out.over2 (b := w.heap.size) (i := 7) (u := .int .u32 (vw (v.h + u.h))) (by omega))
   replace K1 := Lib.hid (K1.out.over2 (b := w.heap.size) (i := 7) (u := .int .u32 (vw (v.h + u.h))) (by omega))
   replace HB := HB.setCell (p := ⟨w.heap.size, 7, none⟩) (Nat.le_refl _) (.int .u32 (vw (v.h + u.h)))
   simp only [sB, sC, sD] at K0
   generalize w'.setCell ⟨w.heap.size, 7, none⟩ (.int .u32 (vw (v.h + u.h))) = v7 at K0 K1 K4 HB ⊢
   rw [rounds_succ]
   (obtain ⟨k0, f0, l0, m0⟩ := rl_ K0; obtain ⟨k1, f1, l1, m1⟩ := rl_ K1)
   go_wp2_with fail
   refine bodyPost_ret (results_cell_row rfl _ _ (w.heap.size + 1) _ _ _ _ rfl (blk_put8 _ _ _ _ _ _ _ _ K1.out) Tryz.underlying151 rfl (by kernel_rfl)) rfl ⟨by rw [← HU.out]; rfl, below_put8 (by omega) _ _ _ _ _ _ _ _ HB⟩
theorem infoU8 : (Tryz.prog.info? 5).map (fun i => (i.zero, i.size, i.bytes)) = some (some (.int .u8 0), 1, 1) := by kernel_rfl
def Gave (w : World) (l : List UInt8) (e : Ending) (w' : World) : Prop := ∃ g cap, e = .returned (.slice (some ⟨g, 0, none⟩) l.length cap) ∧ OwnX w' w.heap.size 5 (.slice (some ⟨g, 0, none⟩) l.length cap) l.length (l.map bv) ∧ Below w.heap.size w w'
def pad0 (l : List UInt8) (k : Nat) : List UInt8 := l ++ 128 :: List.replicate k 0
theorem pad0_len (l : List UInt8) (k : Nat) : (pad0 l k).length = l.length + 1 + k := by simp [pad0]; omega
theorem pad0_succ (l : List UInt8) (k : Nat) : pad0 l (k + 1) = pad0 l k ++ [0] := by unfold pad0; rw [List.replicate_succ']; simp

theorem padded_calls (l : List UInt8) (hl : l.length ≤ 100000000000000) (w : World) : Calls Tryz.prog 138 #[.string (bs l)] w (Gave w (padS l)) := by
 obtain ⟨i0, hi, hz0, hz1, hz2⟩ := info_parts infoU8
 go_enter Tryz.func138, Tryz.ntmps138
 go_wp2_with (at_builtin; refine wpList_append_X rfl _ _ 108 rfl w.heap.size 5 i0 (.int .u8 0) Tryz.underlying108 hi hz0 hz1 hz2 rfl _ _ _ rfl ((txt_own w l _ (Nat.le_refl _) (by omega)).alloc _) ⟨_, 0, none⟩ 1 1 [.int .u8 128] rfl rfl (news1 _ _ _) (by simp [Value.oneCell']) (by omega) (by simp [txtCells]; omega) ?_)
 intro v1 w1 hown hg
 have H1 : HoldsX w w1 v1 (pad0 l 0) := HoldsX.step (q := l) 128 ⟨txt_own w l _ (Nat.le_refl _) (by omega), txt_below _ _⟩ rfl hown hg
 clear hown hg
 obtain ⟨c, hc⟩ : ∃ c, (119 - l.length % 64) % 64 = c := ⟨_, rfl⟩
 have hc1 : c < 64 := by omega
 have hcm : ∀ k, k ≤ c → ((l.length + 1 + k) % 64 = 56 ↔ k = c) := fun k hk => by omega
 have HC := Lib.hid hc
 have HCM := Lib.hid hcm
 clear hc hcm
 go_wp2_with fail
 go_loopw [3] (fun v wr => ∃ k : Nat, k ≤ c ∧ HoldsX w wr v (pad0 l k)) (fun v _ => match v with | .slice _ n _ => l.length + 65 - n | _ => 0)
 case atStart => exact ⟨0, by omega, H1⟩
 case round =>
  clear H1
  obtain ⟨k, hk, H⟩ := hrel
  obtain ⟨g, cap, rfl, hbg, hgl, hnc, hcm, hcell⟩ := H.own.form
  have hlen := pad0_len l k
  have hiff := HCM.out k hk
  rw [← hlen] at hiff
  by_cases hlt : k < c
  ·have t1 : (((pad0 l k).length : Int) % 64 == 56) = false := by rw [beq_eq_false_iff_ne]; omega
   have t2 : (((pad0 l k).length : Int) % 64 != 56) = true := by rw [bne_iff_ne]; omega
   have hml : (pad0 l k).length ≤ 100000000000100 := by omega
   have HLEN := Lib.hid hlen
   clear hlen hiff hcell hcm hnc
   go_wp2_with (at_builtin; refine wpList_append_X rfl _ _ 108 rfl w.heap.size 5 i0 (.int .u8 0) Tryz.underlying108 hi hz0 hz1 hz2 rfl _ _ _ rfl (H.own.alloc _) ⟨_, 0, none⟩ 1 1 [.int .u8 0] rfl rfl (news1 _ _ _) (by simp [Value.oneCell']) (by omega) (by have := H.below.size; simp; omega) ?_)
   intro v2 w2 hown hg
   have H2 := H.step 0 rfl hown hg
   rw [← pad0_succ] at H2
   have hl2 := pad0_len l (k + 1)
   have hl1 := HLEN.out
   have em : v2 = .slice (some ⟨(H2.own.form).choose, 0, none⟩) (pad0 l (k + 1)).length (H2.own.form).choose_spec.choose := (H2.own.form).choose_spec.choose_spec.1
   clear hown hg
   replace H2 := Lib.hid H2
   go_wp2_with fail
   go_roundw
   case rel => exact ⟨k + 1, by omega, H2.out⟩
   case measure => rw [em]; simp only; omega
  ·obtain rfl : k = c := by omega
   have t1 : (((pad0 l k).length : Int) % 64 == 56) = true := by rw [beq_iff_eq]; omega
   have t2 : (((pad0 l k).length : Int) % 64 != 56) = false := by simp; omega
   have hml : (pad0 l k).length ≤ 100000000000100 := by omega
   clear hlen hiff hcell hcm hnc HCM
   have hpad : pad0 l k ++ (List.range 8).map (fun i => UInt8.ofNat (8 * l.length / 2 ^ (56 - 8 * i))) = padS l := by
    rw [← HC.out]
    unfold pad0 padS tail64
    simp
   have HPAD := Lib.hid hpad
   clear hpad HC
   go_wp2_with fail
   go_loopw [3, 5] (fun v i wr => ∃ j : Nat, j ≤ 8 ∧ i = .int .i64 (7 - j) ∧ HoldsX w wr v (pad0 l k ++ (List.range j).map fun i => UInt8.ofNat (8 * l.length / 2 ^ (56 - 8 * i)))) (fun _ i _ => (intOf i + 1).toNat)
   case atStart => exact ⟨0, by omega, rfl, by simpa using H⟩
   case round =>
    clear H
    obtain ⟨j, hj, rfl, H⟩ := hrel
    obtain ⟨q, hq⟩ : ∃ q, (pad0 l k ++ (List.range j).map fun i => UInt8.ofNat (8 * l.length / 2 ^ (56 - 8 * i))) = q := ⟨_, rfl⟩
    have hql : q.length ≤ 100000000000200 := by rw [← hq]; simp; omega
    rw [hq] at H
    have HQ := Lib.hid hq
    clear hq
    obtain ⟨g2, cap2, rfl, hbg2, hgl2, hnc2, hcm2, hcell2⟩ := H.own.form
    by_cases hlt8 : j < 8
    ·clear hcell2 hcm2 hnc2
     have hx : 8 * (l.length : Int) / 2 ^ (8 * (7 - j)) % 256 = ((UInt8.ofNat (8 * l.length / 2 ^ (56 - 8 * j))).toNat : Int) := by
      rw [show 8 * (7 - j) = 56 - 8 * j by omega]
      have e : (8 * (l.length : Int) / 2 ^ (56 - 8 * j)) = ((8 * l.length / 2 ^ (56 - 8 * j) : Nat) : Int) := by simp
      rw [e]
      generalize 8 * l.length / 2 ^ (56 - 8 * j) = m
      simp
     replace hx := Lib.hid hx
     go_wp2_with (at_builtin; refine wpList_append_X rfl _ _ 108 rfl w.heap.size 5 i0 (.int .u8 0) Tryz.underlying108 hi hz0 hz1 hz2 rfl _ _ _ rfl (H.own.alloc _) ⟨_, 0, none⟩ 1 1 [.int .u8 (8 * (l.length : Int) / 2 ^ (8 * (7 - j)) % 256)] rfl rfl (news1 _ _ _) (by simp [Value.oneCell']) (by omega) (by have := H.below.size; simp; omega) ?_)
     intro v2 w2 hown hg
     have H2 := H.step _ hx.out hown hg
     rw [← HQ.out, List.append_assoc, show (List.range j).map (fun i => UInt8.ofNat (8 * l.length / 2 ^ (56 - 8 * i))) ++ [UInt8.ofNat (8 * l.length / 2 ^ (56 - 8 * j))] = (List.range (j + 1)).map (fun i => UInt8.ofNat (8 * l.length / 2 ^ (56 - 8 * i))) from by rw [List.range_succ, List.map_append]; rfl] at H2
     clear hown hg
     replace H2 := Lib.hid H2
     go_wp2_with fail
     go_roundw
     case rel => exact ⟨j + 1, by omega, by congr 1; omega, H2.out⟩
     case measure => simp [intOf]; omega
    ·obtain rfl : j = 8 := by omega
     rw [HPAD.out] at HQ
     obtain rfl := HQ.out
     simp only [show (7 : Int) - ((8 : Nat) : Int) = -1 from rfl]
     go_wp2_with fail
     go_ret
     exact ⟨g2, cap2, rfl, H.own, H.below⟩
theorem rtake_lit (v : St) (g o c : Nat) (l : List UInt8) (hl : l.length = 64) (w : World) (hb : BytesAt w g o l) (ho : o + 64 ≤ 9223372036854775807) (hc : 64 ≤ c) :
  Calls Tryz.prog 139 #[.agg #[.int .u32 (vw v.a), .int .u32 (vw v.b), .int .u32 (vw v.c), .int .u32 (vw v.d), .int .u32 (vw v.e), .int .u32 (vw v.f), .int .u32 (vw v.g), .int .u32 (vw v.h)], .slice (some ⟨g, o, none⟩) 64 c] w
   (Ret w (.agg #[.int .u32 (vw (takeB v l).a), .int .u32 (vw (takeB v l).b), .int .u32 (vw (takeB v l).c), .int .u32 (vw (takeB v l).d), .int .u32 (vw (takeB v l).e), .int .u32 (vw (takeB v l).f), .int .u32 (vw (takeB v l).g), .int .u32 (vw (takeB v l).h)])) :=
 rtake_calls v g o c l hl w hb ho hc
theorem ownX_bytes {w : World} {base : Nat} {g cap : Nat} {p : List UInt8} (h : OwnX w base 5 (.slice (some ⟨g, 0, none⟩) p.length cap) p.length (p.map bv)) (o : Nat) (n : Nat) (hn : o + n ≤ p.length) : BytesAt w g o ((p.drop o).take n) := by
 obtain ⟨g', cap', hv, _, hlt, _, _, hc⟩ := h.form
 injection hv with hv
 injection hv with hv
 injection hv with hv
 subst hv
 refine ⟨hlt, fun j hj => ?_⟩
 have hj' : j < n := by simp at hj; omega
 rw [hc (o + j) (bv (p.getD (o + j) 0)) (by rw [List.getElem?_map, List.getElem?_eq_getElem (by omega), List.getD, List.getElem?_eq_getElem (by omega)]; rfl), vw_bw]
 unfold bv
 congr 4
 rw [List.getD, List.getD, List.getElem?_take_of_lt hj', List.getElem?_drop]

theorem grown_put8 (w : World) (b : Nat) (x0 x1 x2 x3 x4 x5 x6 x7 : Value) : w.grownBy ((((((((w.setCell ⟨b, 0, none⟩ x0).setCell ⟨b, 1, none⟩ x1).setCell ⟨b, 2, none⟩ x2).setCell ⟨b, 3, none⟩ x3).setCell ⟨b, 4, none⟩ x4).setCell ⟨b, 5, none⟩ x5).setCell ⟨b, 6, none⟩ x6).setCell ⟨b, 7, none⟩ x7) (some b) :=
 grown_set (grown_set (grown_set (grown_set (grown_set (grown_set (grown_set (grown_set (World.grownBy.refl w _))))))))
theorem news4 (W : World) (t : TypeId) (a b c d : Value) : ∀ j u, [a, b, c, d][j]? = some u → (W.alloc (.cells #[a, b, c, d] t)).drew.cell? ((⟨W.heap.size, 0, none⟩ : Addr).add j) = some u := by
 intro j u hu
 have hK := (Blk.new0 W t #[a, b, c, d]).drew
 rw [Addr.add_mid, hK.cell, Nat.zero_add]
 simpa using hu
theorem bytesW_bv (x : Wd) : (bytesW x).map bv = [.int .u8 (IntKind.u8.wrap (vw x / 16777216)), .int .u8 (IntKind.u8.wrap (vw x / 65536)), .int .u8 (IntKind.u8.wrap (vw x / 256)), .int .u8 (IntKind.u8.wrap (vw x))] := by
 have e : ∀ m : Nat, ((UInt8.ofNat m).toNat : Int) = IntKind.u8.wrap (m : Int) := fun m => by
  rw [IntKind.wrap_u8']
  simp
 unfold bytesW bv vw
 simp only [List.map_cons, List.map_nil, e]
 rfl
theorem words_all (v : St) : ((wS v).take 8).flatMap bytesW = v.bytes := rfl
theorem cS_lit (v : St) : #[.int .u32 (vw v.a), .int .u32 (vw v.b), .int .u32 (vw v.c), .int .u32 (vw v.d), .int .u32 (vw v.e), .int .u32 (vw v.f), .int .u32 (vw v.g), .int .u32 (vw v.h)] = cS v := rfl
theorem rsum_calls (l : List UInt8) (hl : l.length ≤ 100000000000000) (w : World) : Calls Tryz.prog 90 #[.string (bs l)] w (Ret w (.string (bs (sha l)))) := by
 obtain ⟨i0, hi, hz0, hz1, hz2⟩ := info_parts infoU8
 go_enter Tryz.func90, Tryz.ntmps90
 go_wp2_with fail
 refine (padded_calls l hl _).mono ?_
 rintro e w1 ⟨g, cap, rfl, hown, hB⟩
 have hgb : w.heap.size + 1 ≤ g := by
  obtain ⟨g', cap', hv, hb, _⟩ := hown.form
  injection hv with hv
  injection hv with hv
  injection hv with hv
  subst hv
  simpa using hb
 have hnc : (padS l).length ≤ cap := by
  obtain ⟨g', cap', hv, _, _, hn, _⟩ := hown.form
  injection hv with _ _ hv
  omega
 have hpl := padS_len l
 have hpm : (padS l).length ≤ 100000000000200 := by unfold padS tail64; simp; omega
 have TA := Lib.hid (takes_all l)
 obtain ⟨p, hp⟩ : ∃ p, padS l = p := ⟨_, rfl⟩
 rw [hp] at hown hnc hpl hpm TA ⊢
 clear hp
 have hown1 : OwnX w1 (w.heap.size + 1) 5 (.slice (some ⟨g, 0, none⟩) p.length cap) p.length (p.map bv) := by simpa using hown
 have OW := Lib.hid hown1
 clear hown hown1
 (replace HB : Below w.heap.size w w1 := Below.on hB bel; replace K0 := hb_ (g := w.heap.size) blJ hB; (try simp only [sB, sC, sD] at K0); clear hB; have HZw1 := HB.size; obtain ⟨k0, f0, l0, m0⟩ := rl_ K0)
 go_wp2_with fail
 go_loopw [5] (fun i wr => ∃ m : Nat, 64 * m ≤ p.length ∧ i = .int .i64 ((64 * m : Nat) : Int) ∧ Blk wr w.heap.size 151 (cS (takes (chunks m p))) ∧ OwnX wr (w.heap.size + 1) 5 (.slice (some ⟨g, 0, none⟩) p.length cap) p.length (p.map bv) ∧ Below w.heap.size w wr)
  (fun i _ => (p.length - intOf i).toNat)
 case atStart => exact ⟨0, by omega, rfl, K0.out, OW.out, HB⟩
 case round =>
  clear K0 k0 f0 l0 m0 OW HB HZw1
  obtain ⟨m, hm, rfl, K0, OW, HB⟩ := hrel
  have HBY := fun h => ownX_bytes OW (64 * m) 64 h
  have HS := Lib.hid (takes_snoc (chunks m p) ((p.drop (64 * m)).take 64))
  rw [← chunks_succ] at HS
  obtain ⟨k, hk⟩ : ∃ k, 64 * m = k := ⟨_, rfl⟩
  rw [hk] at HBY hm HS ⊢
  have HK := Lib.hid hk
  by_cases hlt : k < p.length
  ·have hk64 : k + 64 ≤ p.length := by omega
   have hby := Lib.hid (HBY hk64)
   have hyl : ((p.drop k).take 64).length = 64 := by simp; omega
   clear hk HBY
   generalize takes (chunks m p) = V at *
   generalize (p.drop k).take 64 = y at *
   unfold cS at K0
   replace K0 := Lib.hid K0
   replace OW := Lib.hid OW
   have HYL := Lib.hid hyl
   clear hyl
   (obtain ⟨k0, f0, l0, m0⟩ := rl_ K0)
   have e1 : IntKind.i64.wrap ((k : Int) + 64) = (k : Int) + 64 := IntWalk.i64_in _ (by omega)
   go_wp2_with fail
   (refine wp_region_later_tail 7 (by kernel_rfl) (by kernel_rfl) ?_; simp only [List.take_succ_cons, List.take_zero, List.drop_succ_cons, List.drop_zero]; (repeat (go_big_quiet_step ((go_at_call 139; exact lq (rtake_lit V g k _ y HYL.out _ (hby.out.from (Later.below _) hby.out.1 (Later.below _).size) (by omega) (by omega)))))); refine wpQuiet_nil ?_; intro w' hB)
   clear k0 f0 l0 m0
   replace K0 := Lib.hid (K0.out.below hB)
   replace OW := Lib.hid (OW.out.below hB)
   replace HB := Below.on hB HB
   clear hB e1
   (obtain ⟨k0, f0, l0, m0⟩ := rl_ K0)
   go_wp2_with fail
   have hK := HK.out
   go_roundw
   case rel => exact ⟨m + 1, by omega, by congr 1; omega, by rw [HS.out, ← cS_lit]; exact blk_put8 _ _ _ _ _ _ _ _ K0.out, OW.out.kept (grown_put8 w' w.heap.size _ _ _ _ _ _ _ _) (by simp [Value.ownBlock]; omega), below_put8 (Nat.le_refl _) _ _ _ _ _ _ _ _ HB⟩
   case measure => simp [intOf]; omega
  ·have hmT : m = p.length / 64 := by omega
   rw [hmT] at K0
   obtain ⟨V, hV⟩ : ∃ V, takes (chunks (p.length / 64) p) = V := ⟨_, rfl⟩
   rw [hV] at K0 TA
   clear hV HS HBY OW hk HK hmT
   rw [cS_words] at K0
   replace K0 := Lib.hid K0
   go_wp2_with fail
   go_loopw [6, 7] (fun v i wr => ∃ k : Nat, k ≤ 8 ∧ i = .int .i64 k ∧ wr.ownsRow (w.heap.size + 1) 5 1 v (4 * k) ((((wS V).take k).flatMap bytesW).map bv) ∧ Blk wr w.heap.size 151 (cw (wS V)) ∧ Below w.heap.size w wr) (fun _ i _ => (8 - intOf i).toNat)
   case atStart => exact ⟨0, by omega, rfl, World.ownsRow_nil _ _ _ _, K0.out, HB⟩
   case round =>
    clear K0 HB
    obtain ⟨k, hk, rfl, OWN, K0, HB⟩ := hrel
    by_cases hlt : k < 8
    ·have g0 := cw_get (L := wS V) (i := k) (by simp [wS]; omega)
     have hq : ((wS V).take (k + 1)).flatMap bytesW = ((wS V).take k).flatMap bytesW ++ bytesW ((wS V).getD k 0) := by
      rw [List.take_add_one, List.getElem?_eq_getElem (show k < (wS V).length by simp [wS]; omega), List.flatMap_append, List.getD, List.getElem?_eq_getElem (show k < (wS V).length by simp [wS]; omega)]
      simp
     have HQ := Lib.hid hq
     clear hq
     generalize ((wS V).take k).flatMap bytesW = q at *
     generalize (wS V).getD k 0 = x at *
     have v1 := vw_nonneg x
     replace OWN := Lib.hid OWN
     replace K0 := Lib.hid K0
     (obtain ⟨k0, f0, l0, m0⟩ := rl_ K0)
     go_wp2_with fail
     have hc0 := (k0 k).trans g0
     have hne : some w.heap.size ≠ u6.ownBlock := (fun e => by have := (OWN.out.lt _ e.symm).1; omega)
     go_region_held3 (fun w' => w'.cell? ⟨w.heap.size, k, none⟩ = some (.int .u32 (vw x))) (first | go_keep | exact (World.cell?_of_block (a := ⟨w.heap.size, k, none⟩) (hgrow2.block _ (by simp; omega) hne)).trans (by simp (maxDischargeDepth := 9) [go_sem, *])) ((refine step_append_lies _ (by rfl) _ _ _ (by rfl) (w.heap.size + 1) 5 i0 (.int .u8 0) 1 1 Tryz.underlying108 hi hz0 hz1 hz2 (by rfl) (by omega) _ (4 * k) (q.map bv) (by rfl) (OWN.out.alloc _).drew ⟨_, 0, none⟩ 4 4 _ (by rfl) (by rfl) (news4 _ _ _ _ _ _) (by simp [Value.oneCell']) (by omega) (by unfold maxLen; omega) (by omega) (by have := HB.size; simp; omega) (wr.heap.size + 1) (by simp) ?_; intro g2 cap2 w2 hown2 hgrow2 hat2 hlt2))
     have hown3 := hown2
     rw [← bytesW_bv, ← List.map_append, ← HQ.out] at hown3
     have K1 := ((K0.out.alloc (.cells #[.int .u8 (IntKind.u8.wrap (vw x / 16777216)), .int .u8 (IntKind.u8.wrap (vw x / 65536)), .int .u8 (IntKind.u8.wrap (vw x / 256)), .int .u8 (IntKind.u8.wrap (vw x))] 5)).drew).grown hgrow2 hne
     have HB2 := ((HB.alloc HB.size (.cells #[.int .u8 (IntKind.u8.wrap (vw x / 16777216)), .int .u8 (IntKind.u8.wrap (vw x / 65536)), .int .u8 (IntKind.u8.wrap (vw x / 256)), .int .u8 (IntKind.u8.wrap (vw x))] 5)).drew).grown hgrow2 (by have := HB.size; simp; omega) (fun j e => by have := (OWN.out.lt _ e).1; omega)
     clear hown2 hgrow2 hat2 hc0
     replace hown3 := Lib.hid hown3
     go_wp2_with fail
     go_roundw
     case rel => exact ⟨k + 1, by omega, by go_num, hown3.out, K1, HB2⟩
     case measure => simp [intOf]; omega
    ·obtain rfl : k = 8 := by omega
     rw [words_all, TA.out] at OWN
     obtain ⟨g3, cap3, rfl⟩ := ownsRow_succ (k := 31) OWN
     have hcv := conv_cells wr g3 (sha l) 32 cap3 (sha_len _) (own_cells OWN)
     clear OWN K0
     simp only [show ((8 : Nat) : Int) = 8 from rfl]
     go_wp2_with fail
     go_ret
     exact ⟨rfl, HB⟩
def digs : List UInt8 := [48, 49, 50, 51, 52, 53, 54, 55, 56, 57, 97, 98, 99, 100, 101, 102]
def dig (d : Nat) : UInt8 := digs.getD d 0
theorem conv_owned (W : World) {base : Nat} {v : Value} {L : List UInt8} (h : W.ownsRow base 5 1 v L.length (L.map bv)) :
  ∃ A c, v = .slice A L.length c ∧ (convert 108 9 (.slice A L.length c)).run Tryz.prog W = .ok (.string (bs L)) W := by
 rcases h.2 with ⟨rfl, h0⟩ | ⟨g, cap, cur, rfl, _⟩
 ·obtain rfl := List.eq_nil_of_length_eq_zero h0
  exact ⟨none, 0, rfl, run_convert_bytes_nil W _ _ (show Tryz.prog.underlying 108 = some (.slice 5) by kernel_rfl) (show Tryz.prog.underlying 5 = some (.int .u8) by kernel_rfl) 0 0 _ (show Tryz.prog.underlying 9 = some .string by kernel_rfl)⟩
 ·exact ⟨some ⟨g, 0, none⟩, cap, rfl, conv_cells W g L L.length cap rfl (own_cells h)⟩
@[go_sem] theorem dig_get : ∀ (d : Nat) (h : d < (ByteArray.mk #[48, 49, 50, 51, 52, 53, 54, 55, 56, 57, 97, 98, 99, 100, 101, 102]).size), (ByteArray.mk #[48, 49, 50, 51, 52, 53, 54, 55, 56, 57, 97, 98, 99, 100, 101, 102])[d]'h = dig d
 | 0, _ => rfl
 | 1, _ => rfl
 | 2, _ => rfl
 | 3, _ => rfl
 | 4, _ => rfl
 | 5, _ => rfl
 | 6, _ => rfl
 | 7, _ => rfl
 | 8, _ => rfl
 | 9, _ => rfl
 | 10, _ => rfl
 | 11, _ => rfl
 | 12, _ => rfl
 | 13, _ => rfl
 | 14, _ => rfl
 | 15, _ => rfl
 | d + 16, h => absurd h (by simp [ByteArray.size])
theorem strs2 (w : World) (a b : ByteArray) : Strs (w.alloc (.cells #[.string a, .string b] 9)) (some ⟨w.heap.size, 0, none⟩) [a, b] :=
 Strs.mk (by simp) fun i x hx => by
  rw [(Blk.new0 w _ _).cell, Nat.zero_add]
  match i, hx with
  | 0, hx => simp at hx; subst hx; rfl
  | 1, hx => simp at hx; subst hx; rfl
end Go.Proofs.YtegaaccioppfjaaGreatDoor
end
