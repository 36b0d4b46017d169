/- A range over an iterator that has a state of its own in memory: the iterator's contract names its own steps ('Ab'), what holds of what it hands out ('At'), and what a round must keep ('Kp'). No conditions. -/
import Derived.Test.YtpmmjomejackkaaDoorIter
namespace Go.Proofs.YtpmmjomejackkaaDoor
open Go.RowKit Go.Shelf

def SeqSt {α σ : Type} (F : Fence) (n : Nat) (P : Program) (g : Nat) (lb : Array Value) (encs : α → Array Value) (At : List α → α → σ → World → Prop)
    (Kp : σ → World → World → Prop) (Ab : σ → World → σ → World → Prop) (x0 : σ) (S Sp : List α → Prop) (w : World) : Prop :=
  ∀ (l : Nat) (J Jx : List α → σ → World → Prop) (W : World), Below w.heap.size w W →
    (∀ s x A y B, J s x A → Ab x A y B → J s y B) → (∀ s x A y B, Jx s x A → Ab x A y B → Jx s y B) →
    (∀ pre y x A, J pre x A → At pre y x A → YieldAt F (n - 1) P l (encs y) A fun e B =>
      (e = .returned (.bool true) ∧ J (pre ++ [y]) x B ∧ Kp x A B) ∨ (e = .returned (.bool false) ∧ Jx (pre ++ [y]) x B)) →
    J [] x0 W →
    CallsIn F n P g (#[.func (.yield l) #[] #[]] ++ lb) W fun e B => (∃ v, e = .returned v) ∧ ((∃ xs x, S xs ∧ J xs x B) ∨ (∃ pre x, Sp pre ∧ Jx pre x B))

theorem wpIn_rangeFunc_st {α σ : Type} {F : Fence} {n : Nat} {P : Program} {g : Operand} {ps : Array Tmp} {assign body : Code} {Q : Exit → Act → World → Prop} {a : Act} {w : World}
    (hro : F.round = none) (h1 : 1 ≤ n) {gf : Nat} {lb : Array Value} (hg : a.eval g = .func (.func gf) #[] lb) (hFg : F.fn gf) (eg : ∀ args w, (callFunc gf args).run P w = .ok (.enter gf args) w)
    {encs : α → Array Value} {At : List α → α → σ → World → Prop} {Kp : σ → World → World → Prop} {Ab : σ → World → σ → World → Prop} {x0 : σ} {S Sp : List α → Prop}
    (hseq : SeqSt F (n - 1) P gf lb encs At Kp Ab x0 S Sp w) (hps : ∀ y, (encs y).size = ps.size)
    (hKt : ∀ x A B C, Kp x A B → Kp x B C → Kp x A C) (hKb : ∀ x (W : World) (l : Nat) (o o' : Obj), w.heap.size ≤ l → W.heap[l]? = some o → o.isCells = false → o.isWalk = false → Kp x W (W.putObj l o'))
    (hAb : ∀ x (A : World) y (B : World) (k : Nat) (o : Obj), Ab x A y B → w.heap.size ≤ k → A.heap[k]? = some o → o.isCells = false → o.isWalk = false → B.heap[k]? = some o)
    (hAt : ∀ pre y x (W : World) (l : Nat) (o o' : Obj), At pre y x W → w.heap.size ≤ l → W.heap[l]? = some o → o.isCells = false → At pre y x (W.putObj l o'))
    (I : List α → σ → World → Prop) (Ix : Code → List α → σ → World → Prop) (hI : ∀ x, OwnFrom w.heap.size fun s W => I s x W) (hIx : ∀ c x, OwnFrom w.heap.size fun s W => Ix c s x W)
    (hIA : ∀ s x A y B, I s x A → Ab x A y B → I s y B) (hIxA : ∀ c s x A y B, Ix c s x A → Ab x A y B → Ix c s y B)
    (h0 : I [] x0 w) (a₁ : α → Act)
    (hassign : ∀ (l : Nat) (y : α) (W : World) (K : Act → World → Prop), K (a₁ y) W →
      assign.wpIn (F.inRound l) (n - 1 - 1) P (Exit.then K (fun _ _ _ => False)) { tmps := (ps.zip (encs y)).foldl (fun t (p, v) => t.setIfInBounds p v) a.tmps, defers := [] } W)
    (hbody : ∀ (l : Nat) (pre : List α) (y : α) (x : σ) (W : World), I pre x W → At pre y x W →
      body.wpIn (F.inRound l) (n - 1 - 1) P (ownPostK (Kp x) (fun s W => I s x W) (fun c s W => Ix c s x W) (pre ++ [y]) W) (a₁ y) W)
    (hdone : ∀ (D : Nat) (xs : List α) (x : σ) (W : World), w.heap.size ≤ D → S xs → I xs x W → W.heap[D]? = some (.deferred (some [])) → Q .normal { a with defers := { target := .collected D, args := #[] } :: a.defers } W)
    (hstop : ∀ (D : Nat) (c : Code) (pre : List α) (x : σ) (W : World), w.heap.size ≤ D → Sp pre → Ix c pre x W → W.heap[D]? = some (.deferred (some [])) → c.wpIn F n P Q { a with defers := { target := .collected D, args := #[] } :: a.defers } W) :
    (Code.rangeFunc g ps assign body).wpIn F n P Q a w := by
  refine wpIn_rangeFunc fun fn hfn => ?_
  rw [hro]
  obtain ⟨rec, hrec⟩ : ∃ rec : LoopState → Option Code → Loop, rec = fun st pe => { state := st, pending := pe, fn, tmps := a.tmps, params := ps, assign, body, defers := w.heap.size } := ⟨_, rfl⟩
  obtain ⟨V, hV⟩ : ∃ V, (w.alloc (.deferred (some []))).alloc (.loop (rec .ready none)) = V := ⟨_, rfl⟩
  have hLV : V.heap[w.heap.size + 1]? = some (.loop (rec .ready none)) := by
    rw [← hV]
    have := World.alloc_heap_new (w.alloc (.deferred (some []))) (.loop (rec .ready none))
    rwa [World.size_alloc] at this
  have hDV : V.heap[w.heap.size]? = some (.deferred (some [])) := by
    rw [← hV]
    exact (Below.heap_alloc _ _ _ (by simp)).trans (World.alloc_heap_new w _)
  have hIV : I [] x0 V := by rw [← hV]; exact (hI x0).alloc _ ((hI x0).alloc _ h0)
  have hBV : Below w.heap.size w V := by rw [← hV]; exact ((Below.refl _ w).alloc (Nat.le_refl _) _).alloc (by simp) _
  -- the caller's word with the two blocks of book-keeping beside it
  let J : List α → σ → World → Prop := fun s x W => I s x W ∧ W.heap[w.heap.size + 1]? = some (.loop (rec .ready none)) ∧ W.heap[w.heap.size]? = some (.deferred (some []))
  let Jx : List α → σ → World → Prop := fun s x W => ∃ c, Ix c s x W ∧ W.heap[w.heap.size + 1]? = some (.loop (rec .done (some c))) ∧ W.heap[w.heap.size]? = some (.deferred (some []))
  have hJ : ∀ s x A y B, J s x A → Ab x A y B → J s y B := fun s x A y B h hab => ⟨hIA _ _ _ _ _ h.1 hab, hAb _ _ _ _ _ _ hab (by omega) h.2.1 rfl rfl, hAb _ _ _ _ _ _ hab (Nat.le_refl _) h.2.2 rfl rfl⟩
  have hJx : ∀ s x A y B, Jx s x A → Ab x A y B → Jx s y B := fun s x A y B h hab => by
    obtain ⟨c, h1, h2, h3⟩ := h
    exact ⟨c, hIxA _ _ _ _ _ _ h1 hab, hAb _ _ _ _ _ _ hab (by omega) h2 rfl rfl, hAb _ _ _ _ _ _ hab (Nat.le_refl _) h3 rfl rfl⟩
  have round : ∀ pre y x A, J pre x A → At pre y x A → YieldAt F (n - 1 - 1) P (w.heap.size + 1) (encs y) A fun e B =>
      (e = .returned (.bool true) ∧ J (pre ++ [y]) x B ∧ Kp x A B) ∨ (e = .returned (.bool false) ∧ Jx (pre ++ [y]) x B) := by
    rintro pre y x W ⟨hi, hl, hk⟩ hat
    have hlt : w.heap.size + 1 < W.heap.size := (Array.getElem?_eq_some_iff.1 hl).1
    have hy := run_yield (P := P) (args := encs y) hl (by rw [hrec]; exact hps y)
    rw [hrec] at hy
    refine ⟨fn, _, assign, body, hy, roundIn_of_wpIn hfn (hassign _ y W _ ⟨_, run_beginRound hl (by rw [hrec]), ?_⟩)⟩
    have hl2 : (W.putObj (w.heap.size + 1) (.loop { rec .ready none with state := .busy })).heap[w.heap.size + 1]? = some (.loop { rec .ready none with state := .busy }) := World.putObj_heap_same hlt
    have hk2 : (W.putObj (w.heap.size + 1) (.loop { rec .ready none with state := .busy })).heap[w.heap.size]? = some (.deferred (some [])) := (World.putObj_heap_other (by omega)).trans hk
    have hw2 : Kp x W (W.putObj (w.heap.size + 1) (.loop { rec .ready none with state := .busy })) := hKb _ _ _ _ _ (by omega) hl rfl rfl
    refine wpIn_mono (hbody _ pre y x _ ((hI x).putObj _ hi (by omega) hl rfl) (hAt _ _ _ _ _ _ _ hat (by omega) hl rfl)) ?_
    have fin : ∀ (jump : Option Code) (W3 : World), KeepsOthers (W.putObj (w.heap.size + 1) (.loop { rec .ready none with state := .busy })) W3 →
        (Instr.endRound (w.heap.size + 1) jump).run P W3 = .ok (.bool jump.isNone) (W3.putObj (w.heap.size + 1) (.loop (rec (if jump.isNone then .ready else .done) jump))) ∧
        W3.heap[w.heap.size + 1]? = some (.loop { rec .ready none with state := .busy }) ∧
        (W3.putObj (w.heap.size + 1) (.loop (rec (if jump.isNone then .ready else .done) jump))).heap[w.heap.size + 1]? = some (.loop (rec (if jump.isNone then .ready else .done) jump)) ∧
        (W3.putObj (w.heap.size + 1) (.loop (rec (if jump.isNone then .ready else .done) jump))).heap[w.heap.size]? = some (.deferred (some [])) := fun jump W3 hk3 => by
      have hl3 := hk3.same _ _ hl2 rfl
      have h4 := run_endRound (P := P) jump hl3
      rw [hrec] at h4 ⊢
      exact ⟨h4, by rw [hrec] at hl3; exact hl3, World.putObj_heap_same (Array.getElem?_eq_some_iff.1 hl3).1, (World.putObj_heap_other (by omega)).trans (hk3.same _ _ hk2 rfl)⟩
    rintro e a3 W3 hp
    cases e with
    | normal =>
      obtain ⟨hk3, hkp3, hi3⟩ := hp
      obtain ⟨hr, hl3, hl4, hk4⟩ := fin none W3 hk3
      exact ⟨_, _, hr, .inl ⟨rfl, ⟨(hI x).putObj _ hi3 (by omega) hl3 rfl, hl4, hk4⟩, hKt _ _ _ _ (hKt _ _ _ _ hw2 hkp3) (hKb _ _ _ _ _ (by omega) hl3 rfl rfl)⟩⟩
    | ret =>
      obtain ⟨hr, hl3, hl4, hk4⟩ := fin (some .ret) W3 hp.1
      exact ⟨_, _, hr, .inr ⟨rfl, .ret, (hIx _ x).putObj _ hp.2 (by omega) hl3 rfl, hl4, hk4⟩⟩
    | exit id =>
      obtain ⟨hr, hl3, hl4, hk4⟩ := fin (some (.exit id)) W3 hp.1
      exact ⟨_, _, hr, .inr ⟨rfl, .exit id, (hIx _ x).putObj _ hp.2 (by omega) hl3 rfl, hl4, hk4⟩⟩
    | goto t =>
      obtain ⟨hr, hl3, hl4, hk4⟩ := fin (some (.goto t)) W3 hp.1
      exact ⟨_, _, hr, .inr ⟨rfl, .goto t, (hIx _ x).putObj _ hp.2 (by omega) hl3 rfl, hl4, hk4⟩⟩
    | panic ch => exact hp.elim
    | outgrown => exact hp.elim
  refine ⟨w.heap.size + 1, [{ target := .collected w.heap.size, args := #[] }], V, { target := .fn (.func gf) lb, args := #[.func (.yield (w.heap.size + 1)) #[] #[]] }, V, gf,
    #[.func (.yield (w.heap.size + 1)) #[] #[]] ++ lb, V, ?_, ?_, ?_, ?_, fun _ => h1, ?_⟩
  · rw [← hV, hrec]; exact run_enterLoop_outer _ _ _ _ _
  · simp only [resolve, hg]
    simp [go_sem]
  · intro f' hf'
    simp [Target.leads] at hf'
    subst hf'
    exact hFg
  · simp [invoke, go_sem, eg]
  refine (hseq (w.heap.size + 1) J Jx V hBV hJ hJx round ⟨hIV, hLV, hDV⟩).mono ?_
  rintro e W2 ⟨⟨v, rfl⟩, (⟨xs, x, hS, hi, hl, hk⟩ | ⟨pre, x, hSp, c, hi, hl, hk⟩)⟩
  · exact ⟨none, _, by have := run_endLoop (P := P) hl (by rw [hrec]; simp); rw [hrec] at this; exact this, hdone _ xs x _ (Nat.le_refl _) hS ((hI x).putObj _ hi (by omega) hl rfl) ((World.putObj_heap_other (by omega)).trans hk)⟩
  · exact ⟨some c, _, by have := run_endLoop (P := P) hl (by rw [hrec]; simp); rw [hrec] at this; exact this, hstop _ c pre x _ (Nat.le_refl _) hSp ((hIx c x).putObj _ hi (by omega) hl rfl) ((World.putObj_heap_other (by omega)).trans hk)⟩
end Go.Proofs.YtpmmjomejackkaaDoor
