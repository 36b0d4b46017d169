/- What the later texts stand on (Txt, Srow, SeqC, Rlp5, Bld3): plain laws and walks, each by its own conditions. -/
import Derived.Test.YthhlbdgladhdkaaGreatDoorUs8
import Derived.Test.YthhlbdgladhdkaaGreatDoorUs5
import Derived.Test.YthhlbdgladhdkaaGreatDoorUs10
import Derived.Deep.MidRow
import Derived.Test.YthhlbdgladhdkaaGreatDoorUs7
set_option linter.unusedSimpArgs false
set_option linter.unusedVariables false
section
namespace Go.Proofs.YthhlbdgladhdkaaGreatDoor
open BigFrame Go.RowKit Go.Phx Go.Shelf
attribute [local go_sem] Oper.semAt_some

theorem Txts.below {w w' : World} {A : Option Addr} {L : List Bytes} (h : Txts w A L) (hB : Below w.heap.size w w') : Txts w' A L := Strs.below h hB
theorem LRow.drew {base : Nat} {w : World} {v : Value} {L : List Bytes} (h : LRow base w v L) : LRow base w.drew v L := h
theorem wpListIn_append_txt {F : Fence} {nF : Nat} {ops : Array Oper} {rest : List Oper} {o : Oper} {a : Act} {w : World} {Q : Exit → Act → World → Prop} (hgd : o.guard = none) (s x : Operand)
  (ho : o.op = .call { callee := .builtin .append, args := #[s, x], argTypes := #[41, 41] }) (base : Nat) (v : Value) (L : List Bytes) (hs : a.eval s = v) (R : LRow base w v L)
  (u : Bytes) (ad : Addr) (hx : a.eval x = .slice (some ad) 1 1) (hc : w.cell? (ad.add 0) = some (tv u)) (hl : L.length ≤ 1000000000) (hb : base ≤ w.heap.size)
  (h : ∀ v' w', LRow base w' v' (L ++ [u]) → w.grownBy w' v.ownBlock → (v'.ownBlock = v.ownBlock ∨ v'.ownBlock = some w.heap.size) → wpListIn F nF Tryz.prog ops Q rest (a.put o.dst v') w') : wpListIn F nF Tryz.prog ops Q (o :: rest) a w := by
 obtain ⟨i0, hi, hz0, hz1, hz2⟩ := info_parts infoStr
 refine wpListIn_append_own_at w hgd s x 41 ho base 9 i0 (.string ByteArray.empty) 1 16 Tryz.underlying41 hi hz0 hz1 hz2 rfl (by decide) v L.length (L.map tv) hs R ad 1 1 [tv u] hx rfl (fun j y hy => by
  match j, hy with
  | 0, hy => simp at hy; subst hy; exact hc) (by simp [Value.oneCell', tv]) (by unfold maxLen; omega) (by omega) hb ?_
 intro v' w' h2 h3 _ h5
 refine h v' w' ?_ h3 h5
 unfold LRow
 rw [List.length_append, List.map_append]
 exact h2
end Go.Proofs.YthhlbdgladhdkaaGreatDoor
end
section
namespace Go.Proofs.YthhlbdgladhdkaaGreatDoor
open BigFrame Go.RowKit Go.Phx Go.Shelf
attribute [local go_sem] Oper.semAt_some

theorem row_cells3 (w : World) (g : Nat) (t : TypeId) (hg : g < w.heap.size) : ∀ (vs pre olds post : List Value), olds.length = vs.length → (setRow w g t (pre ++ olds ++ post).toArray).setCells g pre.length vs = setRow w g t (pre ++ vs ++ post).toArray
 | [], pre, olds, post, h => by
  obtain rfl := List.eq_nil_of_length_eq_zero h
  rfl
 | v :: vs, pre, [], post, h => by simp at h
 | v :: vs, pre, u :: olds, post, h => by
  have e : pre ++ u :: olds ++ post = pre ++ (u :: (olds ++ post)) := by simp
  rw [World.setCells, row_set w g t _ _ _ hg, e, List.setIfInBounds_toArray, List.set_append_right _ _ (Nat.le_refl _), Nat.sub_self, List.set_cons_zero]
  have := row_cells3 w g t hg vs (pre ++ [v]) olds post (by simpa using h)
  simp only [List.length_append, List.length_cons, List.length_nil, List.append_assoc, List.cons_append, List.nil_append] at this ⊢
  exact this
theorem own_put {base : Nat} {e : TypeId} {k n cap g : Nat} {W : World} {xs : List Value} (own : W.ownsRow base e k (.slice (some ⟨g, 0, none⟩) n cap) n xs) (pre olds post vs : List Value) (hx : xs = pre ++ olds ++ post) (hl : olds.length = vs.length) :
  (W.setCells g pre.length vs).ownsRow base e k (.slice (some ⟨g, 0, none⟩) n cap) n (pre ++ vs ++ post) ∧ W.grownBy (W.setCells g pre.length vs) (some g) := by
 obtain ⟨h1, ⟨h2, _⟩ | ⟨g', cap', cur, hv, hb, hg, hn, hm, hs, ht⟩⟩ := own
 ·simp at h2
 ·injection hv with h3 h4 h5
  injection h3 with h3
  injection h3 with h3
  subst h3 h5
  have hgl : g < W.heap.size := (Array.getElem?_eq_some_iff.1 hg).1
  have hW : setRow W g e cur = W := row_of W g e cur hg
  have hcur : cur = (pre ++ olds ++ (post ++ cur.toList.drop (n * k))).toArray := by
   apply Array.toList_inj.1
   show cur.toList = pre ++ olds ++ (post ++ cur.toList.drop (n * k))
   rw [← List.append_assoc, ← hx, ← ht, List.take_append_drop]
  have h6 := row_cells3 W g e hgl vs pre olds (post ++ cur.toList.drop (n * k)) hl
  rw [← hcur, hW] at h6
  rw [h6]
  have hlen : (pre ++ vs ++ post).length = n * k := by rw [← h1, hx]; simp; omega
  refine ⟨⟨hlen, .inr ⟨g, cap, _, rfl, hb, Blk.row hgl, hn, hm, ?_, ?_⟩⟩, grown_row W g e _⟩
  ·have h7 := congrArg Array.size hcur
   simp only [List.size_toArray, List.length_append] at h7 ⊢
   omega
  ·show (pre ++ vs ++ (post ++ cur.toList.drop (n * k))).take (n * k) = _
   rw [← List.append_assoc]
   exact List.take_left' hlen
theorem wpListIn_store_mid {F : Fence} {nF : Nat} {P : Program} {ops : Array Oper} {rest : List Oper} {o : Oper} {a : Act} {w : World} {Q : Exit → Act → World → Prop} (hgd : o.guard = none) (ty : TypeId) (x y : Operand) (ho : o.op = .store ty x y)
  (b i : Nat) (cells : Array Value) (hx : a.eval x = .pointer (some ⟨b, i, none⟩)) (hy : a.eval y = .agg cells) (ht : w.there b i cells.size) (hi : (P.info? ty).map (·.size) = some cells.size) (h1 : cells.all (·.oneCell') = true)
  (h : wpListIn F nF P ops Q rest (a.put o.dst undef) (w.setCells b i cells.toList)) : wpListIn F nF P ops Q (o :: rest) a w := by
 refine wpListIn_plain hgd fun K hK => ?_
 unfold Oper.wpIn
 refine ⟨by simp [Oper.about, ho], ?_⟩
 have hr : (execOp a.eval o).run P w = .ok .skip (w.setCells b i cells.toList) := by
  unfold execOp
  simp only [ho, hx, hy, Instr.storeAt, Instr.sureAddr, Sem.run_bind, Sem.run_pure, Result.andThen_ok, run_storeVar_mid w b i ty cells ht hi h1]
 rw [Oper.semAt_plain F _ _ (by rw [ho]; intro c hc'; cases hc'), hr]
 exact hK _ _ h
section
variable {P : Program} {ops : Array Oper} {md : Region.Mode} {S : World → Prop} {nd : Nat → Bool} {F : Fence} {m : Nat} {Q : Exit → Act → World → Prop}
theorem S_twoL (i j : Nat) {oi oj : Oper} {fuel : Nat} {listed : Array Bool} {a : Act} {w : World} (hr : Region.ready md ops listed = [i, j]) (hi : ops[i]? = some oi) (hj : ops[j]? = some oj)
  (h1 : wpListIn F m P ops (oneQ Q fun a w => (nd i = true → S w) ∧ anyS F m P md ops Q S nd fuel (listed.setIfInBounds i true) a w) [oi] a w)
  (h2 : wpListIn F m P ops (oneQ Q fun a w => (nd j = true → S w) ∧ anyS F m P md ops Q S nd fuel (listed.setIfInBounds j true) a w) [oj] a w) :
  anyS F m P md ops Q S nd (fuel + 1) listed a w := by
 have go : ∀ (k : Nat) (o : Oper), ops[k]? = some o → wpListIn F m P ops (oneQ Q fun a w => (nd k = true → S w) ∧ anyS F m P md ops Q S nd fuel (listed.setIfInBounds k true) a w) [o] a w →
   wpOpIn F m P ops Q k (fun a' w' => (nd k = true → S w') ∧ anyS F m P md ops Q S nd fuel (listed.setIfInBounds k true) a' w') a w := fun k o hk h => wpOpIn_step hk fun K' hK => by
  have h' : if Region.wanted o (yielded ops a.tmps) = true then Oper.wpIn F m P o a w (fun a w => (nd k = true → S w) ∧ anyS F m P md ops Q S nd fuel (listed.setIfInBounds k true) a w) (oneQ Q fun a w => (nd k = true → S w) ∧ anyS F m P md ops Q S nd fuel (listed.setIfInBounds k true) a w)
   else (∀ f, o.about P w a.eval = some f → F.fn f) ∧ ((nd k = true → S (w)) ∧ anyS F m P md ops Q S nd fuel (listed.setIfInBounds k true) (a.put o.dst undef) w) := h
  split
  ·rename_i hw
   rw [if_pos hw] at h'
   exact Oper.wpIn_mono hK (oper_oneQ h')
  ·rename_i hw
   rw [if_neg hw] at h'
   exact ⟨h'.1, hK _ _ h'.2⟩
 refine ⟨fun h0 => (by rw [hr] at h0; cases h0), fun k hk => ?_⟩
 rw [hr] at hk
 simp only [List.mem_cons, List.not_mem_nil, or_false] at hk
 rcases hk with rfl | rfl
 ·exact go _ _ hi h1
 ·exact go _ _ hj h2
end
theorem setCell_comm (w : World) (a b : Addr) (u v : Value) (h : a.block ≠ b.block) : (w.setCell a u).setCell b v = (w.setCell b v).setCell a u := by
 unfold World.setCell
 congr 1
 apply Array.ext_getElem?
 intro k
 simp only [Array.getElem?_modify]
 by_cases h1 : a.block = k
 ·by_cases h2 : b.block = k
  ·exact absurd (h1.trans h2.symm) h
  ·simp [h1, h2]
 ·simp [h1]
theorem setCells_comm (g : Nat) (a : Addr) (u : Value) (h : a.block ≠ g) : ∀ (vs : List Value) (o : Nat) (w : World), (w.setCell a u).setCells g o vs = (w.setCells g o vs).setCell a u
 | [], o, w => rfl
 | v :: vs, o, w => by
  rw [World.setCells, World.setCells, setCell_comm w a ⟨g, o, none⟩ u v h, setCells_comm g a u h vs]
end Go.Proofs.YthhlbdgladhdkaaGreatDoor
end
section
namespace Go.Proofs.YthhlbdgladhdkaaGreatDoor
open Go.RowKit Go.Shelf

theorem wpIn_rangeFunc_stc {α σ : Type} {F : Fence} {n : Nat} {P : Program} {g : Operand} {ps : Array Tmp} {assign body : Code} {Q : Exit → Act → World → Prop} {a : Act} {w : World}
  (hro : F.round = none) (h1 : 1 ≤ n) {gf : Nat} {lb : Array Value} (hg : a.eval g = .func (.func gf) #[] lb) (hFg : F.fn gf) (eg : ∀ args w, (callFunc gf args).run P w = .ok (.enter gf args) w)
  {encs : α → Array Value} {At : List α → α → σ → World → Prop} {Kp : σ → World → World → Prop} {Ab : σ → World → σ → World → Prop} {x0 : σ} {S Sp : List α → Prop}
  (hseq : SeqSt F (n - 1) P gf lb encs At Kp Ab x0 S Sp w) (hps : ∀ y, (encs y).size = ps.size)
  (hKt : ∀ x A B C, Kp x A B → Kp x B C → Kp x A C) (hKb : ∀ x (W : World) (l : Nat) (o o' : Obj), w.heap.size ≤ l → W.heap[l]? = some o → o.isCells = false → o.isWalk = false → Kp x W (W.putObj l o'))
  (hAb : ∀ x (A : World) y (B : World) (k : Nat) (o : Obj), Ab x A y B → w.heap.size ≤ k → A.heap[k]? = some o → o.isCells = false → o.isWalk = false → B.heap[k]? = some o)
  (hAt : ∀ pre y x (W : World) (l : Nat) (o o' : Obj), At pre y x W → w.heap.size ≤ l → W.heap[l]? = some o → o.isCells = false → At pre y x (W.putObj l o'))
  (I : List α → σ → World → Prop) (Ix : Code → List α → σ → World → Prop) (hI : ∀ x, OwnFrom w.heap.size fun s W => I s x W) (hIx : ∀ c x, OwnFrom w.heap.size fun s W => Ix c s x W)
  (hIA : ∀ s x A y B, I s x A → Ab x A y B → I s y B) (hIxA : ∀ c s x A y B, Ix c s x A → Ab x A y B → Ix c s y B)
  (h0 : I [] x0 w) (a₁ : α → Nat → Act) (box : α → Obj)
  (hKa : ∀ x (W : World) (o : Obj), Kp x W (W.alloc o)) (hAta : ∀ pre y x (W : World) (o : Obj), At pre y x W → At pre y x (W.alloc o))
  (hassign : ∀ (l : Nat) (y : α) (W : World) (K : Act → World → Prop), K (a₁ y W.heap.size) (W.alloc (box y)) →
   assign.wpIn (F.inRound l) (n - 1 - 1) P (Exit.then K (fun _ _ _ => False)) { tmps := (ps.zip (encs y)).foldl (fun t (p, v) => t.setIfInBounds p v) a.tmps, defers := [] } W)
  (hbody : ∀ (l : Nat) (pre : List α) (y : α) (x : σ) (W : World) (c : Nat), I pre x W → At pre y x W → w.heap.size ≤ c → W.heap[c]? = some (box y) → (∃ A0 : World, I pre x A0 ∧ A0.heap.size = c ∧ ∀ b, b < c → b ≠ w.heap.size + 1 → W.heap[b]? = A0.heap[b]?) →
   body.wpIn (F.inRound l) (n - 1 - 1) P (ownPostK (Kp x) (fun s W => I s x W) (fun c s W => Ix c s x W) (pre ++ [y]) W) (a₁ y c) W)
  (hdone : ∀ (D : Nat) (xs : List α) (x : σ) (W : World), w.heap.size ≤ D → S xs → I xs x W → W.heap[D]? = some (.deferred (some [])) → Q .normal { a with defers := { target := .collected D, args := #[] } :: a.defers } W)
  (hstop : ∀ (D : Nat) (c : Code) (pre : List α) (x : σ) (W : World), w.heap.size ≤ D → Sp pre → Ix c pre x W → W.heap[D]? = some (.deferred (some [])) → c.wpIn F n P Q { a with defers := { target := .collected D, args := #[] } :: a.defers } W) :
  (Code.rangeFunc g ps assign body).wpIn F n P Q a w := by
 refine wpIn_rangeFunc fun fn hfn => ?_
 rw [hro]
 obtain ⟨rec, hrec⟩ : ∃ rec : LoopState → Option Code → Loop, rec = fun st pe => { state := st, pending := pe, fn, tmps := a.tmps, params := ps, assign, body, defers := w.heap.size } := ⟨_, rfl⟩
 obtain ⟨V, hV⟩ : ∃ V, (w.alloc (.deferred (some []))).alloc (.loop (rec .ready none)) = V := ⟨_, rfl⟩
 have hLV : V.heap[w.heap.size + 1]? = some (.loop (rec .ready none)) := by
  rw [← hV]
  have := World.alloc_heap_new (w.alloc (.deferred (some []))) (.loop (rec .ready none))
  rwa [World.size_alloc] at this
 have hDV : V.heap[w.heap.size]? = some (.deferred (some [])) := by
  rw [← hV]
  exact (Below.heap_alloc _ _ _ (by simp)).trans (World.alloc_heap_new w _)
 have hIV : I [] x0 V := by rw [← hV]; exact (hI x0).alloc _ ((hI x0).alloc _ h0)
 have hBV : Below w.heap.size w V := by rw [← hV]; exact ((Below.refl _ w).alloc (Nat.le_refl _) _).alloc (by simp) _
 -- the caller's word with the two blocks of book-keeping beside it
 let J : List α → σ → World → Prop := fun s x W => I s x W ∧ W.heap[w.heap.size + 1]? = some (.loop (rec .ready none)) ∧ W.heap[w.heap.size]? = some (.deferred (some []))
 let Jx : List α → σ → World → Prop := fun s x W => ∃ c, Ix c s x W ∧ W.heap[w.heap.size + 1]? = some (.loop (rec .done (some c))) ∧ W.heap[w.heap.size]? = some (.deferred (some []))
 have hJ : ∀ s x A y B, J s x A → Ab x A y B → J s y B := fun s x A y B h hab => ⟨hIA _ _ _ _ _ h.1 hab, hAb _ _ _ _ _ _ hab (by omega) h.2.1 rfl rfl, hAb _ _ _ _ _ _ hab (Nat.le_refl _) h.2.2 rfl rfl⟩
 have hJx : ∀ s x A y B, Jx s x A → Ab x A y B → Jx s y B := fun s x A y B h hab => by
  obtain ⟨c, h1, h2, h3⟩ := h
  exact ⟨c, hIxA _ _ _ _ _ _ h1 hab, hAb _ _ _ _ _ _ hab (by omega) h2 rfl rfl, hAb _ _ _ _ _ _ hab (Nat.le_refl _) h3 rfl rfl⟩
 have round : ∀ pre y x A, J pre x A → At pre y x A → YieldAt F (n - 1 - 1) P (w.heap.size + 1) (encs y) A fun e B =>
   (e = .returned (.bool true) ∧ J (pre ++ [y]) x B ∧ Kp x A B) ∨ (e = .returned (.bool false) ∧ Jx (pre ++ [y]) x B) := by
  rintro pre y x W ⟨hi, hl, hk⟩ hat
  have hlt : w.heap.size + 1 < W.heap.size := (Array.getElem?_eq_some_iff.1 hl).1
  have hy := run_yield (P := P) (args := encs y) hl (by rw [hrec]; exact hps y)
  rw [hrec] at hy
  have hal : (W.alloc (box y)).heap[w.heap.size + 1]? = some (.loop (rec .ready none)) := (Below.heap_alloc W _ _ hlt).trans hl
  have hak : (W.alloc (box y)).heap[w.heap.size]? = some (.deferred (some [])) := (Below.heap_alloc W _ _ (by omega)).trans hk
  have hia : I pre x (W.alloc (box y)) := (hI x).alloc _ hi
  have hata := hAta _ _ _ _ (box y) hat
  have hba : (W.alloc (box y)).heap[W.heap.size]? = some (box y) := World.alloc_heap_new W _
  have hwl : w.heap.size ≤ W.heap.size := by omega
  have hne : W.heap.size ≠ w.heap.size + 1 := by omega
  have hka := hKa x W (box y)
  refine ⟨fn, _, assign, body, hy, roundIn_of_wpIn hfn (hassign _ y W _ ⟨_, run_beginRound hal (by rw [hrec]), ?_⟩)⟩
  obtain ⟨V2, hV2⟩ : ∃ V2, W.alloc (box y) = V2 := ⟨_, rfl⟩
  rw [hV2] at hal hak hia hata hba hka ⊢
  have hl2 : (V2.putObj (w.heap.size + 1) (.loop { rec .ready none with state := .busy })).heap[w.heap.size + 1]? = some (.loop { rec .ready none with state := .busy }) := World.putObj_heap_same (Array.getElem?_eq_some_iff.1 hal).1
  have hk2 : (V2.putObj (w.heap.size + 1) (.loop { rec .ready none with state := .busy })).heap[w.heap.size]? = some (.deferred (some [])) := (World.putObj_heap_other (by omega)).trans hak
  have hw2 : Kp x W (V2.putObj (w.heap.size + 1) (.loop { rec .ready none with state := .busy })) := hKt _ _ _ _ hka (hKb _ _ _ _ _ (by omega) hal rfl rfl)
  have hA0 : ∀ b, b < W.heap.size → b ≠ w.heap.size + 1 → (V2.putObj (w.heap.size + 1) (.loop { rec .ready none with state := .busy })).heap[b]? = W.heap[b]? := fun b hb hnb => by
   rw [World.putObj_heap_other (by omega), ← hV2]
   exact Below.heap_alloc W _ b hb
  refine wpIn_mono (hbody _ pre y x _ W.heap.size ((hI x).putObj _ hia (by omega) hal rfl) (hAt _ _ _ _ _ _ _ hata (by omega) hal rfl) hwl ((World.putObj_heap_other hne).trans hba) ⟨W, hi, rfl, hA0⟩) ?_
  have fin : ∀ (jump : Option Code) (W3 : World), KeepsOthers (V2.putObj (w.heap.size + 1) (.loop { rec .ready none with state := .busy })) W3 →
    (Instr.endRound (w.heap.size + 1) jump).run P W3 = .ok (.bool jump.isNone) (W3.putObj (w.heap.size + 1) (.loop (rec (if jump.isNone then .ready else .done) jump))) ∧
    W3.heap[w.heap.size + 1]? = some (.loop { rec .ready none with state := .busy }) ∧
    (W3.putObj (w.heap.size + 1) (.loop (rec (if jump.isNone then .ready else .done) jump))).heap[w.heap.size + 1]? = some (.loop (rec (if jump.isNone then .ready else .done) jump)) ∧
    (W3.putObj (w.heap.size + 1) (.loop (rec (if jump.isNone then .ready else .done) jump))).heap[w.heap.size]? = some (.deferred (some [])) := fun jump W3 hk3 => by
   have hl3 := hk3.same _ _ hl2 rfl
   have h4 := run_endRound (P := P) jump hl3
   rw [hrec] at h4 ⊢
   exact ⟨h4, by rw [hrec] at hl3; exact hl3, World.putObj_heap_same (Array.getElem?_eq_some_iff.1 hl3).1, (World.putObj_heap_other (by omega)).trans (hk3.same _ _ hk2 rfl)⟩
  rintro e a3 W3 hp
  cases e with
  | normal =>
   obtain ⟨hk3, hkp3, hi3⟩ := hp
   obtain ⟨hr, hl3, hl4, hk4⟩ := fin none W3 hk3
   exact ⟨_, _, hr, .inl ⟨rfl, ⟨(hI x).putObj _ hi3 (by omega) hl3 rfl, hl4, hk4⟩, hKt _ _ _ _ (hKt _ _ _ _ hw2 hkp3) (hKb _ _ _ _ _ (by omega) hl3 rfl rfl)⟩⟩
  | ret =>
   obtain ⟨hr, hl3, hl4, hk4⟩ := fin (some .ret) W3 hp.1
   exact ⟨_, _, hr, .inr ⟨rfl, .ret, (hIx _ x).putObj _ hp.2 (by omega) hl3 rfl, hl4, hk4⟩⟩
  | exit id =>
   obtain ⟨hr, hl3, hl4, hk4⟩ := fin (some (.exit id)) W3 hp.1
   exact ⟨_, _, hr, .inr ⟨rfl, .exit id, (hIx _ x).putObj _ hp.2 (by omega) hl3 rfl, hl4, hk4⟩⟩
  | goto t =>
   obtain ⟨hr, hl3, hl4, hk4⟩ := fin (some (.goto t)) W3 hp.1
   exact ⟨_, _, hr, .inr ⟨rfl, .goto t, (hIx _ x).putObj _ hp.2 (by omega) hl3 rfl, hl4, hk4⟩⟩
  | panic ch => exact hp.elim
  | outgrown => exact hp.elim
 refine ⟨w.heap.size + 1, [{ target := .collected w.heap.size, args := #[] }], V, { target := .fn (.func gf) lb, args := #[.func (.yield (w.heap.size + 1)) #[] #[]] }, V, gf,
  #[.func (.yield (w.heap.size + 1)) #[] #[]] ++ lb, V, ?_, ?_, ?_, ?_, fun _ => h1, ?_⟩
 ·rw [← hV, hrec]; exact run_enterLoop_outer _ _ _ _ _
 ·simp only [resolve, hg]
  simp [go_sem]
 ·intro f' hf'
  simp [Target.leads] at hf'
  subst hf'
  exact hFg
 ·simp [invoke, go_sem, eg]
 refine (hseq (w.heap.size + 1) J Jx V hBV hJ hJx round ⟨hIV, hLV, hDV⟩).mono ?_
 rintro e W2 ⟨⟨v, rfl⟩, (⟨xs, x, hS, hi, hl, hk⟩ | ⟨pre, x, hSp, c, hi, hl, hk⟩)⟩
 ·exact ⟨none, _, by have := run_endLoop (P := P) hl (by rw [hrec]; simp); rw [hrec] at this; exact this, hdone _ xs x _ (Nat.le_refl _) hS ((hI x).putObj _ hi (by omega) hl rfl) ((World.putObj_heap_other (by omega)).trans hk)⟩
 ·exact ⟨some c, _, by have := run_endLoop (P := P) hl (by rw [hrec]; simp); rw [hrec] at this; exact this, hstop _ c pre x _ (Nat.le_refl _) hSp ((hIx c x).putObj _ hi (by omega) hl rfl) ((World.putObj_heap_other (by omega)).trans hk)⟩
end Go.Proofs.YthhlbdgladhdkaaGreatDoor
end
section
namespace Go.Proofs.YthhlbdgladhdkaaGreatDoor
open BigFrame Go.RowKit Go.Phx Go.Shelf
attribute [local go_sem] Oper.semAt_some

abbrev zIv : Iv := ⟨false, [], none, 0, 0⟩
theorem infoItem : (Tryz.prog.info? 52).map (fun i => (i.zero, i.size, i.bytes)) = some (some (.agg #[.bool false, .string ByteArray.empty, .slice none 0 0]), 3, 48) := by kernel_rfl
theorem sizeItem : (Tryz.prog.info? 52).map (·.size) = some 3 := by kernel_rfl
def IRow (base : Nat) (W : World) (v : Value) (vs : List Iv) : Prop := W.ownsRow base 52 3 v vs.length (IvL vs)
theorem IRow.shape {base : Nat} {W : World} {v : Value} {vs : List Iv} (h : IRow base W v vs) : ∃ A c, v = .slice A vs.length c ∧ vs.length ≤ c ∧ c ≤ maxLen ∧ CsS (fun b => base ≤ b ∧ v.ownBlock = some b) W A (IvL vs) := by
 rcases h.2 with ⟨rfl, h0⟩ | ⟨g, cap, cur, rfl, hb, hg, hn, hm, hs, ht⟩
 ·rw [h0]
  obtain rfl := List.eq_nil_of_length_eq_zero h0
  exact ⟨none, 0, rfl, Nat.le_refl _, Nat.zero_le _, CsS.nil _ _ _⟩
 ·refine ⟨some ⟨g, 0, none⟩, cap, rfl, hn, hm, fun _ => ⟨g, 0, rfl, ⟨hb, rfl⟩, (Array.getElem?_eq_some_iff.1 hg).1, fun i u hu => ?_⟩⟩
  rw [Nat.zero_add, cell_of_row W g i cur _ (0, 0) hg]
  rw [← ht, List.getElem?_take] at hu
  split at hu
  ·simpa using hu
  ·cases hu
theorem IRow.lt {base : Nat} {W : World} {v : Value} {vs : List Iv} (h : IRow base W v vs) : ∀ j, v.ownBlock = some j → base ≤ j ∧ j < W.heap.size := fun j hj => World.ownsRow.lt h j hj
theorem IRow.keep {base : Nat} {w w' : World} {v : Value} {vs : List Iv} {r : Option Nat} (h : IRow base w v vs) (hg : w.grownBy w' r) (hn : ∀ j, v.ownBlock = some j → r ≠ some j) : IRow base w' v vs :=
 World.ownsRow.kept h hg (by
  cases hv : v.ownBlock with
  | none => exact .inl rfl
  | some g => exact .inr fun e => hn g hv e.symm)
theorem IRow.cells {base : Nat} {w : World} {v : Value} {vs : List Iv} (h : IRow base w v vs) : ∀ j, v.ownBlock = some j → ∃ cs t fz, w.heap[j]? = some (.cells cs t fz) := fun j hj => by
 rcases h.2 with ⟨rfl, h0⟩ | ⟨g, cap, cur, rfl, hb, hg, _⟩
 ·cases hj
 ·cases hj
  exact ⟨cur, _, _, hg⟩
theorem IRow.nil (base : Nat) (W : World) : IRow base W (.slice none 0 0) [] := World.ownsRow_nil _ _ _ _
theorem wpListIn_append_item {F : Fence} {nF : Nat} {ops : Array Oper} {rest : List Oper} {o : Oper} {a : Act} {w : World} {Q : Exit → Act → World → Prop} (hgd : o.guard = none) (s x : Operand)
  (ho : o.op = .call { callee := .builtin .append, args := #[s, x], argTypes := #[50, 50] }) (base : Nat) (v : Value) (L : List Iv) (hs : a.eval s = v) (R : IRow base w v L)
  (u : Iv) (ad : Addr) (hx : a.eval x = .slice (some ad) 1 1) (hc : ∀ j y, u.cells[j]? = some y → w.cell? (ad.add j) = some y) (hl : L.length ≤ 1000000000) (hb : base ≤ w.heap.size)
  (h : ∀ v' w', IRow base w' v' (L ++ [u]) → w.grownBy w' v.ownBlock → (v'.ownBlock = v.ownBlock ∨ v'.ownBlock = some w.heap.size) → wpListIn F nF Tryz.prog ops Q rest (a.put o.dst v') w') : wpListIn F nF Tryz.prog ops Q (o :: rest) a w := by
 obtain ⟨i0, hi, hz0, hz1, hz2⟩ := info_parts infoItem
 refine wpListIn_append_own_at w hgd s x 50 ho base 52 i0 (.agg #[.bool false, .string ByteArray.empty, .slice none 0 0]) 3 48 Tryz.underlying50 hi hz0 hz1 hz2 rfl (by decide) v L.length (IvL L) hs R ad 1 1 u.cells hx rfl hc (by simp [Value.oneCell', Iv.cells]) (by unfold maxLen; omega) (by omega) hb ?_
 intro v' w' h2 h3 _ h5
 refine h v' w' ?_ h3 h5
 unfold IRow
 rw [List.length_append, IvL_app]
 exact h2
theorem IRow.put {base : Nat} {W : World} {g n cap : Nat} {L : List Iv} {z : Iv} (h : IRow base W (.slice (some ⟨g, 0, none⟩) n cap) (L ++ [z])) (hn : n = L.length + 1) (y : Iv) :
  IRow base (W.setCells g (L.length * 3) y.cells) (.slice (some ⟨g, 0, none⟩) n cap) (L ++ [y]) ∧ W.grownBy (W.setCells g (L.length * 3) y.cells) (some g) := by
 subst hn
 have h' : W.ownsRow base 52 3 (.slice (some ⟨g, 0, none⟩) (L.length + 1) cap) (L.length + 1) (IvL (L ++ [z])) := by
  unfold IRow at h
  rw [List.length_append] at h
  exact h
 have := own_put h' (IvL L) z.cells [] y.cells (by rw [IvL_app]; simp [IvL]) rfl
 rw [IvL_len, Nat.mul_comm, List.append_nil] at this
 unfold IRow
 rw [List.length_append, IvL_app]
 exact ⟨by simpa [IvL] using this.1, this.2⟩
theorem IRow.there {base : Nat} {W : World} {g n cap : Nat} {L : List Iv} {z : Iv} (h : IRow base W (.slice (some ⟨g, 0, none⟩) n cap) (L ++ [z])) (m : Nat) (hm : m = L.length * 3) : W.there g m 3 := by
 subst hm
 rcases h.2 with ⟨h2, _⟩ | ⟨g', cap', cur, hv, hb, hg, hn, hmx, hs, ht⟩
 ·simp at h2
 ·injection hv with h3 h4 h5
  injection h3 with h3
  injection h3 with h3
  subst h3
  intro j hj
  have hlt : L.length * 3 + j < cur.size := by rw [hs]; rw [List.length_append] at hn; simp at hn; omega
  exact ⟨by rw [cell_of_row W g _ cur _ (0, 0) hg, Array.getElem?_eq_getElem hlt]; rfl, by simp [World.frozen?, hg]⟩
def AllV (w : World) (r : Nat) (v : Value) (s : List (It × Iv)) (W : World) : Prop :=
 Blk W r 50 #[v] ∧ Blk W (r + 1) 4 #[.bool true] ∧ IRow (r + 3) W v (s.map Prod.snd) ∧ Below w.heap.size w W ∧ (∀ x ∈ s, RepS (fun b => r + 3 ≤ b ∧ v.ownBlock ≠ some b) W x.1 x.2) ∧ r + 3 ≤ W.heap.size
def AllI (w : World) (r : Nat) (s : List (It × Iv)) (x : Hst) (W : World) : Prop := ∃ v, AllV w r v s W ∧ (s.length = x.2 → AllV w r v s x.1)
theorem AllV.grown {w A B : World} {r : Nat} {v : Value} {s : List (It × Iv)} {row : Option Nat} (h : AllV w r v s A) (hw : w.heap.size ≤ r) (hg : A.grownBy B row)
  (hr : ∀ j, row = some j → r + 2 ≤ j ∧ (r + 3 ≤ j → ∃ o : Obj, A.heap[j]? = some o ∧ o.isCells = false)) : AllV w r v s B := by
 obtain ⟨h1, h2, h3, h4, h5, h6⟩ := h
 have hne : ∀ b, r + 3 ≤ b → (∃ cs t fz, A.heap[b]? = some (.cells cs t fz)) → some b ≠ row := fun b hb ⟨cs, t, fz, hcs⟩ e => by
  obtain ⟨_, k⟩ := hr b e.symm
  obtain ⟨o, ho, hc⟩ := k hb
  rw [hcs] at ho
  injection ho with ho
  subst ho
  cases hc
 refine ⟨h1.grown hg (fun e => by have := (hr _ e.symm).1; omega), h2.grown hg (fun e => by have := (hr _ e.symm).1; omega), h3.keep hg fun j hj e => ?_, h4.grown hg h4.size fun j e => by have := (hr j e).1; omega, fun x hx => ?_, Nat.le_trans h6 hg.size⟩
 ·exact hne j (h3.lt j hj).1 (h3.cells j hj) e.symm
 ·exact (h5 x hx).keep2 hg.size fun b hb hlt hcs => ⟨hb, hg.block b hlt (hne b hb.1 hcs)⟩
theorem AllI.own {w A B : World} {r : Nat} {s : List (It × Iv)} {x : Hst} {row : Option Nat} {N : Nat} (h : AllI w r s x A) (hw : w.heap.size ≤ r) (hg : A.grownBy B row) (hr : ∀ j, row = some j → N ≤ j ∧ ∃ o : Obj, A.heap[j]? = some o ∧ o.isCells = false) (hN : r + 3 ≤ N) : AllI w r s x B := by
 obtain ⟨v, h1, h2⟩ := h
 exact ⟨v, h1.grown hw hg fun j e => ⟨by have := (hr j e).1; omega, fun _ => (hr j e).2⟩, h2⟩
theorem AllI.step {w A B : World} {r : Nat} {s : List (It × Iv)} {x y : Hst} (h : AllI w r s x A) (hw : w.heap.size ≤ r) (hab : AbQ (r + 2) x A y B) : AllI w r s y B := by
 obtain ⟨v, h1, _⟩ := h
 obtain ⟨hg, e⟩ := hab
 exact ⟨v, h1.grown hw hg fun j e => by injection e with e; exact ⟨by omega, fun h => by omega⟩, fun _ => by rw [e]; exact h1⟩
theorem items_calls (s : Bytes) (w : World) : Calls Tryz.prog 56 #[.string (bs s)] w (fun e w' => e = .returned (.func (.func 78) #[] #[.pointer (some ⟨w.heap.size, 0, none⟩)]) ∧ w' = w.alloc (.cells #[.string (bs s)] 9)) := by
 go_enter Tryz.func56, Tryz.ntmps56
 go_wp2
 go_ret
 exact ⟨rfl, rfl⟩
theorem items_stops (n : Nat) (hn : 1 ≤ n) (q : Nat) (l : List It) (hl : (putL l).length ≤ 1000000000)
  (hall : ∀ x ∈ l, ∀ l', x = .list l' → ∀ w', Calls Tryz.prog 36 #[.string (bs (putL l'))] w' (AllP w' l')) (x0 : Hst) (W0 : World) (K0 : Blk W0 q 9 #[.string (bs (putL l))]) :
  SeqSt Fence.wide n Tryz.prog 78 #[.pointer (some ⟨q, 0, none⟩)] (fun y : It × Iv => #[y.2.val, .bool true]) (AtQ l) (fun (_ : Hst) A B => KpQ q A B) (AbQ q) x0 (fun xs => xs.map Prod.fst = l) (fun _ => True) W0 :=
 fun lp J Jx W hW hJ hJx hY h0 => items1_in n hn lp q l hl hall J Jx hJ hY W (K0.below hW) x0 h0
theorem grown_on' {w A B : World} {row : Option Nat} (G : w.grownBy A none) (H : A.grownBy B row) : w.grownBy B row :=
 ⟨H.os.trans G.os, H.tape.trans G.tape, H.output.trans G.output, Nat.le_trans G.size H.size, fun k hk hn => (H.block k (Nat.lt_of_lt_of_le hk G.size) hn).trans (G.block k hk (by simp))⟩
theorem grown_none {w w' : World} (hB : Below w.heap.size w w') : w.grownBy w' none := ⟨hB.os, hB.tape, hB.output, hB.size, fun k hk _ => hB.block k hk⟩
set_option maxRecDepth 100000 in
set_option maxHeartbeats 16000000 in
theorem all_step (l : List It) (hl : (putL l).length ≤ 1000000000)
  (hall : ∀ x ∈ l, ∀ l', x = .list l' → ∀ w', Calls Tryz.prog 36 #[.string (bs (putL l'))] w' (AllP w' l')) (w : World) : Calls Tryz.prog 36 #[.string (bs (putL l))] w (AllP w l) := by
 refine (callsIn_wide (n := 9)).1 ?_
 have hwf : ∀ f, Fence.wide.fn f := fun _ => trivial
 refine callsIn_of_wp_marks Tryz.func36 rfl trivial ?_ rfl
 simp only [Tryz.ntmps36, List.size_toArray, List.length_cons, List.length_nil, Nat.reduceAdd, Nat.reduceSub, Array.replicate_succ, Array.replicate_zero, List.push_toArray, List.append_toArray, List.nil_append, List.cons_append]
 gi_wp2_with fail
 refine wpIn_scope ?_
 gi_wp2_with fail
 refine wpIn_label ?_
 gi_wp2_with (gi_at_call 56; refine (callsIn_wide.2 (items_calls _ _)).mono ?_; rintro e w' ⟨rfl, rfl⟩)
 obtain ⟨W0, hW0⟩ : ∃ W0, ((w.alloc (Obj.cells #[.slice none 0 0] 50)).alloc (Obj.cells #[.bool true] 4)).alloc (Obj.cells #[.string (bs (putL l))] 9) = W0 := ⟨_, rfl⟩
 have hs0 : W0.heap.size = w.heap.size + 3 := by rw [← hW0]; simp
 have KR : Blk W0 w.heap.size 50 #[.slice none 0 0] := by rw [← hW0]; exact ((Blk.new0 _ _ _).alloc _).alloc _
 have KG : Blk W0 (w.heap.size + 1) 4 #[.bool true] := by rw [← hW0]; exact (Blk.new1 _ _ _ _).alloc _
 have KQ : Blk W0 (w.heap.size + 2) 9 #[.string (bs (putL l))] := by rw [← hW0]; exact Blk.new2 _ _ _ _ _
 have hB0 : Below w.heap.size w W0 := by rw [← hW0]; exact bel
 have hV0 : AllV w w.heap.size (.slice none 0 0) [] W0 := ⟨KR, KG, IRow.nil _ _, hB0, by simp, by omega⟩
 have hI0 : AllI w w.heap.size [] (W0, 0) W0 := ⟨_, hV0, fun _ => hV0⟩
 rw [hW0]
 clear hW0 KR KG hV0
 obtain ⟨r, hr⟩ : ∃ r, w.heap.size = r := ⟨_, rfl⟩
 have hwr : w.heap.size ≤ r := by omega
 rw [hr] at KQ hI0 hs0 ⊢
 have hf := enters_of Tryz.func78 (by kernel_rfl) rfl
 refine wpIn_rangeFunc_stc rfl (by decide) (gf := 78) (lb := #[.pointer (some ⟨r + 2, 0, none⟩)]) rfl trivial hf
  (items_stops 8 (by decide) (r + 2) l hl hall (W0, 0) W0 KQ) (fun _ => rfl) (fun _ _ _ _ h k => ⟨Nat.le_trans h.1 k.1, fun hq => (k.2 (Nat.lt_of_lt_of_le hq h.1)).trans (h.2 hq)⟩) (fun x W l o o' hl h1 h2 h3 => ⟨by simp, fun _ => World.putObj_heap_other (by omega)⟩)
  (fun x A y B k o hab hkk hA ho _ => (hab.1.block k (Array.getElem?_eq_some_iff.1 hA).1 (fun e => by injection e with e; omega)).trans hA)
  (fun pre y x W l o o' h hl h1 h2 => ⟨h.1, h.2.1, h.2.2.keep2 (by simp) fun b hb _ hcs => ⟨hb, World.putObj_heap_other (fun e => by subst e; obtain ⟨cs, t, fz, hcs⟩ := hcs; rw [h1] at hcs; injection hcs with hcs; subst hcs; cases h2)⟩⟩)
  (fun s x W => AllI w r s x W) (fun c _ x W => False)
  (fun _ s A B row h hg hr => AllI.own h hwr hg hr (by omega)) (fun _ _ s A B row h hg hr => h)
  (fun s x A y B h hab => AllI.step h hwr hab) (fun _ s x A y B h hab => h) hI0
  (fun y c => { tmps := #[.string (bs (putL l)), undef, .slice none 0 0, .bool false, .pointer (some ⟨r, 0, none⟩), .pointer (some ⟨r + 1, 0, none⟩), .pointer (some ⟨c, 0, none⟩), .bool true, .string (bs (putL l)),
   .func (.func 78) #[] #[.pointer (some ⟨r + 2, 0, none⟩)], y.2.val, .bool true, undef, undef, undef, undef, undef, undef, undef, undef, undef, undef], defers := [] })
  (fun y => .cells #[.bool y.2.f, .string (bs y.2.t), .slice y.2.A y.2.n y.2.c] 52)
  (fun x W o => ⟨by simp, fun hq => Below.heap_alloc W _ _ hq⟩) (fun pre y x W o h => ⟨h.1, h.2.1, h.2.2.on ((Below.refl _ _).alloc (Nat.le_refl _) _)⟩)
  ?assign ?body ?done ?stop
 case assign =>
  intro l y W K hK
  gi_wp2
  exact hK
 case stop =>
  rintro D c pre x W hD _ h hK
  exact h.elim
 case done =>
  rintro D xs x W hD hxs ⟨v, ⟨h1, h2, h3, h4, h5, h6⟩, _⟩ hK
  have hKD := Lib.hid hK
  have K0 := Lib.hid h1
  have K1 := Lib.hid h2
  have H3 := Lib.hid h3
  have H4 := Lib.hid h4
  have H5 := Lib.hid h5
  clear h1 h2 h3 h4 h5 hK hI0 KQ hB0 hall
  (obtain ⟨k0, f0, l0, m0⟩ := K0.out.rl; obtain ⟨k1, f1, l1, m1⟩ := K1.out.rl)
  gi_wp2_with fail
  refine wpIn_wide.2 ?_
  (refine wp_region_later (by kernel_rfl) (by kernel_rfl) ?_; (repeat (go_big_quiet_step (fail))); refine wpQuiet_nil ?_; intro w' hB)
  have hD2 : w'.heap[D]? = some (.deferred (some [])) := (hB.block D (Array.getElem?_eq_some_iff.1 hKD.out).1).trans hKD.out
  have hG2 : W.grownBy (w'.putObj D (.deferred none)) (some D) := grown_on' (grown_none hB) (grownBy_putObj' w' D _)
  obtain ⟨A, c, rfl, hlc, hcm, hcs⟩ := H3.out.shape
  have hll : (xs.map Prod.snd).length = l.length := by rw [← hxs]; simp
  have hne : ∀ b, r + 3 ≤ b → b < W.heap.size → (∃ cs t fz, W.heap[b]? = some (.cells cs t fz)) → (w'.putObj D (.deferred none)).heap[b]? = W.heap[b]? := fun b hb hlt ⟨cs, t, fz, hc⟩ => hG2.block b hlt (fun e => by
   injection e with e
   subst e
   rw [hKD.out] at hc
   cases hc)
  have hfin : AllP w l (.returned (.tuple #[.slice A (xs.map Prod.snd).length c, .bool true])) (w'.putObj D (.deferred none)) := by
   refine ⟨A, c, by rw [hll], by rw [← hll]; exact hlc, hcm, ⟨xs.map Prod.snd, hll, hcs.keep2 hG2.size fun b hb hlt hc => ⟨by omega, hne b hb.1 hlt hc⟩, fun i x v hx hv => ?_⟩, H4.out.grown hG2 H4.out.size fun j e => by injection e with e; omega⟩
   rw [← hxs, List.getElem?_map] at hx
   rw [List.getElem?_map] at hv
   cases hi : xs[i]? with
   | none => rw [hi] at hx; cases hx
   | some y =>
    rw [hi] at hx hv
    simp only [Option.map_some, Option.some.injEq] at hx hv
    subst hx hv
    exact (H5.out y (List.mem_of_getElem? hi)).keep2 hG2.size fun b hb hlt hc => ⟨by omega, hne b hb.1 hlt hc⟩
  replace hfin := Lib.hid hfin
  clear k0 f0 l0 m0 k1 f1 l1 m1 K0 K1 H3 H4 H5 hne hcs hG2 hB hKD
  gi_wp2_with fail
  rw [Exit.noGoto_ret]
  exact ⟨by simp, .inl ⟨_, _, rfl, run_takeDeferred hD2, ⟨_, by simp [results, Tryz.results36, go_sem], hfin.out⟩⟩⟩
 case body =>
  rintro l2 pre y x W c ⟨v, hV, hV1⟩ ⟨a1, a2, a3⟩ hcl hbox ⟨A0, ⟨v0, hV0, _⟩, hA0c, hA0⟩
  have hrc : r + 3 ≤ c := by omega
  have hvc : ∀ j, v.ownBlock = some j → j < c := fun j hj => by
   have e : Blk W r 50 #[v0] := (hA0 r (by omega) (by omega)).trans hV0.1
   have e2 := hV.1
   unfold Blk at e e2
   rw [e] at e2
   injection e2 with e2
   injection e2 with e2
   have e3 : v0 = v := by simpa using e2
   rw [← hA0c]
   exact (hV0.2.2.1.lt j (e3 ▸ hj)).2
  replace hV1 := hV1 a1
  obtain ⟨x1, x2, x3, x4, x5, x6⟩ := hV1
  obtain ⟨h1, h2, h3, h4, h5, h6⟩ := hV
  obtain ⟨A, cap, rfl, hnc, hcm, _⟩ := h3.shape
  obtain ⟨y1, f, t, yA, yn, yc⟩ := y
  have hbx : Blk W c 52 #[.bool f, .string (bs t), .slice yA yn yc] := hbox
  have hnl : (pre.map Prod.snd).length = pre.length := by simp
  have hpl : pre.length ≤ l.length := by have := (List.getElem?_eq_some_iff.1 a2).1; omega
  have hll : l.length ≤ 1000000000 := Nat.le_trans (putL_ge l) hl
  rw [hnl] at h3 h1 h5 x3 hvc
  have K0 := Lib.hid h1
  have K1 := Lib.hid h2
  have K2 := Lib.hid hbx
  have H3 := Lib.hid h3
  have H4 := Lib.hid h4
  have H5 := Lib.hid h5
  have X3 := Lib.hid x3
  have A3 := Lib.hid a3
  have A1 := Lib.hid a1
  have hn0 : pre.length ≤ 1000000000 := by omega
  obtain ⟨n, hn⟩ : ∃ n, pre.length = n := ⟨_, rfl⟩
  have HN := Lib.hid hn
  rw [hn] at K0 H3 H5 X3 hn0 hvc
  have hx6 := Lib.hid x6
  clear h1 h2 hbx h3 h4 h5 x1 x2 x3 x4 x5 x6 a1 a2 a3 hnl hnc hpl hll hn hI0 KQ hB0 hall hbox
  (obtain ⟨k0, f0, l0, m0⟩ := K0.out.rl; obtain ⟨k1, f1, l1, m1⟩ := K1.out.rl; obtain ⟨k2, f2, l2, m2⟩ := K2.out.rl)
  gi_wp2_with fail
  refine wpIn_round_held (fun w' => w'.cell? ⟨r, 0, none⟩ = some (.slice A n cap) ∧ w'.cell? ⟨c, 0, none⟩ = some (.bool f) ∧ w'.cell? ⟨c, 1, none⟩ = some (.string (bs t)) ∧ w'.cell? ⟨c, 2, none⟩ = some (.slice yA yn yc)) (fun j => decide (j < 5)) (by kernel_rfl) ?_
  have hS0 : W.drew.cell? ⟨r, 0, none⟩ = some (.slice A n cap) ∧ W.drew.cell? ⟨c, 0, none⟩ = some (.bool f) ∧ W.drew.cell? ⟨c, 1, none⟩ = some (.string (bs t)) ∧ W.drew.cell? ⟨c, 2, none⟩ = some (.slice yA yn yc) := ⟨k0 0, k2 0, k2 1, k2 2⟩
  refine S_tk 0 (.slice A n cap) rfl hS0 (fun w' h => by obtain ⟨h1, h2, h3, h4⟩ := h; go_simp) ?_
  refine S_tk 1 (itV f t yA yn yc) rfl hS0 (fun w' h => by obtain ⟨h1, h2, h3, h4⟩ := h; go_simp) ?_
  refine S_tk 2 (.int .i64 (n : Int)) rfl hS0 (fun w' h => by go_simp) ?_
  refine S_one 3 (by kernel_rfl) rfl (fun K hK => ?_)
  go_simp
  refine hK _ _ ⟨fun _ => ⟨?_, ?_, ?_, ?_⟩, ?_⟩
  ·go_simp
  ·go_simp
  ·go_simp
  ·go_simp
  clear hK K
  refine S_oneL 4 (by kernel_rfl) rfl ?_
  have hBa : Below W.heap.size W ((W.alloc (Obj.cells #[.bool false, .string ⟨#[]⟩, .slice none 0 0] 52)).drew) := ((Below.refl _ W).alloc (Nat.le_refl _) _).drew
  have hza : ((W.alloc (Obj.cells #[.bool false, .string ⟨#[]⟩, .slice none 0 0] 52)).drew).heap.size = W.heap.size + 1 := by simp
  have hnew : ∀ (j : Nat) y, zIv.cells[j]? = some y → ((W.alloc (Obj.cells #[.bool false, .string ⟨#[]⟩, .slice none 0 0] 52)).drew).cell? ((⟨W.heap.size, 0, none⟩ : Addr).add j) = some y := fun j y hy => by
   rw [Addr.add_mid, Nat.zero_add]
   exact ((Blk.new0 W 52 #[.bool false, .string ⟨#[]⟩, .slice none 0 0]).cell j).trans (by rw [List.getElem?_toArray]; exact hy)
  obtain ⟨Wa, hWa⟩ : ∃ Wa, (W.alloc (Obj.cells #[.bool false, .string ⟨#[]⟩, .slice none 0 0] 52)).drew = Wa := ⟨_, rfl⟩
  rw [hWa] at hBa hza hnew ⊢
  clear hWa
  refine wpListIn_append_item rfl _ _ rfl (r + 3) (.slice A n cap) (pre.map Prod.snd) (by rfl) (H3.out.keep (grown_none hBa) fun _ _ e => by cases e) zIv ⟨W.heap.size, 0, none⟩ (by rfl) hnew (by simpa [HN.out] using hn0) (by have := hx6.out; omega) ?_
  intro v' W' HR hg hat
  have hlt2 : ∀ j, (Value.slice A n cap).ownBlock = some j → r + 3 ≤ j ∧ j < W.heap.size := fun j hj => H3.out.lt j hj
  have hltx : ∀ j, (Value.slice A n cap).ownBlock = some j → j < x.1.heap.size := fun j hj => (X3.out.lt j hj).2
  have hgW : W.grownBy W' (Value.slice A n cap).ownBlock := grown_on' (grown_none hBa) hg
  have hno : ∀ j, j < r + 3 → some j ≠ (Value.slice A n cap).ownBlock := fun j hj e => by have := (hlt2 j e.symm).1; omega
  obtain ⟨A', cap', hv', hnc', hcm', _⟩ := HR.shape
  have hvl : (pre.map Prod.snd ++ [zIv]).length = n + 1 := by rw [List.length_append, List.length_map, HN.out]; rfl
  rw [hvl] at hv' hnc'
  have hv0 := HR.2
  obtain ⟨g2, rfl⟩ : ∃ g2, A' = some ⟨g2, 0, none⟩ := by
   rcases hv0 with ⟨e, h0⟩ | ⟨g, cap, cur, e, _⟩
   ·omega
   ·rw [hv'] at e
    injection e with e
    exact ⟨g, e⟩
  subst hv'
  have hg2 : (g2 = W.heap.size + 1) ∨ (Value.slice A n cap).ownBlock = some g2 := by
   rcases hat with h | h
   ·exact .inr h.symm
   ·rw [hza] at h
    injection h with h
    exact .inl h
  have hg2r : r + 3 ≤ g2 := by
   rcases hg2 with h | h
   ·omega
   ·exact (hlt2 _ h).1
  have P0 := Lib.hid (K0.out.grown hgW (hno _ (by omega)))
  have P1 := Lib.hid (K1.out.grown hgW (hno _ (by omega)))
  have P2 := Lib.hid (K2.out.grown hgW (fun e => by have := hvc c e.symm; omega))
  have hc2 : c ≠ g2 := fun e => by
   rcases hg2 with h | h
   ·have := K2.out.lt; omega
   ·have := hvc g2 h; omega
  -- the row with the item in it
  have hput := HR.put (by rw [List.length_map, HN.out]) ⟨f, t, yA, yn, yc⟩
  have hth := HR.there (n * 3) (by rw [List.length_map, HN.out])
  rw [List.length_map, HN.out] at hput
  obtain ⟨hR2, hgr2⟩ := hput
  obtain ⟨W2, hW2⟩ : ∃ W2, W'.setCells g2 (n * 3) (Iv.cells ⟨f, t, yA, yn, yc⟩) = W2 := ⟨_, rfl⟩
  rw [hW2] at hR2 hgr2
  have Q0 := Lib.hid (P0.out.grown hgr2 (fun e => by injection e with e; omega))
  have Q1 := Lib.hid (P1.out.grown hgr2 (fun e => by injection e with e; omega))
  have hz2 : W.heap.size ≤ W2.heap.size := Nat.le_trans hgW.size hgr2.size
  have hKO : KeepsOthers W W2 := KeepsOthers.trans (KeepsOthers.of_grownBy hgW fun j o e ho => by
    obtain ⟨cs, tt, fz, hcs⟩ := H3.out.cells j e
    rw [hcs] at ho
    injection ho with ho
    subst ho
    rfl) (KeepsOthers.of_grownBy hgr2 fun j o e ho => by
    injection e with e
    subst e
    obtain ⟨cs, tt, fz, hcs⟩ := HR.cells g2 rfl
    rw [hcs] at ho
    injection ho with ho
    subst ho
    rfl)
  have hblk : ∀ b, b < W.heap.size → (Value.slice A n cap).ownBlock ≠ some b → b ≠ g2 → W2.heap[b]? = W.heap[b]? := fun b hb h1 h2 => (hgr2.block b (Nat.lt_of_lt_of_le hb hgW.size) (fun e => by injection e with e; omega)).trans (hgW.block b hb (Ne.symm h1))
  have hng2 : ∀ b, b < W.heap.size → (Value.slice A n cap).ownBlock ≠ some b → b ≠ g2 := fun b hb h1 e => by
   rcases hg2 with h | h
   ·omega
   ·exact h1 (e ▸ h)
  have hKp : KpQ (r + 2) W W2 := ⟨hz2, fun hq => hblk _ hq (fun e => hno (r + 2) (by omega) e.symm) (by omega)⟩
  have HB2 : Below w.heap.size w W2 := (H4.out.grown hgW H4.out.size fun j e => by have := (hlt2 j e).1; omega).grown hgr2 (Nat.le_trans H4.out.size hgW.size) fun j e => by injection e with e; omega
  have H52 : ∀ z ∈ pre ++ [(y1, (⟨f, t, yA, yn, yc⟩ : Iv))], RepS (fun b => r + 3 ≤ b ∧ (Value.slice (some ⟨g2, 0, none⟩) (n + 1) cap').ownBlock ≠ some b) W2 z.1 z.2 := fun z hz => by
   rcases List.mem_append.1 hz with hz | hz
   ·exact (H5.out z hz).keep hz2 fun b hb hlt => ⟨⟨hb.1, fun e => by injection e with e; exact hng2 b hlt hb.2 e.symm⟩, hblk b hlt hb.2 (hng2 b hlt hb.2)⟩
   ·rw [List.mem_singleton] at hz
    subst hz
    have hnb : ∀ b, x.1.heap.size ≤ b → (Value.slice A n cap).ownBlock ≠ some b := fun b hb e => by have := hltx b e; omega
    exact A3.out.keep hz2 fun b hb hlt => ⟨⟨by have := hx6.out; omega, fun e => by injection e with e; exact hng2 b hlt (hnb b hb) e.symm⟩, hblk b hlt (hnb b hb) (hng2 b hlt (hnb b hb))⟩
  replace hR2 := Lib.hid hR2
  replace hKO := Lib.hid hKO
  replace hKp := Lib.hid hKp
  replace HB2 := Lib.hid HB2
  replace H52 := Lib.hid H52
  replace hth := Lib.hid hth
  replace hW2 := Lib.hid hW2
  clear hgW hg hat HR hgr2 hblk hng2 hlt2 hltx hno hnew hBa hza k0 f0 l0 m0 k1 f1 l1 m1 k2 f2 l2 m2 K0 K1 K2 H3 H4 H5 X3 A3 hS0
  have k0 := Blk.cell P0.out
  have k2 := Blk.cell P2.out
  have hS0 : W'.cell? ⟨r, 0, none⟩ = some (.slice A n cap) ∧ W'.cell? ⟨c, 0, none⟩ = some (.bool f) ∧ W'.cell? ⟨c, 1, none⟩ = some (.string (bs t)) ∧ W'.cell? ⟨c, 2, none⟩ = some (.slice yA yn yc) := ⟨k0 0, k2 0, k2 1, k2 2⟩
  refine ⟨fun _ => hS0, ?_⟩
  have hfin : KeepsOthers W (W2.setCell ⟨r, 0, none⟩ (.slice (some ⟨g2, 0, none⟩) (n + 1) cap')) ∧ KpQ (r + 2) W (W2.setCell ⟨r, 0, none⟩ (.slice (some ⟨g2, 0, none⟩) (n + 1) cap')) ∧
    AllI w r (pre ++ [(y1, (⟨f, t, yA, yn, yc⟩ : Iv))]) x (W2.setCell ⟨r, 0, none⟩ (.slice (some ⟨g2, 0, none⟩) (n + 1) cap')) := by
   have G9 : W2.grownBy (W2.setCell ⟨r, 0, none⟩ (.slice (some ⟨g2, 0, none⟩) (n + 1) cap')) (some r) := grown_set (World.grownBy.refl _ _)
   refine ⟨hKO.out.trans (KeepsOthers.setCell _ _ _), ⟨Nat.le_trans hKp.out.1 (by simp), fun hq => (Below.heap_setCell _ _ _ _ (by simp)).trans (hKp.out.2 hq)⟩, .slice (some ⟨g2, 0, none⟩) (n + 1) cap', ⟨Blk.to (Blk.set_ Q0.out 0 _) rfl, Q1.out.over2 (by omega), ?_, HB2.out.setCell (by exact hwr) _, ?_, by simp; omega⟩, fun e => ?_⟩
   ·rw [List.map_append]
    exact hR2.out.keep G9 fun j hj e => (by injection e with e; have hj2 : g2 = j := (by simpa [Value.ownBlock] using hj); omega)
   ·exact fun z hz => (H52.out z hz).keep G9.size fun b hb _ => ⟨hb, Below.heap_setCell _ _ _ _ (by simp; omega)⟩
   ·have := A1.out
    rw [List.length_append] at e
    simp at e
    omega
  have hcomm := setCells_comm g2 ⟨r, 0, none⟩ (.slice (some ⟨g2, 0, none⟩) (n + 1) cap') (by simp; omega) (Iv.cells ⟨f, t, yA, yn, yc⟩) (n * 3) W'
  rw [hW2.out] at hcomm
  have hlt9 : ¬ ((n : Int) + 1 ≤ (n : Int)) := by omega
  have f0 := Blk.free P0.out
  have q0 := Blk.cell Q0.out
  have qf := Blk.free Q0.out
  have hthB : (W'.setCell ⟨r, 0, none⟩ (.slice (some ⟨g2, 0, none⟩) (n + 1) cap')).there g2 (n * 3) 3 := fun j hj => by
   obtain ⟨e1, e2⟩ := hth.out j hj
   exact ⟨by rw [World.cell?_setCell_other _ _ _ _ (by intro e; injection e with e; omega)]; exact e1, by rw [← e2]; exact World.frozen?_setCell _ _ _ _⟩
  replace hfin := Lib.hid hfin
  replace hcomm := Lib.hid hcomm
  replace hthB := Lib.hid hthB
  clear hKO hKp HB2 H52 hR2 Q1 Q0 P0 P1 P2
  refine S_twoL 5 7 (by kernel_rfl) rfl rfl ?_ ?_
  ·gi_wp2_with fail
   simp only [oneQ]
   (try refine ⟨(fun h : decide _ = true => by cases h), ?_⟩)
   refine S_twoL 6 7 (by kernel_rfl) rfl rfl ?_ ?_
   ·refine wpListIn_store_mid rfl 52 _ _ rfl g2 (n * 3) #[.bool f, .string (bs t), .slice yA yn yc] (by rfl) (by rfl) hth.out sizeItem (by simp [Value.oneCell']) ?_
    rw [show (#[.bool f, .string (bs t), .slice yA yn yc] : Array Value).toList = Iv.cells ⟨f, t, yA, yn, yc⟩ from rfl, hW2.out]
    refine ⟨(fun h => by cases h), ?_⟩
    refine S_end 7 (ls := [_]) rfl (fun j hj => by simp; omega) (by kernel_rfl) ?_
    gi_wp2_with fail
    refine ⟨rfl, ?_⟩
    gi_wp2_with fail
    exact hfin.out
   ·gi_wp2_with fail
    simp only [oneQ]
    (try refine ⟨(fun h : decide _ = true => by cases h), ?_⟩)
    refine S_oneL (fuel := 0) 6 (by kernel_rfl) rfl ?_
    refine wpListIn_store_mid rfl 52 _ _ rfl g2 (n * 3) #[.bool f, .string (bs t), .slice yA yn yc] (by rfl) (by rfl) hthB.out sizeItem (by simp [Value.oneCell']) ?_
    rw [show (#[.bool f, .string (bs t), .slice yA yn yc] : Array Value).toList = Iv.cells ⟨f, t, yA, yn, yc⟩ from rfl, hcomm.out]
    refine ⟨(fun h => by cases h), ?_⟩
    refine S_end 8 (ls := []) rfl (fun j hj => by simp; omega) (by kernel_rfl) ?_
    refine ⟨rfl, ?_⟩
    gi_wp2_with fail
    exact hfin.out
  ·gi_wp2_with fail
   simp only [oneQ]
   (try refine ⟨(fun h : decide _ = true => by cases h), ?_⟩)
   refine S_oneL 5 (by kernel_rfl) rfl ?_
   gi_wp2_with fail
   simp only [oneQ]
   (try refine ⟨(fun h : decide _ = true => by cases h), ?_⟩)
   refine S_oneL (fuel := 0) 6 (by kernel_rfl) rfl ?_
   refine wpListIn_store_mid rfl 52 _ _ rfl g2 (n * 3) #[.bool f, .string (bs t), .slice yA yn yc] (by rfl) (by rfl) hthB.out sizeItem (by simp [Value.oneCell']) ?_
   rw [show (#[.bool f, .string (bs t), .slice yA yn yc] : Array Value).toList = Iv.cells ⟨f, t, yA, yn, yc⟩ from rfl, hcomm.out]
   refine ⟨(fun h => by cases h), ?_⟩
   refine S_end 8 (ls := []) rfl (fun j hj => by simp; omega) (by kernel_rfl) ?_
   refine ⟨rfl, ?_⟩
   gi_wp2_with fail
   exact hfin.out
end Go.Proofs.YthhlbdgladhdkaaGreatDoor
end
section
namespace Go.Proofs.YthhlbdgladhdkaaGreatDoor
open BigFrame Go.RowKit Go.Phx Go.Shelf
attribute [local go_sem] Oper.semAt_some

def KeepU (b : Nat) (W W' : World) : Prop := ∀ k o, W.heap[k]? = some o → k ≠ b → (∀ cs fz, o ≠ .cells cs 5 fz) → W'.heap[k]? = some o
theorem KeepU.refl (b : Nat) (W : World) : KeepU b W W := fun _ _ h _ _ => h
theorem KeepU.trans {b : Nat} {A B C : World} (h : KeepU b A B) (k : KeepU b B C) : KeepU b A C := fun j o e hn ho => k j o (h j o e hn ho) hn ho
theorem KeepU.setCell (b i : Nat) (W : World) (v : Value) : KeepU b W (W.setCell ⟨b, i, none⟩ v) := fun k o e hn _ => (Below.heap_setCell _ _ _ _ (by simpa using hn)).trans e
theorem KeepU.below {b : Nat} {W W' : World} (h : Below W.heap.size W W') : KeepU b W W' := fun k o e _ _ => (h.block k (Array.getElem?_eq_some_iff.1 e).1).trans e
theorem KeepU.grown {b : Nat} {W W' : World} {r : Option Nat} (G : W.grownBy W' r) (hr : ∀ j, r = some j → ∃ cs fz, W.heap[j]? = some (.cells cs 5 fz)) : KeepU b W W' := fun k o e _ ho => (G.block k (Array.getElem?_eq_some_iff.1 e).1 (fun h => by
  obtain ⟨cs, fz, hc⟩ := hr k h.symm
  rw [hc] at e
  injection e with e
  exact ho cs fz e.symm)).trans e
theorem KeepU.others {b : Nat} {W W' : World} (h : KeepU b W W') (hb : ∃ cs t fz, W.heap[b]? = some (.cells cs t fz)) (hz : W.heap.size ≤ W'.heap.size) : KeepsOthers W W' := by
 refine ⟨hz, fun k o hk ho => h k o hk (fun e => ?_) (fun cs fz e => ?_)⟩
 ·subst e
  obtain ⟨cs, t, fz, hc⟩ := hb
  rw [hc] at hk
  injection hk with hk
  subst hk
  cases ho
 ·subst e
  cases ho
theorem check_anyK (B b : Nat) (xs : List Value) (w : World) (h : Lib.IsBuilder 66 5 B b xs w) :
  Calls Tryz.prog 38 #[.pointer (some ⟨b, 0, none⟩)] w fun e w' => e = .returned (.tuple #[]) ∧ (Lib.BuilderAt 66 5 B b (.pointer (some ⟨b, 0, none⟩)) xs w' ∧ Below B w w' ∧ KeepU b w w') := by
 rcases h with h | h
 ·refine (check_fresh b w h.cell0 h.shape h.frozen0).mono ?_
  rintro e w' ⟨rfl, rfl⟩
  exact ⟨rfl, h.used _, (Below.refl B w).setCell (p := ⟨b, 0, none⟩) h.1 _, KeepU.setCell _ _ _ _⟩
 ·refine (check_used b w h.cell0).mono ?_
  rintro e w' ⟨rfl, rfl⟩
  exact ⟨rfl, h, Below.refl B _, KeepU.refl _ _⟩
set_option maxRecDepth 100000 in
set_option maxHeartbeats 1000000 in
theorem write_byteK (B b : Nat) (l : List UInt8) (c : UInt8) (w : World) (h : BldAt B b l w) (hlen : l.length + 1 ≤ 140737488355328) (hBw : B ≤ w.heap.size) :
  Calls Tryz.prog 52 #[.pointer (some ⟨b, 0, none⟩), .int .u8 (c.toNat : Int)] w fun e w' => e = .returned .nilIface ∧ BldAt B b (l ++ [c]) w' ∧ Below B w w' ∧ KeepU b w w' := by
 obtain ⟨i0, hi, hz0, hz1, hz2⟩ := info_parts infoU8b
 have hl : (Lib.byteCells l).length = l.length := by simp [Lib.byteCells]
 obtain ⟨bs, hbs⟩ : ∃ bs, Lib.byteCells l = bs := ⟨_, rfl⟩
 have hbs2 : Lib.byteCells (l ++ [c]) = bs ++ [.int .u8 (c.toNat : Int)] := by rw [← hbs]; simp [Lib.byteCells]
 have HBS := Lib.hid hbs2
 unfold BldAt at h
 rw [hbs] at h hl
 have hlen2 : bs.length + 1 ≤ 140737488355328 := by omega
 clear hbs hbs2 hl hlen
 go_enter Tryz.func52, Tryz.ntmps52
 go_wp2_with (go_at_call 38; refine (check_anyK B b bs _ h).mono ?_)
 rintro e w1 ⟨rfl, h1, hb1, hku⟩
 replace hku := Lib.hid hku
 obtain ⟨hB, v, hbk, hown, hne⟩ := h1
 have c0 : w1.cell? ⟨b, 0, none⟩ = some (.pointer (some ⟨b, 0, none⟩)) := by rw [Lib.cell_of_heap hbk]; rfl
 have c1 : w1.cell? ⟨b, 1, none⟩ = some v := by rw [Lib.cell_of_heap hbk]; rfl
 go_wp2_with (at_builtin; refine wpList_append_own _ rfl _ _ 42 rfl B 5 i0 (.int .u8 0) 1 1 Tryz.underlying42 hi hz0 hz1 hz2 rfl (by decide) _ _ _ rfl (hown.alloc _) ⟨w1.heap.size, 0, none⟩ 1 1 [.int .u8 (c.toNat : Int)] rfl rfl (news1 _ _ _) (by simp [Value.oneCell']) (by unfold maxLen; omega) (by omega) (by have := hb1.size; simp; omega) ?_)
 intro v' w2 hown' hgrow _
 have hlt : b < w1.heap.size := (Array.getElem?_eq_some_iff.1 hbk).1
 have hb2 : w2.heap[b]? = some (.cells #[.pointer (some ⟨b, 0, none⟩), v] 66 (0, 0)) := by
  rw [hgrow.block b (by simp; omega) (fun e => hne e.symm), Lib.alloc_old w1 _ b hlt]
  exact hbk
 have hku2 : KeepU b w w2 := (hku.out.trans (KeepU.below ((Below.refl _ _).alloc (Nat.le_refl _) _))).trans (KeepU.grown hgrow fun j hj => by
  have hown2 := hown.alloc (.cells #[.int .u8 (c.toNat : Int)] 5)
  rcases hown2.2 with ⟨rfl, _⟩ | ⟨g, cap, cur, rfl, _, hg, _⟩
  ·cases hj
  ·injection hj with hj
   subst hj
   exact ⟨cur, (0, 0), hg⟩)
 replace hku2 := Lib.hid hku2
 have d0 : w2.cell? ⟨b, 0, none⟩ = some (.pointer (some ⟨b, 0, none⟩)) := by rw [Lib.cell_of_heap hb2]; rfl
 have d1 : w2.cell? ⟨b, 1, none⟩ = some v := by rw [Lib.cell_of_heap hb2]; rfl
 have f1 : w2.frozen? ⟨b, 1, none⟩ = false := Lib.frozen_of_heap hb2 1
 obtain ⟨g, cap, rfl⟩ := ownsRow_succ hown'
 go_wp2_with fail
 go_ret
 refine ⟨rfl, ?_, ((hb1.alloc (by have := hb1.size; omega) _).grown hgrow (by have := hb1.size; simp; omega) (fun k hk => (hown.lt k hk).1)).setCell (p := ⟨b, 1, none⟩) hB _, hku2.out.trans (KeepU.setCell _ _ _ _)⟩
 unfold BldAt
 rw [HBS.out]
 exact .inr (Lib.BuilderAt.put hB hb2 (bs' := bs ++ [.int .u8 (c.toNat : Int)]) (by simpa using hown') (by decide))
theorem bld_stringK (B b : Nat) (l : List UInt8) (w : World) (h : BldAt B b l w) (hBw : B ≤ w.heap.size) :
  Calls Tryz.prog 24 #[.pointer (some ⟨b, 0, none⟩)] w fun e w' => e = .returned (.string (bs l)) ∧ Below B w w' ∧ KeepU b w w' :=
 (Tryz.Builder_String_any_k B b l w (Lib.IsBuilderF.of h) hBw).mono fun e w' h => ⟨h.1, h.2.2.1, fun k o e hn ho => h.2.2.2 k o e (fun e => hn (by injection e)) ho⟩
end Go.Proofs.YthhlbdgladhdkaaGreatDoor
end
