/- What the later texts stand on (Tre, HeldH, Rfr): plain laws and walks, each by its own conditions. -/
import Derived.Test.YthhlbdgladhdkaaGreatDoorUs14
import Derived.Test.YthhlbdgladhdkaaGreatDoorUs13
import Derived.Test.YthhlbdgladhdkaaGreatDoorUs10
import Derived.Test.YthhlbdgladhdkaaGreatDoorUs4
import Derived.Test.YthhlbdgladhdkaaGreatDoorUs9
import Derived.Deep.DeepCutAuto
set_option linter.unusedSimpArgs false
set_option linter.unusedVariables false
section
namespace Go.Proofs.YthhlbdgladhdkaaGreatDoor
open BigFrame Go.RowKit Go.Phx Go.Shelf
attribute [local go_sem] Oper.semAt_some

abbrev ptrV (p : Nat) : Value := .pointer (some ⟨p, 0, none⟩)
def ledL (l : List (Bytes × Nd)) : List Value := l.map fun x => .string (bs x.1)
inductive TrS (S : Nat → Prop) (W : World) : Nd → Nat → Prop
 | mk (d : Nd) (b : Nat) (v : Iv) (A B : Option Addr) (k c1 c2 : Nat) (ps : List Nat) (hb : S b) (hK : Blk W b 86 #[.bool v.f, .string (bs v.t), .slice v.A v.n v.c, .string (bs (bytesN kecc d)), .slice A k c1, .slice B k c2])
   (R : RepS S W (itemN kecc d) v) (hk : (kidsN d).length = k) (hkm : k ≤ maxLen) (hps : ps.length = k) (hA : CsS S W A (ledL (kidsN d))) (hB : CsS S W B (ps.map ptrV)) (h : ∀ (i : Nat) x p, (kidsN d)[i]? = some x → ps[i]? = some p → TrS S W x.2 p) : TrS S W d b
theorem TrS.keep2 {S S' : Nat → Prop} {W W' : World} {d : Nd} {b : Nat} (h : TrS S W d b) (hz : W.heap.size ≤ W'.heap.size) (hS : ∀ b, S b → b < W.heap.size → (∃ cs t fz, W.heap[b]? = some (.cells cs t fz)) → S' b ∧ W'.heap[b]? = W.heap[b]?) : TrS S' W' d b := by
 induction h with
 | mk d b v A B k c1 c2 ps hb hK R hk hkm hps hA hB h ih =>
  obtain ⟨h1, h2⟩ := hS b hb hK.lt ⟨_, _, _, hK⟩
  exact .mk d b v A B k c1 c2 ps h1 (h2.trans hK) (R.keep2 hz hS) hk hkm hps (hA.keep2 hz hS) (hB.keep2 hz hS) ih
theorem TrS.keep {S S' : Nat → Prop} {W W' : World} {d : Nd} {b : Nat} (h : TrS S W d b) (hz : W.heap.size ≤ W'.heap.size) (hS : ∀ b, S b → b < W.heap.size → S' b ∧ W'.heap[b]? = W.heap[b]?) : TrS S' W' d b := h.keep2 hz fun b h1 h2 _ => hS b h1 h2
theorem TrS.on {S : Nat → Prop} {W W' : World} {d : Nd} {b : Nat} (h : TrS S W d b) (hB : Below W.heap.size W W') : TrS S W' d b := h.keep hB.size fun b hs hb => ⟨hs, hB.block b hb⟩
theorem TrS.weak {S S' : Nat → Prop} {W : World} {d : Nd} {b : Nat} (h : TrS S W d b) (hS : ∀ b, S b → b < W.heap.size → S' b) : TrS S' W d b := h.keep (Nat.le_refl _) fun b hs hb => ⟨hS b hs hb, rfl⟩
theorem TrS.lt {S : Nat → Prop} {W : World} {d : Nd} {b : Nat} (h : TrS S W d b) : S b ∧ b < W.heap.size := by
 cases h with
 | mk _ _ v A B k c1 c2 ps hb hK R hk hkm hps hA hB h => exact ⟨hb, hK.lt⟩
theorem TrS.node {S : Nat → Prop} {W : World} {d : Nd} {b : Nat} (h : TrS S W d b) : ∃ (v : Iv) (A B : Option Addr) (c1 c2 : Nat), Blk W b 86 #[.bool v.f, .string (bs v.t), .slice v.A v.n v.c, .string (bs (bytesN kecc d)), .slice A (kidsN d).length c1, .slice B (kidsN d).length c2] ∧ RepS S W (itemN kecc d) v := by
 cases h with
 | mk _ _ v A B k c1 c2 ps hb hK R hk hkm hps hA hB h =>
  subst hk
  exact ⟨v, A, B, c1, c2, hK, R⟩
end Go.Proofs.YthhlbdgladhdkaaGreatDoor
end
section
namespace Go.Proofs.YthhlbdgladhdkaaGreatDoor
open Go.RowKit Go.Shelf BigFrame Go.Phx

section
variable {P : Program} {ops : Array Oper} {md : Region.Mode} {S : World → Prop} {nd : Nat → Bool} {F : Fence} {m : Nat} {Q : Exit → Act → World → Prop}
theorem anyS_true {nd2 : Nat → Bool} : ∀ (fuel : Nat) (listed : Array Bool) (a : Act) (w : World), anyS F m P md ops Q S nd fuel listed a w → anyS F m P md ops Q (fun _ => True) nd2 fuel listed a w
 | 0, _, _, _, h => h
 | fuel + 1, _, _, _, h => ⟨h.1, fun i hi => wpOpIn_mono (fun a' w' h' => ⟨fun _ => trivial, anyS_true fuel _ a' w' h'.2⟩) (h.2 i hi)⟩
theorem S_skip (hF : ∀ f, F.fn f) (i : Nat) {oi : Oper} {fuel : Nat} {listed : Array Bool} {a : Act} {w : World} (hd : noDefer ops = true) (hi : ops[i]? = some oi)
  (hs : Region.noSelect ops = true) (hf : Region.free md ops listed i = true) (hr : (Region.ready md ops listed).contains i = true) (hn : ndB md ops nd listed i = true)
  (hQ : ∀ c a w, Q (.panic c) (a.put oi.dst undef) w → Q (.panic c) a w) (hS : S w) (hw : Region.wanted oi (yielded ops a.tmps) = false)
  (h : anyS F m P md ops Q S nd fuel (listed.setIfInBounds i true) (a.put oi.dst undef) w) : anyS F m P md ops Q S nd (fuel + 1) listed a w :=
 S_first hF hd hi (Region.noSelect_spec hs) hQ (by simp only [ndB, Bool.and_eq_true] at hn; exact hn.1) fuel listed a w (fun j oj h1 h2 h3 h4 => ⟨Region.free_spec hi hf j oj h1 h2 h3 h4, ndB_spec hn j oj h1 h2 h3 h4⟩) (by simpa using hr) (.inr ⟨hw, rfl⟩) hS h
theorem S_go (i : Nat) {oi : Oper} {fuel : Nat} {listed : Array Bool} {a : Act} {w : World} (hF : ∀ f, F.fn f) (hd : noDefer ops = true) (hr : Region.ready md ops listed = [i]) (hi : ops[i]? = some oi)
  (wi : Region.wanted oi (yielded ops a.tmps) = true) (v : Value) (w' : World) (h1 : (execOp a.eval oi).run P w = .ok (.value v) w') (h2 : nd i = true → S w')
  (h3 : anyS F m P md ops Q S nd fuel (listed.setIfInBounds i true) (a.put oi.dst v) w') : anyS F m P md ops Q S nd (fuel + 1) listed a w := by
 refine ⟨fun h0 => (by rw [hr] at h0; cases h0), fun k hk => ?_⟩
 rw [hr] at hk
 obtain rfl := List.mem_singleton.1 hk
 unfold wpOpIn
 simp only [hi, wi, if_true, Oper.wpIn, Oper.semAt_plain _ _ _ (noDefer_spec hd hi), h1, Oper.uponIn]
 exact ⟨fun f _ => hF f, h2, h3⟩
end
end Go.Proofs.YthhlbdgladhdkaaGreatDoor
end
section
namespace Go.Proofs.YthhlbdgladhdkaaGreatDoor
open BigFrame Go.RowKit Go.Phx Go.Shelf
attribute [local go_sem] Oper.semAt_some

def PRow (base : Nat) (w : World) (v : Value) (L : List Nat) : Prop := w.ownsRow base 82 1 v L.length (L.map ptrV)
theorem infoPtr : (Tryz.prog.info? 82).map (fun i => (i.zero, i.size, i.bytes)) = some (some (.pointer none), 1, 8) := by kernel_rfl
theorem wpListIn_append_ptr {F : Fence} {nF : Nat} {ops : Array Oper} {rest : List Oper} {o : Oper} {a : Act} {w : World} {Q : Exit → Act → World → Prop} (hgd : o.guard = none) (s x : Operand)
  (ho : o.op = .call { callee := .builtin .append, args := #[s, x], argTypes := #[84, 84] }) (base : Nat) (v : Value) (L : List Nat) (hs : a.eval s = v) (R : PRow base w v L)
  (u : Nat) (ad : Addr) (hx : a.eval x = .slice (some ad) 1 1) (hc : w.cell? (ad.add 0) = some (ptrV u)) (hl : L.length ≤ 1000000000) (hb : base ≤ w.heap.size)
  (h : ∀ v' w', PRow base w' v' (L ++ [u]) → w.grownBy w' v.ownBlock → (v'.ownBlock = v.ownBlock ∨ v'.ownBlock = some w.heap.size) → wpListIn F nF Tryz.prog ops Q rest (a.put o.dst v') w') : wpListIn F nF Tryz.prog ops Q (o :: rest) a w := by
 obtain ⟨i0, hi, hz0, hz1, hz2⟩ := info_parts infoPtr
 refine wpListIn_append_own_at w hgd s x 84 ho base 82 i0 (.pointer none) 1 8 Tryz.underlying84 hi hz0 hz1 hz2 rfl (by decide) v L.length (L.map ptrV) hs R ad 1 1 [ptrV u] hx rfl (fun j y hy => by
  match j, hy with
  | 0, hy => simp at hy; subst hy; exact hc) (by simp [Value.oneCell', ptrV]) (by unfold maxLen; omega) (by omega) hb ?_
 intro v' w' h2 h3 _ h5
 refine h v' w' ?_ h3 h5
 unfold PRow
 rw [List.length_append, List.map_append]
 exact h2
theorem own_shape {base : Nat} {e : TypeId} {W : World} {v : Value} {n : Nat} {xs : List Value} (h : W.ownsRow base e 1 v n xs) : ∃ A c, v = .slice A n c ∧ n ≤ c ∧ c ≤ maxLen ∧ CsS (fun b => base ≤ b ∧ v.ownBlock = some b) W A xs ∧ ∀ j, v.ownBlock = some j → base ≤ j ∧ ∃ cs, W.heap[j]? = some (.cells cs e) := by
 have hx := h.1
 rcases h.2 with ⟨rfl, h0⟩ | ⟨g, cap, cur, rfl, hb, hg, hn, hm, hs, ht⟩
 ·subst h0
  obtain rfl := List.eq_nil_of_length_eq_zero (by omega)
  exact ⟨none, 0, rfl, Nat.le_refl _, Nat.zero_le _, CsS.nil _ _ _, fun j hj => by cases hj⟩
 ·refine ⟨some ⟨g, 0, none⟩, cap, rfl, hn, hm, fun _ => ⟨g, 0, rfl, ⟨hb, rfl⟩, (Array.getElem?_eq_some_iff.1 hg).1, fun i u hu => ?_⟩, fun j hj => by injection hj with hj; subst hj; exact ⟨hb, cur, hg⟩⟩
  rw [Nat.zero_add, cell_of_row W g i cur _ (0, 0) hg]
  rw [← ht, List.getElem?_take] at hu
  split at hu
  ·simpa using hu
  ·cases hu
structure RfS (w : World) (base x : Nat) (oa ob : Option Nat) (nd : Array Value) (va vb : Value) (La : List Bytes) (Lb : List Nat) (W : World) : Prop where
 node : Blk W x 86 nd
 ra : LRow base W va La
 rb : PRow base W vb Lb
 below : Below base w W
 size : w.heap.size ≤ W.heap.size
 kept : ∀ b, b < w.heap.size → b ≠ x → oa ≠ some b → ob ≠ some b → W.heap[b]? = w.heap[b]?
 na : va.ownBlock = oa ∨ ∃ g, w.heap.size ≤ g ∧ va.ownBlock = some g
 nb : vb.ownBlock = ob ∨ ∃ g, w.heap.size ≤ g ∧ vb.ownBlock = some g
theorem cells_ne {W : World} {i j : Nat} {a b : Array Value} {t u : TypeId} (h : W.heap[i]? = some (.cells a t)) (k : W.heap[j]? = some (.cells b u)) (hn : t ≠ u) : i ≠ j := fun e => by
 subst e
 rw [h] at k
 injection k with k
 injection k with _ k
 exact hn k
theorem RfS.grown {w W W' : World} {base x : Nat} {oa ob : Option Nat} {nd : Array Value} {va vb : Value} {La : List Bytes} {Lb : List Nat} (h : RfS w base x oa ob nd va vb La Lb W) (hb : base ≤ w.heap.size) (hg : W.grownBy W' none) : RfS w base x oa ob nd va vb La Lb W' where
 node := h.node.grown hg (by simp)
 ra := h.ra.keep hg (fun _ _ e => by cases e)
 rb := World.ownsRow.kept h.rb hg (by cases vb.ownBlock with | none => exact .inl rfl | some g => exact .inr (by simp))
 below := h.below.grown hg (Nat.le_trans hb h.size) fun j e => by cases e
 size := Nat.le_trans h.size hg.size
 kept := fun b hb h1 h2 h3 => (hg.block b (Nat.lt_of_lt_of_le hb h.size) (by simp)).trans (h.kept b hb h1 h2 h3)
 na := h.na
 nb := h.nb
theorem RfS.appA {w W W' : World} {base x : Nat} {oa ob : Option Nat} {nd : Array Value} {va vb v' : Value} {La La' : List Bytes} {Lb : List Nat} (h : RfS w base x oa ob nd va vb La Lb W) (hb : base ≤ w.heap.size) (hR : LRow base W' v' La') (hg : W.grownBy W' va.ownBlock) (ho : v'.ownBlock = va.ownBlock ∨ v'.ownBlock = some W.heap.size) : RfS w base x oa ob nd v' vb La' Lb W' := by
 obtain ⟨A, c, ea, _, _, _, ha⟩ := own_shape h.ra
 obtain ⟨B, d, eb, _, _, _, hbb⟩ := own_shape h.rb
 refine ⟨h.node.grown hg fun e => ?_, hR, World.ownsRow.kept h.rb hg ?_, h.below.grown hg (Nat.le_trans hb h.size) fun j e => (ha j e).1, Nat.le_trans h.size hg.size, fun b hb h1 h2 h3 => ?_, ?_, h.nb⟩
 ·obtain ⟨_, cs, hcs⟩ := ha x e.symm
  exact cells_ne hcs h.node (by decide) rfl
 ·cases e : vb.ownBlock with
  | none => exact .inl rfl
  | some j =>
   refine .inr fun e2 => ?_
   obtain ⟨_, cs, hcs⟩ := ha j e2.symm
   obtain ⟨_, cs2, hcs2⟩ := hbb j e
   exact cells_ne hcs hcs2 (by decide) rfl
 ·refine (hg.block b (Nat.lt_of_lt_of_le hb h.size) fun e => ?_).trans (h.kept b hb h1 h2 h3)
  rcases h.na with e2 | ⟨g, hg2, e2⟩
  ·exact h2 (e2.symm.trans e.symm)
  ·rw [e2] at e
   injection e with e
   omega
 ·rcases ho with e | e
  ·rw [e]; exact h.na
  ·exact .inr ⟨_, h.size, e⟩
theorem RfS.appB {w W W' : World} {base x : Nat} {oa ob : Option Nat} {nd : Array Value} {va vb v' : Value} {La : List Bytes} {Lb Lb' : List Nat} (h : RfS w base x oa ob nd va vb La Lb W) (hb : base ≤ w.heap.size) (hR : PRow base W' v' Lb') (hg : W.grownBy W' vb.ownBlock) (ho : v'.ownBlock = vb.ownBlock ∨ v'.ownBlock = some W.heap.size) : RfS w base x oa ob nd va v' La Lb' W' := by
 obtain ⟨A, c, ea, _, _, _, ha⟩ := own_shape h.ra
 obtain ⟨B, d, eb, _, _, _, hbb⟩ := own_shape h.rb
 refine ⟨h.node.grown hg fun e => ?_, World.ownsRow.kept h.ra hg ?_, hR, h.below.grown hg (Nat.le_trans hb h.size) fun j e => (hbb j e).1, Nat.le_trans h.size hg.size, fun b hb h1 h2 h3 => ?_, h.na, ?_⟩
 ·obtain ⟨_, cs, hcs⟩ := hbb x e.symm
  exact cells_ne hcs h.node (by decide) rfl
 ·cases e : va.ownBlock with
  | none => exact .inl rfl
  | some j =>
   refine .inr fun e2 => ?_
   obtain ⟨_, cs, hcs⟩ := hbb j e2.symm
   obtain ⟨_, cs2, hcs2⟩ := ha j e
   exact cells_ne hcs2 hcs (by decide) rfl
 ·refine (hg.block b (Nat.lt_of_lt_of_le hb h.size) fun e => ?_).trans (h.kept b hb h1 h2 h3)
  rcases h.nb with e2 | ⟨g, hg2, e2⟩
  ·exact h3 (e2.symm.trans e.symm)
  ·rw [e2] at e
   injection e with e
   omega
 ·rcases ho with e | e
  ·rw [e]; exact h.nb
  ·exact .inr ⟨_, h.size, e⟩
theorem RfS.put {w W : World} {base x : Nat} {oa ob : Option Nat} {nd nd' : Array Value} {va vb : Value} {La : List Bytes} {Lb : List Nat} (h : RfS w base x oa ob nd va vb La Lb W) (hx : base ≤ x) (i : Nat) (u : Value) (e : nd.setIfInBounds i u = nd') : RfS w base x oa ob nd' va vb La Lb (W.setCell ⟨x, i, none⟩ u) := by
 have hg : W.grownBy (W.setCell ⟨x, i, none⟩ u) (some x) := grown_set (World.grownBy.refl _ _)
 obtain ⟨A, c, ea, _, _, _, ha⟩ := own_shape h.ra
 obtain ⟨B, d, eb, _, _, _, hbb⟩ := own_shape h.rb
 refine ⟨Blk.to (Blk.set_ h.node i u) e, h.ra.keep hg fun j hj e2 => ?_, World.ownsRow.kept h.rb hg ?_, h.below.setCell (by exact hx) _, by simpa using h.size, fun b hb h1 h2 h3 => (Below.heap_setCell _ _ _ _ (by simpa using h1)).trans (h.kept b hb h1 h2 h3), h.na, h.nb⟩
 ·injection e2 with e2
  subst e2
  obtain ⟨_, cs, hcs⟩ := ha _ hj
  exact cells_ne hcs h.node (by decide) rfl
 ·cases ej : vb.ownBlock with
  | none => exact .inl rfl
  | some j =>
   refine .inr fun e2 => ?_
   injection e2 with e2
   subst e2
   obtain ⟨_, cs, hcs⟩ := hbb _ ej
   exact cells_ne hcs h.node (by decide) rfl
theorem RfS.far {w W : World} {base x : Nat} {oa ob : Option Nat} {nd : Array Value} {va vb : Value} {La : List Bytes} {Lb : List Nat} (h : RfS w base x oa ob nd va vb La Lb W) (hb : base ≤ w.heap.size) {r i : Nat} {cs : Array Value} (K : Blk W r 52 cs) (hr : w.heap.size ≤ r) (u : Value) : RfS w base x oa ob nd va vb La Lb (W.setCell ⟨r, i, none⟩ u) := by
 have hg : W.grownBy (W.setCell ⟨r, i, none⟩ u) (some r) := grown_set (World.grownBy.refl _ _)
 obtain ⟨A, c, ea, _, _, _, ha⟩ := own_shape h.ra
 obtain ⟨B, d, eb, _, _, _, hbb⟩ := own_shape h.rb
 refine ⟨h.node.grown hg fun e => ?_, h.ra.keep hg fun j hj e2 => ?_, World.ownsRow.kept h.rb hg ?_, h.below.setCell (by simp; omega) _, by simpa using h.size, fun b hb h1 h2 h3 => (Below.heap_setCell _ _ _ _ (by simp; omega)).trans (h.kept b hb h1 h2 h3), h.na, h.nb⟩
 ·injection e with e
  subst e
  exact cells_ne K h.node (by decide) rfl
 ·injection e2 with e2
  subst e2
  obtain ⟨_, cs, hcs⟩ := ha _ hj
  exact cells_ne hcs K (by decide) rfl
 ·cases ej : vb.ownBlock with
  | none => exact .inl rfl
  | some j =>
   refine .inr fun e2 => ?_
   injection e2 with e2
   subst e2
   obtain ⟨_, cs, hcs⟩ := hbb _ ej
   exact cells_ne hcs K (by decide) rfl
theorem RfS.elder {w w1 W : World} {base x : Nat} {oa ob : Option Nat} {nd : Array Value} {va vb : Value} {La : List Bytes} {Lb : List Nat} (h : RfS w1 base x oa ob nd va vb La Lb W) (hz : w.heap.size ≤ w1.heap.size) (hk : ∀ b, b < w.heap.size → w1.heap[b]? = w.heap[b]?) (hB : Below base w W) : RfS w base x oa ob nd va vb La Lb W :=
 ⟨h.node, h.ra, h.rb, hB, Nat.le_trans hz h.size, fun b hb h1 h2 h3 => (h.kept b (by omega) h1 h2 h3).trans (hk b hb), h.na.imp id (fun ⟨g, h1, h2⟩ => ⟨g, by omega, h2⟩), h.nb.imp id (fun ⟨g, h1, h2⟩ => ⟨g, by omega, h2⟩)⟩
theorem new_txts (W : World) (s : Bytes) : Txts (W.alloc (.cells #[.string (bs s)] 9)) (some ⟨W.heap.size, 0, none⟩) [s] := fun h0 => ⟨_, 0, rfl, by simp, fun i x hx => by
 match i, hx with
 | 0, hx =>
  simp at hx
  subst hx
  exact (Blk.new0 W 9 #[.string (bs s)]).cell 0⟩
theorem RfS.appA_ne {w W W' : World} {base x : Nat} {oa ob : Option Nat} {nd : Array Value} {va vb : Value} {La : List Bytes} {Lb : List Nat} (h : RfS w base x oa ob nd va vb La Lb W) (hg : W.grownBy W' va.ownBlock) : ∀ g cs, Blk W g 82 cs → Blk W' g 82 cs := fun g cs hB => hB.grown hg fun e => by
 obtain ⟨A, c, ea, _, _, _, ha⟩ := own_shape h.ra
 obtain ⟨_, cs2, hcs⟩ := ha g e.symm
 exact cells_ne hcs hB (by decide) rfl
set_option maxRecDepth 100000 in
set_option maxHeartbeats 16000000 in
theorem refer_calls (base x y : Nat) (hx : base ≤ x) (lead bt : Bytes) (v : Iv) (uy vy va vb : Value) (La : List Bytes) (Lb : List Nat) (w : World) (hb : base ≤ w.heap.size)
  (KX : Blk w x 86 #[.bool false, .string ⟨#[]⟩, .slice none 0 0, .string ⟨#[]⟩, va, vb])
  (KY : Blk w y 86 #[.bool v.f, .string (bs v.t), .slice v.A v.n v.c, .string (bs bt), uy, vy]) (hxy : y ≠ x)
  (QA : LRow base w va La) (QB : PRow base w vb Lb) (hT : ∀ W, Below base w W → HasT W) (hbt : bt.length ≤ 1000000) (hLa : La.length ≤ 1000000) (hLb : Lb.length ≤ 1000000) :
  Calls Tryz.prog 72 #[ptrV x, .string (bs lead), ptrV y] w (fun e w' => e = .returned (if bt.length < 32 then v.val else itV false (kecc bt) none 0 0) ∧
   ∃ va' vb', RfS w base x va.ownBlock vb.ownBlock #[.bool false, .string ⟨#[]⟩, .slice none 0 0, .string ⟨#[]⟩, va', vb'] va' vb' (La ++ [lead]) (Lb ++ [y]) w') := by
 obtain ⟨A, c1, ea, _, _, _, ha⟩ := own_shape QA
 obtain ⟨B, c2, eb, _, _, _, hbb⟩ := own_shape QB
 have hya : va.ownBlock ≠ some y := fun e => by
  obtain ⟨_, cs, hcs⟩ := ha y e
  exact cells_ne hcs KY (by decide) rfl
 have hyb : vb.ownBlock ≠ some y := fun e => by
  obtain ⟨_, cs, hcs⟩ := hbb y e
  exact cells_ne hcs KY (by decide) rfl
 obtain ⟨oa, hoa⟩ : ∃ o, va.ownBlock = o := ⟨_, rfl⟩
 obtain ⟨ob, hob⟩ : ∃ o, vb.ownBlock = o := ⟨_, rfl⟩
 have H0 : RfS w base x oa ob #[.bool false, .string ⟨#[]⟩, .slice none 0 0, .string ⟨#[]⟩, va, vb] va vb La Lb w := ⟨KX, QA, QB, Below.refl _ _, Nat.le_refl _, fun _ _ _ _ _ => rfl, .inl hoa, .inl hob⟩
 obtain ⟨r, hr⟩ : ∃ r, w.heap.size = r := ⟨_, rfl⟩
 rw [hoa] at hya ⊢
 rw [hob] at hyb ⊢
 subst ea eb
 replace hT := Lib.hid hT
 replace KY := Lib.hid KY
 replace hr := Lib.hid hr
 have hw0 : (w.alloc (.cells #[.bool false, .string ⟨#[]⟩, .slice none 0 0] 52)).heap.size = r + 1 := by rw [← hr.out]; simp
 have H1 : RfS (w.alloc (.cells #[.bool false, .string ⟨#[]⟩, .slice none 0 0] 52)) base x oa ob #[.bool false, .string ⟨#[]⟩, .slice none 0 0, .string ⟨#[]⟩, .slice A La.length c1, .slice B Lb.length c2] (.slice A La.length c1) (.slice B Lb.length c2) La Lb (w.alloc (.cells #[.bool false, .string ⟨#[]⟩, .slice none 0 0] 52)) :=
  ⟨KX.alloc _, (LRow.on QA _), World.ownsRow.kept QB ((Below.refl _ w).alloc (Nat.le_refl _) _ |> grown_none) (by cases (Value.slice B Lb.length c2).ownBlock with | none => exact .inl rfl | some g => exact .inr (by simp)), Below.refl _ _, Nat.le_refl _, fun _ _ _ _ _ => rfl, .inl hoa, .inl hob⟩
 unfold ptrV
 go_enter Tryz.func72, Tryz.ntmps72
 go_upto_region 1 with fail
 obtain ⟨w1, hw1⟩ : ∃ w1, w.alloc (.cells #[.bool false, .string ⟨#[]⟩, .slice none 0 0] 52) = w1 := ⟨_, rfl⟩
 have HB1 : Below w.heap.size w w1 := by rw [← hw1]; exact (Below.refl _ w).alloc (Nat.le_refl _) _
 have KR : Blk w1 r 52 #[.bool false, .string ⟨#[]⟩, .slice none 0 0] := by rw [← hw1, ← hr.out]; exact Blk.new0 w _ _
 rw [hw1] at H1 hw0 ⊢
 replace hw1 := Lib.hid hw1
 have hb1 : base ≤ w1.heap.size := by have := hr.out; omega
 go_cut [] (fun wx => ∃ va' vb', RfS w1 base x oa ob #[.bool false, .string ⟨#[]⟩, .slice none 0 0, .string ⟨#[]⟩, va', vb'] va' vb' (La ++ [lead]) (Lb ++ [y]) wx)
 case first =>
  have hwf : ∀ f, Fence.wide.fn f := fun _ => trivial
  refine (wpIn_wide (n := 9)).1 ?_
  refine wpIn_round_held (fun _ => True) (fun _ => true) (by kernel_rfl) ?_
  have hS0 : True := trivial
  refine S_tk 1 (.pointer (some ⟨x, 0, none⟩)) rfl hS0 (fun w' _ => by go_simp) ?_
  refine S_tk 0 (.pointer (some ⟨x, 0, none⟩)) rfl hS0 (fun w' _ => by go_simp) ?_
  refine S_tk 2 (.pointer (some ⟨x, 0, none⟩)) rfl hS0 (fun w' _ => by go_simp) ?_
  refine S_tk 3 (.pointer (some ⟨x, 0, none⟩)) rfl hS0 (fun w' _ => by go_simp) ?_
  refine S_tk 4 (.pointer (some ⟨x, 4, none⟩)) rfl hS0 (fun w' _ => by go_simp) ?_
  refine S_tk 6 (.string (bs lead)) rfl hS0 (fun w' _ => by go_simp) ?_
  refine S_tk 9 (.pointer (some ⟨x, 0, none⟩)) rfl hS0 (fun w' _ => by go_simp) ?_
  refine S_tk 10 (.pointer (some ⟨x, 0, none⟩)) rfl hS0 (fun w' _ => by go_simp) ?_
  refine S_tk 11 (.pointer (some ⟨x, 5, none⟩)) rfl hS0 (fun w' _ => by go_simp) ?_
  refine S_tk 13 (.pointer (some ⟨y, 0, none⟩)) rfl hS0 (fun w' _ => by go_simp) ?_
  simp only [Act.put, List.getElem_toArray, List.getElem_cons_succ, List.getElem_cons_zero, List.setIfInBounds_toArray, List.set_cons_succ, List.set_cons_zero]
  refine anyS_true (S := fun w' => w'.cell? ⟨x, 4, none⟩ = some (.slice A La.length c1) ∧ w'.cell? ⟨x, 5, none⟩ = some (.slice B Lb.length c2)) (nd := fun j => decide (j < 16)) _ _ _ _ ?_
  clear hS0
  have hS0 : (w1.drew).cell? ⟨x, 4, none⟩ = some (.slice A La.length c1) ∧ (w1.drew).cell? ⟨x, 5, none⟩ = some (.slice B Lb.length c2) := ⟨H1.node.cell 4, H1.node.cell 5⟩
  refine S_take (fun _ => trivial) 5 (.slice A La.length c1) (by kernel_rfl) rfl (by kernel_rfl) (by kernel_rfl) (by kernel_rfl) (by kernel_rfl) (onlyN_panic _ _) hS0 (by rfl) (fun w' h => by obtain ⟨h1, h2⟩ := h; go_simp) ?_
  refine S_take (fun _ => trivial) 12 (.slice B Lb.length c2) (by kernel_rfl) rfl (by kernel_rfl) (by kernel_rfl) (by kernel_rfl) (by kernel_rfl) (onlyN_panic _ _) hS0 (by rfl) (fun w' h => by obtain ⟨h1, h2⟩ := h; go_simp) ?_
  simp only [Act.put, List.getElem_toArray, List.getElem_cons_succ, List.getElem_cons_zero, List.setIfInBounds_toArray, List.set_cons_succ, List.set_cons_zero]
  clear hS0 hwf
  have H := H1.grown hb1 (grown_none ((Below.refl _ w1).drew))
  generalize w1.drew = W at *
  have HS : ∀ {va' vb' : Value} {La' : List Bytes} {Lb' : List Nat} (W' : World), RfS w1 base x oa ob #[.bool false, .string ⟨#[]⟩, .slice none 0 0, .string ⟨#[]⟩, .slice A La.length c1, .slice B Lb.length c2] va' vb' La' Lb' W' → W'.cell? ⟨x, 4, none⟩ = some (.slice A La.length c1) ∧ W'.cell? ⟨x, 5, none⟩ = some (.slice B Lb.length c2) := fun W' h => ⟨h.node.cell 4, h.node.cell 5⟩
  refine S_twoL 7 14 (by kernel_rfl) rfl rfl ?_ ?_
  ·skip
   gi_wp2_with fail
   simp only [oneQ]
   refine ⟨fun _ => HS _ (H.grown hb1 (grown_none ((Below.refl _ W).alloc (Nat.le_refl _) _))), ?_⟩
   have GA := grown_none ((Below.refl _ W).alloc (Nat.le_refl _) (.cells #[.string (bs lead)] 9))
   have CA := Blk.new0 W 9 #[.string (bs lead)]
   have CX : ∀ g t cs, Blk W g t cs → Blk (W.alloc (.cells #[.string (bs lead)] 9)) g t cs := fun _ _ _ h => h.alloc _
   replace H := H.grown hb1 GA
   obtain ⟨ga, hga⟩ : ∃ g, W.heap.size = g := ⟨_, rfl⟩
   obtain ⟨Wa, hWa⟩ : ∃ V, W.alloc (.cells #[.string (bs lead)] 9) = V := ⟨_, rfl⟩
   rw [hga] at CA
   rw [hWa] at H CA CX
   rw [hga, hWa]
   clear GA hga hWa
   clear CX
   refine S_twoL 8 14 (by kernel_rfl) rfl rfl ?_ ?_
   ·skip
    refine wpListIn_append_txt rfl _ _ rfl base _ La (by rfl) H.ra lead ⟨ga, 0, none⟩ (by rfl) (by rw [Addr.add_mid]; exact CA.cell 0) (by omega) (Nat.le_trans hb1 H.size) ?_
    intro va2 Wb hR hg ho
    obtain ⟨A2, d2, e2, _⟩ := own_shape hR
    have GX := H.appA_ne hg
    have HX := H.appA hb1 hR hg ho
    subst e2
    simp only [Act.put, List.getElem_toArray, List.getElem_cons_succ, List.getElem_cons_zero, List.setIfInBounds_toArray, List.set_cons_succ, List.set_cons_zero]
    refine ⟨fun _ => HS _ HX, ?_⟩
    clear CA
    replace H := HX
    clear HX GX hR hg ho
    refine S_go 14 (fun _ => trivial) (by kernel_rfl) (by kernel_rfl) rfl (by kernel_rfl) (.slice (some ⟨Wb.heap.size, 0, none⟩) 1 1) (Wb.alloc (.cells #[.pointer (some ⟨y, 0, none⟩)] 82)) (by first | (go_simp; done) | (go_simp; rfl)) (fun _ => HS _ (H.grown hb1 (grown_none ((Below.refl _ Wb).alloc (Nat.le_refl _) _)))) ?_
    have GB := grown_none ((Below.refl _ Wb).alloc (Nat.le_refl _) (.cells #[.pointer (some ⟨y, 0, none⟩)] 82))
    have CB := Blk.new0 Wb 82 #[.pointer (some ⟨y, 0, none⟩)]
    have CX : ∀ g t cs, Blk Wb g t cs → Blk (Wb.alloc (.cells #[.pointer (some ⟨y, 0, none⟩)] 82)) g t cs := fun _ _ _ h => h.alloc _
    replace H := H.grown hb1 GB
    obtain ⟨gb, hgb⟩ : ∃ g, Wb.heap.size = g := ⟨_, rfl⟩
    obtain ⟨Wc, hWc⟩ : ∃ V, Wb.alloc (.cells #[.pointer (some ⟨y, 0, none⟩)] 82) = V := ⟨_, rfl⟩
    rw [hgb] at CB
    rw [hWc] at H CB CX
    simp only [Act.put, List.getElem_toArray, List.getElem_cons_succ, List.getElem_cons_zero, List.setIfInBounds_toArray, List.set_cons_succ, List.set_cons_zero]
    rw [hgb, hWc]
    clear GB hgb hWc
    refine S_oneL 15 (by kernel_rfl) rfl ?_
    refine wpListIn_append_ptr rfl _ _ rfl base _ Lb (by rfl) H.rb y ⟨gb, 0, none⟩ (by rfl) (by rw [Addr.add_mid]; exact CB.cell 0) (by omega) (Nat.le_trans hb1 H.size) ?_
    intro vb2 W2 hR2 hg2 ho2
    obtain ⟨B2, f2, e3, _⟩ := own_shape hR2
    have HF := Lib.hid (H.appB hb1 hR2 hg2 ho2)
    subst e3
    simp only [Act.put, List.getElem_toArray, List.getElem_cons_succ, List.getElem_cons_zero, List.setIfInBounds_toArray, List.set_cons_succ, List.set_cons_zero]
    refine ⟨fun h => HS _ HF.out, ?_⟩
    clear H CB hg2 ho2 hR2
    have hn := HF.out.node
    have k5 := hn.cell
    have f5 := hn.free
    refine S_end 16 (ls := [_, _, _, _, _, _]) rfl (fun j hj => by simp; omega) (by kernel_rfl) ?_
    gi_wp2_with fail
    refine ⟨rfl, ?_⟩
    go_wp2_with fail
    go_meet
    case rel => exact ⟨_, _, ((HF.out.put hx 4 _ rfl).put hx 5 _ (by simp))⟩
   ·skip
    gi_wp2_with fail
    simp only [oneQ]
    refine ⟨fun _ => HS _ (H.grown hb1 (grown_none ((Below.refl _ Wa).alloc (Nat.le_refl _) _))), ?_⟩
    have GB := grown_none ((Below.refl _ Wa).alloc (Nat.le_refl _) (.cells #[.pointer (some ⟨y, 0, none⟩)] 82))
    have CB := Blk.new0 Wa 82 #[.pointer (some ⟨y, 0, none⟩)]
    have CX : ∀ g t cs, Blk Wa g t cs → Blk (Wa.alloc (.cells #[.pointer (some ⟨y, 0, none⟩)] 82)) g t cs := fun _ _ _ h => h.alloc _
    replace H := H.grown hb1 GB
    obtain ⟨gb, hgb⟩ : ∃ g, Wa.heap.size = g := ⟨_, rfl⟩
    obtain ⟨Wb, hWb⟩ : ∃ V, Wa.alloc (.cells #[.pointer (some ⟨y, 0, none⟩)] 82) = V := ⟨_, rfl⟩
    rw [hgb] at CB
    rw [hWb] at H CB CX
    rw [hgb, hWb]
    clear GB hgb hWb
    replace CA := CX _ _ _ CA
    clear CX
    refine S_oneL 8 (by kernel_rfl) rfl ?_
    refine wpListIn_append_txt rfl _ _ rfl base _ La (by rfl) H.ra lead ⟨ga, 0, none⟩ (by rfl) (by rw [Addr.add_mid]; exact CA.cell 0) (by omega) (Nat.le_trans hb1 H.size) ?_
    intro va2 Wc hR hg ho
    obtain ⟨A2, d2, e2, _⟩ := own_shape hR
    have GX := H.appA_ne hg
    have HX := H.appA hb1 hR hg ho
    subst e2
    simp only [Act.put, List.getElem_toArray, List.getElem_cons_succ, List.getElem_cons_zero, List.setIfInBounds_toArray, List.set_cons_succ, List.set_cons_zero]
    refine ⟨fun _ => HS _ HX, ?_⟩
    replace CB := GX _ _ CB
    replace H := HX
    clear HX GX hR hg ho
    refine S_oneL 15 (by kernel_rfl) rfl ?_
    refine wpListIn_append_ptr rfl _ _ rfl base _ Lb (by rfl) H.rb y ⟨gb, 0, none⟩ (by rfl) (by rw [Addr.add_mid]; exact CB.cell 0) (by omega) (Nat.le_trans hb1 H.size) ?_
    intro vb2 W2 hR2 hg2 ho2
    obtain ⟨B2, f2, e3, _⟩ := own_shape hR2
    have HF := Lib.hid (H.appB hb1 hR2 hg2 ho2)
    subst e3
    simp only [Act.put, List.getElem_toArray, List.getElem_cons_succ, List.getElem_cons_zero, List.setIfInBounds_toArray, List.set_cons_succ, List.set_cons_zero]
    refine ⟨fun h => HS _ HF.out, ?_⟩
    clear H CB hg2 ho2 hR2
    have hn := HF.out.node
    have k5 := hn.cell
    have f5 := hn.free
    refine S_end 16 (ls := [_, _, _, _, _, _]) rfl (fun j hj => by simp; omega) (by kernel_rfl) ?_
    gi_wp2_with fail
    refine ⟨rfl, ?_⟩
    go_wp2_with fail
    go_meet
    case rel => exact ⟨_, _, ((HF.out.put hx 4 _ rfl).put hx 5 _ (by simp))⟩
  ·skip
   gi_wp2_with fail
   simp only [oneQ]
   refine ⟨fun _ => HS _ (H.grown hb1 (grown_none ((Below.refl _ W).alloc (Nat.le_refl _) _))), ?_⟩
   have GB := grown_none ((Below.refl _ W).alloc (Nat.le_refl _) (.cells #[.pointer (some ⟨y, 0, none⟩)] 82))
   have CB := Blk.new0 W 82 #[.pointer (some ⟨y, 0, none⟩)]
   have CX : ∀ g t cs, Blk W g t cs → Blk (W.alloc (.cells #[.pointer (some ⟨y, 0, none⟩)] 82)) g t cs := fun _ _ _ h => h.alloc _
   replace H := H.grown hb1 GB
   obtain ⟨gb, hgb⟩ : ∃ g, W.heap.size = g := ⟨_, rfl⟩
   obtain ⟨Wa, hWa⟩ : ∃ V, W.alloc (.cells #[.pointer (some ⟨y, 0, none⟩)] 82) = V := ⟨_, rfl⟩
   rw [hgb] at CB
   rw [hWa] at H CB CX
   rw [hgb, hWa]
   clear GB hgb hWa
   clear CX
   refine S_go 7 (fun _ => trivial) (by kernel_rfl) (by kernel_rfl) rfl (by kernel_rfl) (.slice (some ⟨Wa.heap.size, 0, none⟩) 1 1) (Wa.alloc (.cells #[.string (bs lead)] 9)) (by first | (go_simp; done) | (go_simp; rfl)) (fun _ => HS _ (H.grown hb1 (grown_none ((Below.refl _ Wa).alloc (Nat.le_refl _) _)))) ?_
   have GA := grown_none ((Below.refl _ Wa).alloc (Nat.le_refl _) (.cells #[.string (bs lead)] 9))
   have CA := Blk.new0 Wa 9 #[.string (bs lead)]
   have CX : ∀ g t cs, Blk Wa g t cs → Blk (Wa.alloc (.cells #[.string (bs lead)] 9)) g t cs := fun _ _ _ h => h.alloc _
   replace H := H.grown hb1 GA
   obtain ⟨ga, hga⟩ : ∃ g, Wa.heap.size = g := ⟨_, rfl⟩
   obtain ⟨Wb, hWb⟩ : ∃ V, Wa.alloc (.cells #[.string (bs lead)] 9) = V := ⟨_, rfl⟩
   rw [hga] at CA
   rw [hWb] at H CA CX
   simp only [Act.put, List.getElem_toArray, List.getElem_cons_succ, List.getElem_cons_zero, List.setIfInBounds_toArray, List.set_cons_succ, List.set_cons_zero]
   rw [hga, hWb]
   clear GA hga hWb
   replace CB := CX _ _ _ CB
   clear CX
   refine S_oneL 8 (by kernel_rfl) rfl ?_
   refine wpListIn_append_txt rfl _ _ rfl base _ La (by rfl) H.ra lead ⟨ga, 0, none⟩ (by rfl) (by rw [Addr.add_mid]; exact CA.cell 0) (by omega) (Nat.le_trans hb1 H.size) ?_
   intro va2 Wc hR hg ho
   obtain ⟨A2, d2, e2, _⟩ := own_shape hR
   have GX := H.appA_ne hg
   have HX := H.appA hb1 hR hg ho
   subst e2
   simp only [Act.put, List.getElem_toArray, List.getElem_cons_succ, List.getElem_cons_zero, List.setIfInBounds_toArray, List.set_cons_succ, List.set_cons_zero]
   refine ⟨fun _ => HS _ HX, ?_⟩
   replace CB := GX _ _ CB
   replace H := HX
   clear HX GX hR hg ho
   refine S_oneL 15 (by kernel_rfl) rfl ?_
   refine wpListIn_append_ptr rfl _ _ rfl base _ Lb (by rfl) H.rb y ⟨gb, 0, none⟩ (by rfl) (by rw [Addr.add_mid]; exact CB.cell 0) (by omega) (Nat.le_trans hb1 H.size) ?_
   intro vb2 W2 hR2 hg2 ho2
   obtain ⟨B2, f2, e3, _⟩ := own_shape hR2
   have HF := Lib.hid (H.appB hb1 hR2 hg2 ho2)
   subst e3
   simp only [Act.put, List.getElem_toArray, List.getElem_cons_succ, List.getElem_cons_zero, List.setIfInBounds_toArray, List.set_cons_succ, List.set_cons_zero]
   refine ⟨fun h => HS _ HF.out, ?_⟩
   clear H CB hg2 ho2 hR2
   have hn := HF.out.node
   have k5 := hn.cell
   have f5 := hn.free
   refine S_end 16 (ls := [_, _, _, _, _, _]) rfl (fun j hj => by simp; omega) (by kernel_rfl) ?_
   gi_wp2_with fail
   refine ⟨rfl, ?_⟩
   go_wp2_with fail
   go_meet
   case rel => exact ⟨_, _, ((HF.out.put hx 4 _ rfl).put hx 5 _ (by simp))⟩
 case rest =>
  obtain ⟨va', vb', H⟩ := hcut
  have HF := Lib.hid H
  have HB2 := Lib.hid (show Below base w wc from (HB1.mono hb).trans H.below)
  have K0 := Lib.hid (show Blk wc y 86 _ from (H.kept y (Nat.lt_of_lt_of_le KY.out.lt HB1.size) hxy hya hyb).trans ((HB1.block y KY.out.lt).trans KY.out))
  have hrx : r ≠ x := fun e => by subst e; exact absurd KX.lt (by have := hr.out; omega)
  have K1 := Lib.hid (show Blk wc r 52 _ from (H.kept r (by omega) hrx (fun e => by rcases (by rw [← hoa] at e; exact ha r e) with ⟨_, cs, hcs⟩; have := (Array.getElem?_eq_some_iff.1 hcs).1; have := hr.out; omega) (fun e => by rcases (by rw [← hob] at e; exact hbb r e) with ⟨_, cs, hcs⟩; have := (Array.getElem?_eq_some_iff.1 hcs).1; have := hr.out; omega)).trans KR)
  have HX := Lib.hid (show RfS w base x oa ob #[.bool false, .string ⟨#[]⟩, .slice none 0 0, .string ⟨#[]⟩, va', vb'] va' vb' (La ++ [lead]) (Lb ++ [y]) wc from H.elder HB1.size (fun b hb => HB1.block b hb) HB2.out)
  have hr2 := hr.out
  rw [hr2]
  have hsz : r + 1 ≤ wc.heap.size := by have := H.size; omega
  clear H H1 H0 KX QA QB KR HB1 hw1 hr ha hbb HF
  (obtain ⟨k0, f0, l0, m0⟩ := K0.out.rl; obtain ⟨k1, f1, l1, m1⟩ := K1.out.rl)
  have hwr : w.heap.size ≤ r := by omega
  have hfar : ∀ (W : World) (a b c : Value) (cs : Array Value), Blk W r 52 cs → RfS w base x oa ob #[.bool false, .string ⟨#[]⟩, .slice none 0 0, .string ⟨#[]⟩, va', vb'] va' vb' (La ++ [lead]) (Lb ++ [y]) W → RfS w base x oa ob #[.bool false, .string ⟨#[]⟩, .slice none 0 0, .string ⟨#[]⟩, va', vb'] va' vb' (La ++ [lead]) (Lb ++ [y]) (((W.setCell ⟨r, 0, none⟩ a).setCell ⟨r, 1, none⟩ b).setCell ⟨r, 2, none⟩ c) :=
   fun W a b c cs hK h => ((h.far hb hK hwr a).far hb (Blk.set_ hK 0 a) hwr b).far hb (Blk.set_ (Blk.set_ hK 0 a) 1 b) hwr c
  replace hfar := Lib.hid hfar
  by_cases hlt : bt.length < 32
  ·have hlt2 : (bt.length : Int) < 32 := by omega
   clear hlt hbt
   go_wp2_with fail
   refine bodyPost_ret (v := v.val) (by simp (maxDischargeDepth := 9) [results, Tryz.results72, go_sem, *]) rfl ⟨rfl, _, _, hfar.out _ _ _ _ _ K1.out HX.out⟩
  ·have hlt2 : ¬ (bt.length : Int) < 32 := by omega
   have hs : ∀ W : World, Below base w W → Calls Tryz.prog 5 #[.slice (some ⟨W.heap.size, 0, none⟩) 1 1] (W.alloc (.cells #[.string (bs bt)] 9)) _ := fun W hB => ksum_calls bt (by omega) (some ⟨W.heap.size, 0, none⟩) 1 (Nat.le_refl _) (W.alloc (.cells #[.string (bs bt)] 9)) (hT.out _ (hB.alloc (Nat.le_trans hb (by exact hB.size)) _)) (new_txts W bt)
   have n2 := fun W => text_calls (kecc bt) W
   obtain ⟨kb, hkb⟩ : ∃ kb, kecc bt = kb := ⟨_, rfl⟩
   rw [hkb] at hs n2
   have HK := Lib.hid hkb
   clear hkb
   replace hs := Lib.hid hs
   replace n2 := Lib.hid n2
   clear hlt
   go_wp2_with fail
   refine (hs.out _ HB2.out).mono ?_
   rintro e w3 ⟨rfl, hB3⟩
   have hB3' : Below wc.heap.size wc w3 := Below.on hB3 ((Below.refl _ _).alloc (Nat.le_refl _) _)
   have HX3 := Lib.hid (HX.out.grown hb (grown_none hB3'))
   have P1 := Lib.hid (K1.out.below hB3')
   clear hB3 hB3' HX k1 f1 l1 m1 K1 k0 f0 l0 m0 K0 HB2
   have K1 := P1
   (obtain ⟨k1, f1, l1, m1⟩ := K1.out.rl)
   go_wp2_with fail
   refine (n2.out _).mono ?_
   rintro e w4 ⟨rfl, hB4⟩
   have HX4 := Lib.hid (HX3.out.grown hb (grown_none hB4))
   have P2 := Lib.hid (K1.out.below hB4)
   clear hB4 HX3 k1 f1 l1 m1 K1 P1
   have K1 := P2
   (obtain ⟨k1, f1, l1, m1⟩ := K1.out.rl)
   go_wp2_with fail
   refine bodyPost_ret (v := itV false kb none 0 0) (by simp (maxDischargeDepth := 9) [results, Tryz.results72, go_sem, *]) rfl ⟨by rw [HK.out], _, _, hfar.out _ _ _ _ _ K1.out HX4.out⟩
end Go.Proofs.YthhlbdgladhdkaaGreatDoor
end
