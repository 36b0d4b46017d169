/- What the later texts stand on (Grw): plain laws and walks, each by its own conditions. -/
import Derived.Test.YthhlbdgladhdkaaGreatDoorUs17
import Derived.Test.YthhlbdgladhdkaaGreatDoorUs7
import Derived.Deep.CutBlock
import Derived.Deep.DeepCutAuto
import Derived.Deep.CutRange
set_option linter.unusedSimpArgs false
set_option linter.unusedVariables false
section
namespace Go.Proofs.YthhlbdgladhdkaaGreatDoor
open BigFrame Go.RowKit Go.Phx Go.Shelf
attribute [local go_sem] Oper.semAt_some

theorem parts_stops (n9 : Nat) (hn9 : 1 ≤ n9) (q N : Nat) (hqN : N ≤ q) (l : List Pr) (hl : l.length ≤ 1000000) (hne : ∀ x ∈ l, x.1 ≠ []) (hle : ∀ x ∈ l, x.1.length ≤ 1000000) (A : Option Addr) (c : Nat) (hc : l.length ≤ c) (W0 : World)
  (K0 : Blk W0 q 109 #[.slice A l.length c]) (R : CsS (fun b => b < N) W0 A (PrL l)) :
  SeqSt Fence.wide n9 Tryz.prog 93 #[.pointer (some ⟨q, 0, none⟩)] (fun y : Pt => #[.int .i64 (y.h.toNat : Int), .slice y.A y.m.length y.c]) (fun pre y _ W => PtAt N l pre y W) (fun (_ : Unit) A B => KpN N q A B) (fun _ A _ B => A.grownBy B (some q)) () (fun xs => xs.map Pt.run = runsP l) (fun _ => True) W0 :=
 fun lp J Jx W hW hJ hJx hY h0 => parts1_in n9 hn9 lp q N hqN l hl hne hle A c hc J Jx hJ hY W (K0.below hW) (R.below hW) h0
def GrP (w : World) (d : Nd) (e : Ending) (w' : World) : Prop := ∃ b, e = .returned (ptrV b) ∧ TrS (fun b => w.heap.size ≤ b) w' d b ∧ Below w.heap.size w w'
def GrM (w : World) (g : Nat) (d : Nd) (W : World) : Prop := ∃ (v : Iv) (va vb : Value) (ps : List Nat),
 Blk W g 86 #[.bool v.f, .string (bs v.t), .slice v.A v.n v.c, .string ⟨#[]⟩, va, vb] ∧ Blk W (g + 1) 82 #[.pointer (some ⟨g, 0, none⟩)] ∧ RepS (fun b => w.heap.size ≤ b ∧ b ≠ g) W (itemN kecc d) v ∧
 LRow w.heap.size W va ((kidsN d).map Prod.fst) ∧ PRow w.heap.size W vb ps ∧ ps.length = (kidsN d).length ∧ (∀ (i : Nat) x p, (kidsN d)[i]? = some x → ps[i]? = some p → TrS (fun b => w.heap.size ≤ b ∧ b ≠ g) W x.2 p) ∧ Below w.heap.size w W
theorem BrV.done {w W w2 : World} {g gi bx q k : Nat} {xs : List Pt} {l : List Pr} {va vb : Value} {ps : List Nat} {vs : List Iv} (h : BrV w g gi bx q k xs va vb ps vs W) (hxs : xs.map Pt.run = runsP l) (hgw : w.heap.size = g) (h1 : g + 1 < gi) (h2 : gi < bx) (h3 : bx < q) (hB : Below W.heap.size W w2) :
  GrM w g (.br (chOf (growP k) (runsP l))) (((w2.setCell ⟨g, 0, none⟩ (.bool true)).setCell ⟨g, 1, none⟩ (.string ⟨#[]⟩)).setCell ⟨g, 2, none⟩ (.slice (some ⟨gi, 0, none⟩) 17 17)) := by
 have hk : ∀ b, b < W.heap.size → b ≠ g → (((w2.setCell ⟨g, 0, none⟩ (.bool true)).setCell ⟨g, 1, none⟩ (.string ⟨#[]⟩)).setCell ⟨g, 2, none⟩ (.slice (some ⟨gi, 0, none⟩) 17 17)).heap[b]? = W.heap[b]? := fun b hb hn => by
  rw [Below.heap_setCell _ _ _ _ (by simpa using hn), Below.heap_setCell _ _ _ _ (by simpa using hn), Below.heap_setCell _ _ _ _ (by simpa using hn)]
  exact hB.block b hb
 have hN : Blk (((w2.setCell ⟨g, 0, none⟩ (.bool true)).setCell ⟨g, 1, none⟩ (.string ⟨#[]⟩)).setCell ⟨g, 2, none⟩ (.slice (some ⟨gi, 0, none⟩) 17 17)) g 86 #[.bool true, .string ⟨#[]⟩, .slice (some ⟨gi, 0, none⟩) 17 17, .string ⟨#[]⟩, va, vb] :=
  Blk.to (Blk.set_ (Blk.set_ (Blk.set_ (h.node.below hB) 0 _) 1 _) 2 _) rfl
 have hBe : Below w.heap.size w (((w2.setCell ⟨g, 0, none⟩ (.bool true)).setCell ⟨g, 1, none⟩ (.string ⟨#[]⟩)).setCell ⟨g, 2, none⟩ (.slice (some ⟨gi, 0, none⟩) 17 17)) :=
  (((h.below.trans (hB.mono h.below.size)).setCell (by rw [hgw]; exact Nat.le_refl _) _).setCell (by rw [hgw]; exact Nat.le_refl _) _).setCell (by rw [hgw]; exact Nat.le_refl _) _
 have hz : W.heap.size ≤ (((w2.setCell ⟨g, 0, none⟩ (.bool true)).setCell ⟨g, 1, none⟩ (.string ⟨#[]⟩)).setCell ⟨g, 2, none⟩ (.slice (some ⟨gi, 0, none⟩) 17 17)).heap.size := by simpa using hB.size
 generalize ((w2.setCell ⟨g, 0, none⟩ (.bool true)).setCell ⟨g, 1, none⟩ (.string ⟨#[]⟩)).setCell ⟨g, 2, none⟩ (.slice (some ⟨gi, 0, none⟩) 17 17) = W5 at *
 have hsz := h.size
 have hkids : kidsN (.br (chOf (growP k) (runsP l))) = xs.map fun y => ([y.h], growP k (behindP 1 y.m)) := by
  rw [kidsN, kids_chOf, ← hxs, List.map_map]
  rfl
 obtain ⟨A, c, ea, _, _, _, ha⟩ := own_shape h.ra
 obtain ⟨B, d, eb, _, _, _, hb⟩ := own_shape h.rb
 have hlow : ∀ b, q + 1 ≤ b → b ≠ g := fun b hb => by omega
 refine ⟨⟨true, [], some ⟨gi, 0, none⟩, 17, 17⟩, va, vb, ps, hN, (show Blk W5 (g + 1) _ _ from (hk (g + 1) (by omega) (by omega)).trans h.box), ?_, ?_, ?_, ?_, fun i x p hx hp => ?_, hBe⟩
 ·rw [brL_item, ← hxs]
  have := RepS.list (S := fun b => w.heap.size ≤ b ∧ b ≠ g) (W := W5) (brL k (xs.map Pt.run)) (some ⟨gi, 0, none⟩) 17 vs (by rw [h.lenv, brL_len]) (by rw [brL_len]; exact Nat.le_refl _) (by unfold maxLen; omega) ?_ fun i x v hx hv => (h.items i x v hx hv).keep hz fun b hb hl => ⟨⟨by rw [hgw]; have := hb.1; omega, hlow b hb.1⟩, hk b hl (hlow b hb.1)⟩
  ·rw [brL_len] at this
   exact this
  ·obtain ⟨A', c', e, _, _, hc⟩ := h.row.shape
   injection e with e _ _
   subst e
   refine hc.keep hz fun b hb hl => ?_
   obtain ⟨_, hb2⟩ := hb
   have hb3 : gi = b := by injection hb2
   subst hb3
   exact ⟨⟨by rw [hgw]; omega, by omega⟩, hk gi hl (by omega)⟩
 ·rw [hkids, List.map_map]
  have h9 : LRow (q + 1) W5 va (xs.map fun y => [y.h]) := by
   have := h.ra
   subst ea
   cases A with
   | none =>
    rcases this.2 with ⟨e1, h0⟩ | ⟨g', cap', cur, e1, _⟩
    ·have e9 : (xs.map fun y => [y.h]) = [] := List.eq_nil_of_length_eq_zero h0
     rw [e1, e9]
     exact World.ownsRow_nil _ _ _ _
    ·cases e1
   | some ad =>
    rcases this.2 with ⟨e1, h0⟩ | ⟨g', cap', cur, e1, hb1, hg1, _⟩
    ·cases e1
    ·injection e1 with e1 _ _
     injection e1 with e1
     subst e1
     exact own_of_block this (hk g' (Array.getElem?_eq_some_iff.1 hg1).1 (by omega))
  exact own_lift h9 fun j e => by have := (ha j e).1; omega
 ·have h9 : PRow (q + 1) W5 vb ps := by
   have := h.rb
   subst eb
   cases B with
   | none =>
    rcases this.2 with ⟨e1, h0⟩ | ⟨g', cap', cur, e1, _⟩
    ·have e9 : ps = [] := List.eq_nil_of_length_eq_zero h0
     rw [e1, e9]
     exact World.ownsRow_nil _ _ _ _
    ·cases e1
   | some ad =>
    rcases this.2 with ⟨e1, h0⟩ | ⟨g', cap', cur, e1, hb1, hg1, _⟩
    ·cases e1
    ·injection e1 with e1 _ _
     injection e1 with e1
     subst e1
     exact own_of_block this (hk g' (Array.getElem?_eq_some_iff.1 hg1).1 (by omega))
  exact own_lift h9 fun j e => by have := (hb j e).1; omega
 ·rw [hkids, List.length_map, h.len]
 ·rw [hkids, List.getElem?_map] at hx
  cases hy : xs[i]? with
  | none => rw [hy] at hx; cases hx
  | some y =>
   rw [hy] at hx
   injection hx with hx
   subst hx
   exact (h.kids i y p hy hp).keep hz fun b hb hl => ⟨⟨by rw [hgw]; have := hb.1; omega, hlow b hb.1⟩, hk b hl (hlow b hb.1)⟩
/-! what a node is, by its leaves -/
theorem grow_leaf (k : Nat) (l : List Pr) (p v : Bytes) (h0 : l[0]? = some (p, v)) (h1 : l.length = 1) : growP (k + 1) l = .leaf p v := by
 match l, h1, h0 with
 | [x], _, h0 =>
  simp at h0
  rw [growP, h0]
theorem last_at {l : List Pr} (hne : l ≠ []) {x : Pr} (h : l[l.length - 1]? = some x) : l.getLast hne = x := by
 rw [List.getLast_eq_getElem]
 have := List.getElem?_eq_getElem (l := l) (i := l.length - 1) (by have := List.length_pos_iff.2 hne; omega)
 rw [this] at h
 injection h
theorem grow_two (k : Nat) (l : List Pr) (p0 v0 p1 v1 : Bytes) (h0 : l[0]? = some (p0, v0)) (h1 : l[l.length - 1]? = some (p1, v1)) (h2 : 2 ≤ l.length) :
  growP (k + 1) l = if 0 < commonP p0 p1 then .ext (p0.take (commonP p0 p1)) (growP k (behindP (commonP p0 p1) l)) else .br (chOf (growP k) (runsP l)) := by
 match l, h2, h0, h1 with
 | x :: y :: r, _, h0, h1 =>
  simp only [List.getElem?_cons_zero, Option.some.injEq] at h0
  have hl := last_at (by simp) h1
  rw [growP]
  try dsimp only
  rw [hl, h0]
theorem ext_facts {l : List Pr} {L : Nat} {p0 v0 p1 v1 : Bytes} (hs : SortP l) (hall : ∀ x ∈ l, x.1.length = L ∧ NibP x.1 ∧ x.2 ≠ [] ∧ x.2.length ≤ 1000) (h0 : l[0]? = some (p0, v0)) (h1 : l[l.length - 1]? = some (p1, v1)) :
  SortP (behindP (commonP p0 p1) l) ∧ (∀ x ∈ behindP (commonP p0 p1) l, x.1.length = L - commonP p0 p1 ∧ NibP x.1 ∧ x.2 ≠ [] ∧ x.2.length ≤ 1000) ∧ commonP p0 p1 ≤ L := by
 obtain ⟨hc1, hc2, hc3⟩ := common_take p0 p1
 have e0 := hall _ (List.mem_of_getElem? h0)
 have hne : l ≠ [] := fun e => by rw [e] at h0; simp at h0
 have hl := last_at hne h1
 have hnL : commonP p0 p1 ≤ L := by rw [← e0.1]; exact hc2
 have hp : ∀ z ∈ l, z.1.take (commonP p0 p1) = p0.take (commonP p0 p1) := fun z hz => by
  refine squeeze _ p0 z.1 p1 ?_ (by have := sort_last l hne hs z hz; rw [hl] at this; exact this) hc1 hc2 (by rw [(hall z hz).1]; exact hnL) hc3
  match l, hs, h0, hz with
  | x :: r, hs, h0, hz =>
   simp only [List.getElem?_cons_zero, Option.some.injEq] at h0
   rcases List.mem_cons.1 hz with hz | hz
   ·subst hz; rw [h0]; exact .inl rfl
   ·have := (List.pairwise_cons.1 hs).1 z hz
    rw [h0] at this
    exact .inr this
 refine ⟨sort_behind hs hp fun z hz => by rw [(hall z hz).1]; exact hnL, fun x hx => ?_, hnL⟩
 unfold behindP at hx
 obtain ⟨z, hz, rfl⟩ := List.mem_map.1 hx
 obtain ⟨g1, g2, g3, g4⟩ := hall z hz
 exact ⟨by simp [g1], g2.drop _, g3, g4⟩
/-! items in memory -/
theorem two_rep {S : Nat → Prop} {W : World} {r : Nat} {u v : Iv} {x y : It} (hK : Blk W r 52 #[.bool u.f, .string (bs u.t), .slice u.A u.n u.c, .bool v.f, .string (bs v.t), .slice v.A v.n v.c]) (hu : RepS S W x u) (hv : RepS S W y v) (hS : S r) :
  RepS S W (.list [x, y]) ⟨true, [], some ⟨r, 0, none⟩, 2, 2⟩ := by
 refine .list [x, y] (some ⟨r, 0, none⟩) 2 [u, v] rfl (Nat.le_refl _) (by unfold maxLen; omega) (fun _ => ⟨r, 0, rfl, hS, hK.lt, fun i z hz => ?_⟩) fun i a b ha hb => ?_
 ·rw [hK.cell, Nat.zero_add]
  have : IvL [u, v] = [.bool u.f, .string (bs u.t), .slice u.A u.n u.c, .bool v.f, .string (bs v.t), .slice v.A v.n v.c] := rfl
  rw [this] at hz
  simpa using hz
 ·match i, ha, hb with
  | 0, ha, hb =>
   simp at ha hb
   subst ha hb
   exact hu
  | 1, ha, hb =>
   simp at ha hb
   subst ha hb
   exact hv
  | i + 2, ha, hb => simp at ha
theorem ref_item {S : Nat → Prop} {W : World} {d : Nd} {v : Iv} (R : RepS S W (itemN kecc d) v) : ∃ u : Iv, (if (bytesN kecc d).length < 32 then v.val else itV false (kecc (bytesN kecc d)) none 0 0) = u.val ∧ RepS S W (refI kecc (itemN kecc d)) u := by
 unfold refI bytesN
 by_cases h : (putI (itemN kecc d)).length < 32
 ·rw [if_pos h, if_pos h]; exact ⟨v, rfl, R⟩
 ·rw [if_neg h, if_neg h]; exact ⟨⟨false, _, none, 0, 0⟩, rfl, .text _⟩
theorem runs_len : ∀ (l : List Pr) (k : UInt8) (m : List Pr), (k, m) ∈ runsP l → m.length ≤ l.length
 | [], k, m, h => by simp [runsP] at h
 | ([], v) :: r, k, m, h => by
  have := runs_len r k m (by simpa [runsP] using h)
  simp; omega
 | (h0 :: p, v) :: r, k, m, h => by
  rw [runsP] at h
  cases e : runsP r with
  | nil =>
   rw [e] at h
   simp only [List.mem_singleton, Prod.mk.injEq] at h
   rw [h.2]; simp
  | cons y s =>
   obtain ⟨k2, m2⟩ := y
   rw [e] at h
   dsimp only at h
   by_cases hk : h0 = k2
   ·rw [if_pos hk] at h
    rcases List.mem_cons.1 h with h | h
    ·simp only [Prod.mk.injEq] at h
     have := runs_len r k2 m2 (by rw [e]; exact List.mem_cons_self)
     rw [h.2]; simp; omega
    ·have := runs_len r k m (by rw [e]; exact List.mem_cons_of_mem _ h)
     simp; omega
   ·rw [if_neg hk] at h
    rcases List.mem_cons.1 h with h | h
    ·simp only [Prod.mk.injEq] at h
     rw [h.2]; simp
    ·have := runs_len r k m (by rw [e]; exact h)
     simp; omega
theorem runs_cnt : ∀ (l : List Pr), (runsP l).length ≤ l.length
 | [] => by simp [runsP]
 | ([], v) :: r => by
  have := runs_cnt r
  simp [runsP]; omega
 | (h0 :: p, v) :: r => by
  have ih := runs_cnt r
  rw [runsP]
  cases e : runsP r with
  | nil => simp
  | cons y s =>
   obtain ⟨k2, m2⟩ := y
   rw [e] at ih
   simp at ih
   dsimp only
   split <;> simp <;> omega
theorem br_pos {l : List Pr} {L : Nat} (hs : SortP l) (hall : ∀ x ∈ l, x.1.length = L ∧ NibP x.1 ∧ x.2 ≠ [] ∧ x.2.length ≤ 1000) (h2 : 2 ≤ l.length) : 0 < L := by
 match l, h2 with
 | x :: y :: r, _ =>
  rcases Nat.eq_zero_or_pos L with h0 | h0
  ·have hx := (hall x (by simp)).1
   have hy := (hall y (by simp)).1
   rw [h0] at hx hy
   have := (List.pairwise_cons.1 hs).1 y (by simp)
   rw [List.eq_nil_of_length_eq_zero hx, List.eq_nil_of_length_eq_zero hy] at this
   exact absurd this (by simp [ltB])
  ·exact h0
theorem made17 : (madeCells (Value.agg #[.bool false, .string ByteArray.empty, .slice none 0 0]).cells (17 * 3)).toList = IvL (List.replicate 17 zIv) := by kernel_rfl
set_option maxRecDepth 100000 in
set_option maxHeartbeats 16000000 in
theorem grow_step (k : Nat) (l : List Pr) (L : Nat) (hne : l ≠ []) (hs : SortP l) (hall : ∀ x ∈ l, x.1.length = L ∧ NibP x.1 ∧ x.2 ≠ [] ∧ x.2.length ≤ 1000) (hk : L < k + 1) (hL : L ≤ 128) (hl : l.length ≤ 200)
  (IH : ∀ (l' : List Pr) (L' : Nat), l' ≠ [] → SortP l' → (∀ x ∈ l', x.1.length = L' ∧ NibP x.1 ∧ x.2 ≠ [] ∧ x.2.length ≤ 1000) → L' < k → L' ≤ 128 → l'.length ≤ 200 → ∀ (A : Option Addr) (c : Nat), l'.length ≤ c → c ≤ maxLen → ∀ w, Cs w A (PrL l') → HasT w → Calls Tryz.prog 50 #[.slice A l'.length c] w (GrP w (growP k l')))
  (A : Option Addr) (c : Nat) (hc : l.length ≤ c) (hcm : c ≤ maxLen) (w : World) (R : Cs w A (PrL l)) (hT : HasT w) : Calls Tryz.prog 50 #[.slice A l.length c] w (GrP w (growP (k + 1) l)) := by
 obtain ⟨n, hn⟩ : ∃ n, l.length = n := ⟨_, rfl⟩
 have hn0 : 0 < n := by rw [← hn]; exact List.length_pos_iff.2 hne
 obtain ⟨x0, hx0⟩ : ∃ x, l[0]? = some x := ⟨_, List.getElem?_eq_getElem (by omega)⟩
 obtain ⟨x1, hx1⟩ : ∃ x, l[n - 1]? = some x := ⟨_, List.getElem?_eq_getElem (by omega)⟩
 obtain ⟨b, o, rfl, hb, c0, c1⟩ := PrL_cells R hx0
 obtain ⟨b', o', hA, hb', d0, d1⟩ := PrL_cells R hx1
 injection hA with hA
 injection hA with e1 e2
 subst e1 e2
 simp only [Nat.zero_mul, Nat.add_zero] at c0 c1
 obtain ⟨p0, v0⟩ := x0
 obtain ⟨p1, v1⟩ := x1
 simp only at c0 c1 d0 d1
 have h0 := hall _ (List.mem_of_getElem? hx0)
 have h1 := hall _ (List.mem_of_getElem? hx1)
 simp only at h0 h1
 have n1 := fun W => common_calls p0 p1 (by omega) (by omega) W
 replace n1 := Lib.hid n1
 replace IH := Lib.hid IH
 replace R := Lib.hid R
 replace hT := Lib.hid hT
 replace hn := Lib.hid hn
 rw [hn.out] at hc hl ⊢
 have hi0 : (0 : Int) < (n : Int) := by omega
 have hi1 : wrap64 ((n : Int) - 1) = ((n - 1 : Nat) : Int) := by unfold wrap64; omega
 have hi2 : ((n - 1 : Nat) : Int) < (n : Int) := by omega
 have hi3 : n - 1 < n := by omega
 obtain ⟨g, hg⟩ : ∃ g, w.heap.size = g := ⟨_, rfl⟩
 refine (callsIn_wide (n := 9)).1 ?_
 have hwf : ∀ f, Fence.wide.fn f := fun _ => trivial
 refine callsIn_of_wp_marks Tryz.func50 rfl trivial ?_ rfl
 simp only [Tryz.ntmps50, List.size_toArray, List.length_cons, List.length_nil, Nat.reduceAdd, Nat.reduceSub, Array.replicate_succ, Array.replicate_zero, List.push_toArray, List.append_toArray, List.nil_append, List.cons_append]
 refine wpIn_wide.2 ?_
 go_upto_region 3 with fail
 have K0a := (Blk.new0 w 86 #[.bool false, .string ⟨#[]⟩, .slice none 0 0, .string ⟨#[]⟩, .slice none 0 0, .slice none 0 0]).alloc (.cells #[.pointer (some ⟨w.heap.size, 0, none⟩)] 82)
 have K1a := Blk.new1 w (.cells #[.bool false, .string ⟨#[]⟩, .slice none 0 0, .string ⟨#[]⟩, .slice none 0 0, .slice none 0 0] 86) 82 #[.pointer (some ⟨w.heap.size, 0, none⟩)]
 have HBa : Below w.heap.size w ((w.alloc (.cells #[.bool false, .string ⟨#[]⟩, .slice none 0 0, .string ⟨#[]⟩, .slice none 0 0, .slice none 0 0] 86)).alloc (.cells #[.pointer (some ⟨w.heap.size, 0, none⟩)] 82)) := bel
 rw [hg] at K0a K1a HBa
 obtain ⟨Wa, hWa⟩ : ∃ Wa, (w.alloc (.cells #[.bool false, .string ⟨#[]⟩, .slice none 0 0, .string ⟨#[]⟩, .slice none 0 0, .slice none 0 0] 86)).alloc (.cells #[.pointer (some ⟨g, 0, none⟩)] 82) = Wa := ⟨_, rfl⟩
 rw [hWa] at K0a K1a HBa ⊢
 have c0a := (HBa.cell (p := ⟨b, o, none⟩) (by rw [← hg]; exact hb)).trans c0
 have d0a := (HBa.cell (p := ⟨b, o + (n - 1) * 2, none⟩) (by rw [← hg]; exact hb)).trans d0
 have hba : b < Wa.heap.size := Nat.lt_of_lt_of_le hb (by rw [hg]; exact Nat.le_of_lt K0a.lt)
 clear hWa
 replace hg := Lib.hid hg
 have c0' := c0a
 have d0' := d0a
 replace c0 := Lib.hid c0
 replace c1 := Lib.hid c1
 replace d0 := Lib.hid d0
 replace d1 := Lib.hid d1
 replace h0 := Lib.hid h0
 replace h1 := Lib.hid h1
 replace hx0 := Lib.hid hx0
 replace hx1 := Lib.hid hx1
 replace HBa := Lib.hid HBa
 replace K0a := Lib.hid K0a
 replace K1a := Lib.hid K1a
 (refine wp_region_later (by kernel_rfl) (by kernel_rfl) ?_; (repeat (go_big_quiet_step ((go_at_call 70; exact lq (n1.out _))))); refine wpQuiet_nil ?_; intro w' hB)
 have K0 := Lib.hid (K0a.out.below hB)
 have K1 := Lib.hid (K1a.out.below hB)
 have HB := Lib.hid (HBa.out.trans (hB.mono (by rw [← hg.out] at *; exact HBa.out.size)))
 have c0 := ((hB.cell (p := ⟨b, o, none⟩) hba).trans c0')
 have hbw : b < w'.heap.size := Nat.lt_of_lt_of_le hba hB.size
 have c1 := (HB.out.cell (p := ⟨b, o + 1, none⟩) (by rw [← hg.out]; exact hb)).trans c1.out
 clear K0a K1a HBa c0' d0' c0a d0a hba hB
 obtain ⟨m, hm⟩ : ∃ m, commonP p0 p1 = m := ⟨_, rfl⟩
 have hext := Lib.hid (ext_facts hs hall hx0.out (by rw [hn.out]; exact hx1.out))
 have htwo := Lib.hid (fun h2 => grow_two k l p0 v0 p1 v1 hx0.out (by rw [hn.out]; exact hx1.out) h2)
 rw [hm] at hext htwo ⊢
 clear hm n1
 go_upto_block 0 with fail
 refine dite (n ≠ 1 ∧ ¬ 0 < m) (fun hbr => ?br) (fun hbr => ?_)
 case br =>
  obtain ⟨hn1, hm0⟩ := hbr
  have h2 : 2 ≤ n := by omega
  have hd := Lib.hid (show growP (k + 1) l = .br (chOf (growP k) (runsP l)) by rw [htwo.out (by rw [hn.out]; exact h2), if_neg hm0])
  have hLp : 0 < L := br_pos hs hall (by rw [hn.out]; exact h2)
  have hn3 : ¬ (n : Int) = 1 := by omega
  have hm3 : ¬ (0 : Int) < (m : Int) := by omega
  obtain ⟨i0, hi, hz0, hz1, hz2⟩ := info_parts infoItem
  obtain ⟨w1, hmk0, hown, hgr1⟩ := run_make_full (P := Tryz.prog) w' 0 50 52 i0 (.agg #[.bool false, .string ByteArray.empty, .slice none 0 0]) 3 Tryz.underlying50 hi hz0 hz1 .i64 .i64 17 (by rw [hz2]; omega) (by unfold maxLen; omega) (Nat.zero_le _)
  have hmk : (Instr.makeSlice 50 (.int .i64 17) (.int .i64 17)).run Tryz.prog w' = .ok (.slice (some ⟨w'.heap.size, 0, none⟩) 17 17) w1 := hmk0
  rw [made17] at hown
  have hrow1 : IRow 0 w1 (.slice (some ⟨w'.heap.size, 0, none⟩) 17 17) (List.replicate 17 zIv) := by
   unfold IRow
   rw [List.length_replicate]
   exact hown
  replace hrow1 := Lib.hid hrow1
  replace hgr1 := Lib.hid hgr1
  clear hi hz0 hz1 hz2 hmk0 hown
  refine (wpIn_wide (n := 9)).1 ?_
  gi_wp2_with (gi_at_call 74; refine (callsIn_wide.2 (parts_calls _ _ _ _)).mono ?_; rintro e w'' ⟨rfl, rfl⟩)
  obtain ⟨gi, hgi⟩ : ∃ gi, w'.heap.size = gi := ⟨_, rfl⟩
  obtain ⟨bx, hbx⟩ : ∃ bx, w1.heap.size = bx := ⟨_, rfl⟩
  obtain ⟨V, hV⟩ : ∃ V, (w1.alloc (.cells #[.slice (some ⟨w'.heap.size, 0, none⟩) 17 17] 50)).alloc (.cells #[.slice (some ⟨b, o, none⟩) n c] 109) = V := ⟨_, rfl⟩
  have hsV : V.heap.size = bx + 2 := by rw [← hV, ← hbx]; simp
  have hgg : g + 1 < gi := by have := K1.out.lt; omega
  have hgb : gi < bx := by have := (hrow1.out.lt w'.heap.size rfl).2; omega
  have KI : Blk V bx 50 #[.slice (some ⟨gi, 0, none⟩) 17 17] := by rw [← hV, ← hbx, ← hgi]; exact (Blk.new0 w1 _ _).alloc _
  have KQ : Blk V (bx + 1) 109 #[.slice (some ⟨b, o, none⟩) n c] := by rw [← hV, ← hbx]; exact Blk.new1 w1 _ _ _
  have hB1 : Below w1.heap.size w1 V := by rw [← hV]; exact ((Below.refl _ _).alloc (Nat.le_refl _) _).alloc (by simp) _
  have hgV : w'.grownBy V none := grown_on' hgr1.out (grown_none hB1)
  have HW : Below w.heap.size w w' := by rw [hg.out]; exact HB.out
  have HWV : Below w.heap.size w V := HW.grown hgV HW.size fun j e => by cases e
  have hI0 : BrV w g gi bx (bx + 1) k [] (.slice none 0 0) (.slice none 0 0) [] (List.replicate 17 zIv) V := by
   refine ⟨K0.out.grown hgV (by simp), K1.out.grown hgV (by simp), ?_, KI, World.ownsRow_nil _ _ _ _, World.ownsRow_nil _ _ _ _, rfl, List.length_replicate, fun i y p hy => by simp at hy, fun h x v hx hv => ?_, HWV, by omega⟩
   ·have := hrow1.out
    rw [hgi] at this
    exact this.keep (grown_none hB1) fun j hj e => by cases e
   ·have hv2 : v = zIv := by
     have := List.mem_of_getElem? hv
     exact List.eq_of_mem_replicate this
    subst hv2
    have hx2 : x = .text [] := by
     rcases brL_at _ _ _ _ hx with ⟨_, e⟩ | ⟨_, e⟩
     ·rw [e, List.map_nil, chOf, atC]
     ·exact e
    subst hx2
    exact .text []
  have RV : CsS (fun b => b < g) V (some ⟨b, o, none⟩) (PrL l) := R.out.keep HWV.size fun b' _ hb' => ⟨by rw [← hg.out]; exact hb', HWV.block b' hb'⟩
  have hnp : ∀ x ∈ l, x.1 ≠ [] := fun x hx e => by have := (hall x hx).1; rw [e] at this; simp at this; omega
  rw [hbx, hgi] at *
  rw [hV]
  clear hV hgV hB1 hgr1 hrow1 K0 K1 KI HB hmk c0 c1
  have hf := enters_of Tryz.func93 (by kernel_rfl) rfl
  have hst := parts_stops 8 (by decide) (bx + 1) g (by omega) l (by rw [hn.out]; omega) hnp (fun x hx => by have := (hall x hx).1; omega) (some ⟨b, o, none⟩) c (by rw [hn.out]; exact hc) V (by rw [hn.out]; exact KQ) RV
  refine wpIn_rangeFunc_st rfl (by decide) (gf := 93) (lb := #[.pointer (some ⟨bx + 1, 0, none⟩)]) rfl trivial hf
   hst (fun _ => rfl) (fun _ _ _ _ h k => h.trans k) (fun x W l o o' hl h1 h2 h3 => ⟨by simp, fun j hj _ => World.putObj_heap_other (by omega)⟩)
   (fun x A y B k o hab hkk hA ho _ => (hab.block k (Array.getElem?_eq_some_iff.1 hA).1 (by intro e; injection e with e; omega)).trans hA)
   (fun pre y x W l o o' h hl h1 h2 => ⟨h.1, h.2.1, h.2.2.1, h.2.2.2.1, h.2.2.2.2.keep (by simp) fun b hb _ => ⟨hb, World.putObj_heap_other (by omega)⟩⟩)
   (fun pre x W => ∃ va vb ps vs, BrV w g gi bx (bx + 1) k pre va vb ps vs W) (fun c _ x W => False)
   ?own (fun _ _ s A B row h hg hr => h)
   ?abs (fun _ s x A y B h hab => h) ⟨_, _, _, _, hI0⟩
   (fun y => { tmps := #[.slice (some ⟨b, o, none⟩) n c, undef, .pointer none, .pointer (some ⟨g + 1, 0, none⟩), .func (.func 68) #[] #[], .int .i64 m, undef, .pointer (some ⟨bx, 0, none⟩), .int .i64 (y.h.toNat : Int), .slice y.A y.m.length y.c, .agg #[.bool false, .string ⟨#[]⟩, .slice none 0 0, .string ⟨#[]⟩, .slice none 0 0, .slice none 0 0], .pointer (some ⟨g, 0, none⟩), .slice (some ⟨b, o, none⟩) n c, .pointer (some ⟨b, o, none⟩), .pointer (some ⟨b, o, none⟩), .string (bs p0), .slice (some ⟨b, o, none⟩) n c, .slice (some ⟨b, o, none⟩) n c, .int .i64 n, .int .i64 ((n : Int) - 1), .pointer (some ⟨b, o + (n - 1) * 2, none⟩), .pointer (some ⟨b, o + (n - 1) * 2, none⟩), .string (bs p1), .int .i64 m, .slice (some ⟨gi, 0, none⟩) 17 17, .slice (some ⟨b, o, none⟩) n c, .func (.func 93) #[] #[.pointer (some ⟨bx + 1, 0, none⟩)], .int .i64 (y.h.toNat : Int), .slice y.A y.m.length y.c, undef, undef, undef, undef, undef, undef, undef, undef, undef, undef, undef, undef, undef, undef, undef, undef, undef, undef, undef, undef, undef, undef, undef, undef, undef, undef, undef, undef, .bool false, .slice (some ⟨b, o, none⟩) n c, .int .i64 n, .bool false, undef, undef, undef, undef, undef, undef, undef, undef, undef, undef, undef, undef, undef, undef, undef, undef, .bool false, .int .i64 m, .bool false, undef, undef, undef, undef, undef, undef, undef, undef, undef, undef, undef, undef, undef, undef, undef, undef, undef, undef, undef, undef, undef, undef, undef, undef, undef, undef, undef, undef, undef, undef, undef, undef, undef], defers := [] })
   ?assign ?body ?done ?stop
  case own =>
   rintro _ s A B row ⟨va, vb, ps, vs, h⟩ hg2 hr
   exact ⟨va, vb, ps, vs, h.grown hgg hgb (by omega) (by rw [hg.out]; omega) hg2 fun j e => .inr ⟨by have := (hr j e).1; omega, (hr j e).2⟩⟩
  case abs =>
   rintro s x A y B ⟨va, vb, ps, vs, h⟩ hab
   exact ⟨va, vb, ps, vs, h.grown hgg hgb (by omega) (by rw [hg.out]; omega) hab fun j e => .inl (by injection e with e; exact e.symm)⟩
  case assign =>
   intro l y W K hK
   gi_wp2
   exact hK
  case stop =>
   rintro D c pre x W hD _ h hK
   exact h.elim
  case done =>
   rintro D xs x W hD hxs ⟨va, vb, ps, vs, hV⟩ hK
   have hDg : D ≠ g := by omega
   have hDl := (Array.getElem?_eq_some_iff.1 hK).1
   have K0 := Lib.hid hV.node
   have K1 := Lib.hid hV.box
   have K2 := Lib.hid hV.ibox
   have n4 := Lib.hid (fun W' => list_calls (some ⟨gi, 0, none⟩) 17 17 W')
   have hBr := Lib.hid (fun w2 hB => hV.done (w2 := w2) hxs hg.out hgg hgb (Nat.lt_succ_self bx) hB)
   rw [← hd.out] at hBr
   replace hK := Lib.hid hK
   clear hst hI0 RV KQ
   gi_wp2_with fail
   refine wpIn_round_held (fun W' => W'.cell? ⟨g + 1, 0, none⟩ = some (.pointer (some ⟨g, 0, none⟩)) ∧ W'.cell? ⟨bx, 0, none⟩ = some (.slice (some ⟨gi, 0, none⟩) 17 17)) (fun j => decide (j < 3)) (by kernel_rfl) ?_
   have HS : ∀ W', Below W.heap.size W W' → W'.cell? ⟨g + 1, 0, none⟩ = some (.pointer (some ⟨g, 0, none⟩)) ∧ W'.cell? ⟨bx, 0, none⟩ = some (.slice (some ⟨gi, 0, none⟩) 17 17) := fun W' hB => ⟨(K1.out.below hB).cell 0, (K2.out.below hB).cell 0⟩
   have hS0 := HS _ ((Below.refl _ W).drew)
   refine S_take (fun _ => trivial) 0 (.pointer (some ⟨g, 0, none⟩)) (by kernel_rfl) rfl (by kernel_rfl) (by kernel_rfl) (by kernel_rfl) (by kernel_rfl) (onlyN_panic _ _) hS0 (by rfl) (fun w' h => by obtain ⟨h1, h2⟩ := h; go_simp) ?_
   refine S_take (fun _ => trivial) 1 (.slice (some ⟨gi, 0, none⟩) 17 17) (by kernel_rfl) rfl (by kernel_rfl) (by kernel_rfl) (by kernel_rfl) (by kernel_rfl) (onlyN_panic _ _) hS0 (by rfl) (fun w' h => by obtain ⟨h1, h2⟩ := h; go_simp) ?_
   (try simp only [Act.put, List.getElem_toArray, List.getElem_cons_succ, List.getElem_cons_zero, List.setIfInBounds_toArray, List.set_cons_succ, List.set_cons_zero])
   refine S_one 2 (by kernel_rfl) rfl (fun K hK => ?_)
   go_simp
   gi_wp2_with (gi_at_call 71; refine (callsIn_wide.2 (n4.out _)).mono ?_; rintro e w2 ⟨rfl, hN⟩)
   have hB2 : Below W.heap.size W w2 := Below.on hN ((Below.refl _ W).drew)
   refine ⟨fun _ => HS _ hB2, ?_⟩
   have hcut := hBr.out w2 hB2
   have hK5 : Hid ((((w2.setCell ⟨g, 0, none⟩ (.bool true)).setCell ⟨g, 1, none⟩ (.string ⟨#[]⟩)).setCell ⟨g, 2, none⟩ (.slice (some ⟨gi, 0, none⟩) 17 17)).heap[D]? = some (.deferred (some []))) := Lib.hid (by
    rw [Below.heap_setCell _ _ _ _ (by simpa using hDg), Below.heap_setCell _ _ _ _ (by simpa using hDg), Below.heap_setCell _ _ _ _ (by simpa using hDg)]
    exact (hB2.block D hDl).trans hK.out)
   have P0 := Lib.hid (K0.out.below hB2)
   replace hcut := Lib.hid hcut
   clear hS0 HS hN hB2 K0 K1 K2 n4 hBr hK hV
   have K0 := P0
   clear P0
   (obtain ⟨k0, f0, l0, m0⟩ := K0.out.rl)
   (try simp only [Act.put, List.getElem_toArray, List.getElem_cons_succ, List.getElem_cons_zero, List.setIfInBounds_toArray, List.set_cons_succ, List.set_cons_zero])
   refine S_end 3 (ls := [_, _, _]) rfl (fun j hj => by simp; omega) (by kernel_rfl) ?_
   gi_wp2_with fail
   refine ⟨rfl, ?_⟩
   clear k0 f0 l0 m0 K0
   obtain ⟨W9, hW9⟩ : ∃ W9, (((w2.setCell ⟨g, 0, none⟩ (.bool true)).setCell ⟨g, 1, none⟩ (.string (bs []))).setCell ⟨g, 2, none⟩ (.slice (some ⟨gi, 0, none⟩) 17 17)) = W9 := ⟨_, rfl⟩
   replace hcut : GrM w g (growP (k + 1) l) W9 := by rw [← hW9]; exact hcut.out
   replace hK5 : W9.heap[D]? = some (.deferred (some [])) := by rw [← hW9]; exact hK5.out
   rw [hW9]
   have hDf := Lib.hid (show ∀ (u : Value) (W2 : World), Below W9.heap.size W9 W2 → (W2.setCell ⟨g, 3, none⟩ u).heap[D]? = some (.deferred (some [])) from fun u W2 hB => (Below.heap_setCell _ _ _ _ (by simpa using hDg)).trans ((hB.block D (Array.getElem?_eq_some_iff.1 hK5).1).trans hK5))
   clear hW9 hK5
   go_upto_region 17 with fail
   have hgood := good_grow (k + 1) l L hne hs hall hk hL
   obtain ⟨v, va, vb, ps, G0, G1, RV, QA, QB, hps, hch, HB⟩ := hcut
   obtain ⟨A2, f2, e2, hq1, hq2, CA, ha⟩ := own_shape QA
   obtain ⟨B2, f3, e3, _, _, CB, hbb⟩ := own_shape QB
   have hkl : ((kidsN (growP (k + 1) l)).map Prod.fst).length = (kidsN (growP (k + 1) l)).length := List.length_map ..
   rw [hkl] at e2 hq1
   rw [hps] at e3
   have hga : va.ownBlock ≠ some g := fun e => by
    obtain ⟨_, cs, hcs⟩ := ha g e
    exact cells_ne hcs G0 (by decide) rfl
   have hgb : vb.ownBlock ≠ some g := fun e => by
    obtain ⟨_, cs, hcs⟩ := hbb g e
    exact cells_ne hcs G0 (by decide) rfl
   subst e2 e3
   generalize growP (k + 1) l = d at *
   have n2 := fun W (hB : Below W9.heap.size W9 W) => encode_calls (itemN kecc d) (by have := (deep_node kecc kecc_len d hgood).2.2; omega) (by have := node_le kecc kecc_len d hgood; omega) v W (RV.rep.on hB)
   have hFin : ∀ W : World, Below W9.heap.size W9 W → TrS (fun b => w.heap.size ≤ b) (W.setCell ⟨g, 3, none⟩ (.string (bs (putI (itemN kecc d))))) d g ∧ Below w.heap.size w (W.setCell ⟨g, 3, none⟩ (.string (bs (putI (itemN kecc d))))) := fun W hB => by
    have hk : ∀ b, b < W9.heap.size → b ≠ g → (W.setCell ⟨g, 3, none⟩ (.string (bs (putI (itemN kecc d))))).heap[b]? = W9.heap[b]? := fun b hb hn => (Below.heap_setCell _ _ _ _ (by simpa using hn)).trans (hB.block b hb)
    have hz : W9.heap.size ≤ (W.setCell ⟨g, 3, none⟩ (.string (bs (putI (itemN kecc d))))).heap.size := by simpa using hB.size
    refine ⟨.mk d g v A2 B2 _ f2 f3 ps (by rw [hg.out]; exact Nat.le_refl _) (Blk.to (Blk.set_ (G0.below hB) 3 _) rfl) (RV.keep hz fun b hb hlt => ⟨hb.1, hk b hlt hb.2⟩) rfl (Nat.le_trans hq1 hq2) hps ?_ ?_ fun i x p hx hp => (hch i x p hx hp).keep hz fun b hb hlt => ⟨hb.1, hk b hlt hb.2⟩, ?_⟩
    ·have : ledL (kidsN d) = ((kidsN d).map Prod.fst).map tv := by unfold ledL; rw [List.map_map]; rfl
     rw [this]
     exact CA.keep hz fun b hb hlt => ⟨hb.1, hk b hlt fun e => hga (e ▸ hb.2)⟩
    ·exact CB.keep hz fun b hb hlt => ⟨hb.1, hk b hlt fun e => hgb (e ▸ hb.2)⟩
    ·exact (HB.trans (hB.mono HB.size)).setCell (by rw [hg.out]; exact Nat.le_refl _) _
   obtain ⟨vf, vt, vA, vn, vc⟩ := v
   simp only at G0 n2
   replace n2 := Lib.hid n2
   replace hFin := Lib.hid hFin
   generalize putI (itemN kecc d) = pd at *
   have K0 := Lib.hid G0
   have K1 := Lib.hid G1
   clear hq1 hq2 QA QB CA CB ha hbb hch RV HB hps hkl hga hgb G0 G1 hgood
   clear htwo hext
   refine (wpIn_wide (n := 9)).1 ?_
   refine wpIn_round_held (fun w' => w'.cell? ⟨g + 1, 0, none⟩ = some (.pointer (some ⟨g, 0, none⟩)) ∧ w'.cell? ⟨g, 0, none⟩ = some (.bool vf) ∧ w'.cell? ⟨g, 1, none⟩ = some (.string (bs vt)) ∧ w'.cell? ⟨g, 2, none⟩ = some (.slice vA vn vc)) (fun _ => true) (by kernel_rfl) ?_
   have HS : ∀ W, Below W9.heap.size W9 W → W.cell? ⟨g + 1, 0, none⟩ = some (.pointer (some ⟨g, 0, none⟩)) ∧ W.cell? ⟨g, 0, none⟩ = some (.bool vf) ∧ W.cell? ⟨g, 1, none⟩ = some (.string (bs vt)) ∧ W.cell? ⟨g, 2, none⟩ = some (.slice vA vn vc) := fun W hB => ⟨(K1.out.below hB).cell 0, (K0.out.below hB).cell 0, (K0.out.below hB).cell 1, (K0.out.below hB).cell 2⟩
   have hS0 := HS _ ((Below.refl _ W9).drew)
   refine S_take (fun _ => trivial) 0 (.pointer (some ⟨g, 0, none⟩)) (by kernel_rfl) rfl (by kernel_rfl) (by kernel_rfl) (by kernel_rfl) (by kernel_rfl) (onlyN_panic _ _) hS0 (by rfl) (fun w' h => by obtain ⟨h1, h2⟩ := h; go_simp) ?_
   refine S_take (fun _ => trivial) 1 (.pointer (some ⟨g, 0, none⟩)) (by kernel_rfl) rfl (by kernel_rfl) (by kernel_rfl) (by kernel_rfl) (by kernel_rfl) (onlyN_panic _ _) hS0 (by rfl) (fun w' h => by obtain ⟨h1, h2⟩ := h; go_simp) ?_
   refine S_take (fun _ => trivial) 2 (.pointer (some ⟨g, 0, none⟩)) (by kernel_rfl) rfl (by kernel_rfl) (by kernel_rfl) (by kernel_rfl) (by kernel_rfl) (onlyN_panic _ _) hS0 (by rfl) (fun w' h => by obtain ⟨h1, h2⟩ := h; go_simp) ?_
   refine S_take (fun _ => trivial) 3 (.pointer (some ⟨g, 0, none⟩)) (by kernel_rfl) rfl (by kernel_rfl) (by kernel_rfl) (by kernel_rfl) (by kernel_rfl) (onlyN_panic _ _) hS0 (by rfl) (fun w' h => by obtain ⟨h1, h2⟩ := h; go_simp) ?_
   refine S_take (fun _ => trivial) 4 (.agg #[.bool vf, .string (bs vt), .slice vA vn vc]) (by kernel_rfl) rfl (by kernel_rfl) (by kernel_rfl) (by kernel_rfl) (by kernel_rfl) (onlyN_panic _ _) hS0 (by rfl) (fun w' h => by obtain ⟨h1, h2⟩ := h; go_simp) ?_
   (try simp only [Act.put, List.getElem_toArray, List.getElem_cons_succ, List.getElem_cons_zero, List.setIfInBounds_toArray, List.set_cons_succ, List.set_cons_zero])
   refine S_one 5 (by kernel_rfl) rfl (fun K hK => ?_)
   go_simp
   gi_wp2_with (gi_at_call 13; refine (callsIn_wide.2 (n2.out _ ((Below.refl _ W9).drew))).mono ?_; rintro e w3 ⟨rfl, hN⟩)
   have hN2 : Below W9.heap.size W9 w3 := Below.on hN ((Below.refl _ W9).drew)
   have hDD := Lib.hid (hDf.out (.string (bs pd)) _ hN2)
   clear hS0
   have hS0 := HS _ hN2
   refine ⟨fun _ => hS0, ?_⟩
   refine S_take (fun _ => trivial) 6 (.tuple #[.string (bs pd), .int .i64 0]) (by kernel_rfl) rfl (by kernel_rfl) (by kernel_rfl) (by kernel_rfl) (by kernel_rfl) (onlyN_panic _ _) hS0 (by rfl) (fun w' h => by obtain ⟨h1, h2⟩ := h; go_simp) ?_
   refine S_take (fun _ => trivial) 7 (.string (bs pd)) (by kernel_rfl) rfl (by kernel_rfl) (by kernel_rfl) (by kernel_rfl) (by kernel_rfl) (onlyN_panic _ _) hS0 (by rfl) (fun w' h => by obtain ⟨h1, h2⟩ := h; go_simp) ?_
   refine S_take (fun _ => trivial) 8 (.int .i64 0) (by kernel_rfl) rfl (by kernel_rfl) (by kernel_rfl) (by kernel_rfl) (by kernel_rfl) (onlyN_panic _ _) hS0 (by rfl) (fun w' h => by obtain ⟨h1, h2⟩ := h; go_simp) ?_
   refine S_take (fun _ => trivial) 9 (.pointer (some ⟨g, 0, none⟩)) (by kernel_rfl) rfl (by kernel_rfl) (by kernel_rfl) (by kernel_rfl) (by kernel_rfl) (onlyN_panic _ _) hS0 (by rfl) (fun w' h => by obtain ⟨h1, h2⟩ := h; go_simp) ?_
   refine S_take (fun _ => trivial) 10 (.pointer (some ⟨g, 3, none⟩)) (by kernel_rfl) rfl (by kernel_rfl) (by kernel_rfl) (by kernel_rfl) (by kernel_rfl) (onlyN_panic _ _) hS0 (by rfl) (fun w' h => by obtain ⟨h1, h2⟩ := h; go_simp) ?_
   (try simp only [Act.put, List.getElem_toArray, List.getElem_cons_succ, List.getElem_cons_zero, List.setIfInBounds_toArray, List.set_cons_succ, List.set_cons_zero])
   have P0 := Lib.hid (K0.out.below hN2)
   have P1 := Lib.hid (K1.out.below hN2)
   have hF := Lib.hid (hFin.out _ hN2)
   clear hS0 HS hN hN2 n2 K0 K1 hFin
   have K0 := P0
   have K1 := P1
   clear P0 P1
   (obtain ⟨k0, f0, l0, m0⟩ := K0.out.rl; obtain ⟨k1, f1, l1, m1⟩ := K1.out.rl)
   refine S_oneL (fuel := 0) 11 (by kernel_rfl) rfl ?_
   gi_wp2_with fail
   simp only [oneQ]
   refine ⟨⟨by rw [(K1.out.far (p := ⟨g, 3, none⟩) (by simp) _).cell]; rfl, by rw [(Blk.set_ K0.out 3 _).cell]; rfl, by rw [(Blk.set_ K0.out 3 _).cell]; rfl, by rw [(Blk.set_ K0.out 3 _).cell]; rfl⟩, by kernel_rfl, rfl, ?_⟩
   have P1 := Lib.hid (K1.out.far (p := ⟨g, 3, none⟩) (by simp) (.string (bs pd)))
   clear k0 f0 l0 m0 k1 f1 l1 m1 K0 K1
   have K1 := P1
   clear P1
   (obtain ⟨k1, f1, l1, m1⟩ := K1.out.rl)
   go_wp2_with fail
   have hTr : TrS (fun b => w.heap.size ≤ b) ((w3.setCell ⟨g, 3, none⟩ (.string (bs pd))).putObj D (.deferred none)) d g := hF.out.1.keep2 (by simp) fun b' hb' hl' hcs => ⟨hb', World.putObj_heap_other (fun e => by
    subst e
    obtain ⟨cs, t, fz, hcs⟩ := hcs
    rw [hDD.out] at hcs
    cases hcs)⟩
   exact ⟨by simp, .inl ⟨_, _, rfl, run_takeDeferred hDD.out, ⟨_, by simp (maxDischargeDepth := 9) [results, Tryz.results50, go_sem], g, rfl, hTr, below_shut hF.out.2 (Nat.le_refl _) (by rw [hg.out]; omega)⟩⟩⟩
  case body =>
   rintro l2 pre y x W ⟨va, vb, ps, vs, hV⟩ hat
   obtain ⟨⟨rest, hrest⟩, hm0, hmem, hmc, hcs⟩ := hat
   have hin : Pt.run y ∈ runsP l := by rw [← hrest]; simp
   have hlt : ∀ x ∈ pre.map Pt.run, x.1.toNat < y.h.toNat := fun x hx => by
    have := runs_lt l hs hnp
    rw [← hrest, List.pairwise_append] at this
    exact this.2.2 x hx _ List.mem_cons_self
   have hpl : pre.length ≤ 200 := by
    have := runs_cnt l
    rw [← hrest] at this
    have h2 := hn.out
    simp at this
    omega
   obtain ⟨z, hz⟩ : ∃ z, y.m[0]? = some z := ⟨_, List.getElem?_eq_getElem (List.length_pos_iff.2 hm0)⟩
   have hzm := hmem z (List.mem_of_getElem? hz)
   have hzl := hall z hzm.1
   have h16 : y.h.toNat < 16 := by
    have := hzm.2
    match hz1 : z.1, this with
    | a :: t, this =>
     simp at this
     rw [← this]
     exact hzl.2.1 a (by rw [hz1]; exact List.mem_cons_self)
   obtain ⟨b2, o2, hyA, hb2, e0, _⟩ := PrL_cells (hcs.keep (S' := fun _ => True) (Nat.le_refl _) fun _ _ _ => ⟨trivial, rfl⟩) hz
   have hml := runs_len l _ _ hin
   have hbl : (behindP 1 y.m).length = y.m.length := by unfold behindP; rw [List.length_map]
   have hml2 : y.m.length ≤ 200 := by rw [← hbl]; have := hn.out; omega
   have hsub : ∀ t ∈ behindP 1 y.m, t.1.length = L - 1 ∧ NibP t.1 ∧ t.2 ≠ [] ∧ t.2.length ≤ 1000 := fun t ht => by
    obtain ⟨q1, q2, q3, q4⟩ := hall _ (runs_all l _ _ hin t ht)
    simp at q1
    exact ⟨by omega, q2.tail, q3, q4⟩
   have n3 := fun W' (hB : Below W.heap.size W W') => behind_calls y.A y.c y.m 1 (fun p hp => by have := (hall p (hmem p hp).1).1; omega) (by omega) W' ((hcs.keep (S' := fun _ => True) (Nat.le_refl _) fun _ _ _ => ⟨trivial, rfl⟩).below hB)
   have hgd := Lib.hid (show GoodN (growP k (behindP 1 y.m)) from good_grow k (behindP 1 y.m) (L - 1) (runs_some l _ _ hin) (sort_runs l hs _ _ hin) hsub (by omega) (by omega))
   have n5 := IH.out (behindP 1 y.m) (L - 1) (runs_some l _ _ hin) (sort_runs l hs _ _ hin) hsub (by omega) (by omega) (by omega)
   rw [hbl] at n5
   have hmp : 0 < y.m.length := List.length_pos_iff.2 hm0
   have hbg : b2 < g := by
    obtain ⟨b9, o9, e9, h9, _⟩ := hcs (by rw [PrL_len]; omega)
    rw [hyA] at e9
    injection e9 with e9
    injection e9 with e9
    rw [e9]; exact h9
   have hzt := hzm.2
   have hzn : 1 ≤ z.1.length := by have := hzl.1; omega
   replace hV := Lib.hid hV
   replace n3 := Lib.hid n3
   replace n5 := Lib.hid n5
   replace hlt := Lib.hid hlt
   have hW := Lib.hid hV.out.below
   simp only [Nat.zero_mul, Nat.add_zero] at e0
   rw [hyA] at n3 ⊢
   obtain ⟨pp, hpp⟩ : ∃ pp, z.1 = pp := ⟨_, rfl⟩
   rw [hpp] at e0 hzt hzn
   obtain ⟨mm, hmm⟩ : ∃ mm, y.m.length = mm := ⟨_, rfl⟩
   rw [hmm] at n3 n5 hmp hmc ⊢
   have hbl2 := Lib.hid (hbl.trans hmm)
   replace hzt := Lib.hid hzt
   clear hrest hm0 hmem hcs hin hz hzm hzl hml hbl hml2 hsub hpp hmm hst hI0 RV KQ hyA
   have hmp1 : (0 : Int) < (mm : Int) := by omega
   have hzn1 : (1 : Int) ≤ (pp.length : Int) := by omega
   have hh16 : ¬ (y.h.toNat : Int) = 16 := by omega
   have hh17 : (y.h.toNat : Int) < 17 := by omega
   have hh0 : (0 : Int) ≤ (y.h.toNat : Int) := by omega
   gi_wp2_with fail
   refine wpIn_round_held (fun W' => W'.cell? ⟨bx, 0, none⟩ = some (.slice (some ⟨gi, 0, none⟩) 17 17) ∧ W'.cell? ⟨g + 1, 0, none⟩ = some (.pointer (some ⟨g, 0, none⟩)) ∧ W'.cell? ⟨b2, o2, none⟩ = some (.string (bs pp))) (fun j => decide (j < 13)) (by kernel_rfl) ?_
   have HS : ∀ W', Below W.heap.size W W' → W'.cell? ⟨bx, 0, none⟩ = some (.slice (some ⟨gi, 0, none⟩) 17 17) ∧ W'.cell? ⟨g + 1, 0, none⟩ = some (.pointer (some ⟨g, 0, none⟩)) ∧ W'.cell? ⟨b2, o2, none⟩ = some (.string (bs pp)) := fun W' hB => ⟨(hV.out.ibox.below hB).cell 0, (hV.out.box.below hB).cell 0, (hB.cell (p := ⟨b2, o2, none⟩) hb2).trans e0⟩
   have hS0 := HS _ ((Below.refl _ W).drew)
   refine S_take (fun _ => trivial) 0 (.slice (some ⟨gi, 0, none⟩) 17 17) (by kernel_rfl) rfl (by kernel_rfl) (by kernel_rfl) (by kernel_rfl) (by kernel_rfl) (onlyN_panic _ _) hS0 (by rfl) (fun w' h => by obtain ⟨h1, h2⟩ := h; go_simp) ?_
   refine S_take (fun _ => trivial) 1 (.int .i64 (y.h.toNat : Int)) (by kernel_rfl) rfl (by kernel_rfl) (by kernel_rfl) (by kernel_rfl) (by kernel_rfl) (onlyN_panic _ _) hS0 (by rfl) (fun w' h => by obtain ⟨h1, h2⟩ := h; go_simp) ?_
   refine S_take (fun _ => trivial) 2 (.pointer (some ⟨g, 0, none⟩)) (by kernel_rfl) rfl (by kernel_rfl) (by kernel_rfl) (by kernel_rfl) (by kernel_rfl) (onlyN_panic _ _) hS0 (by rfl) (fun w' h => by obtain ⟨h1, h2⟩ := h; go_simp) ?_
   refine S_take (fun _ => trivial) 3 (.slice (some ⟨b2, o2, none⟩) mm y.c) (by kernel_rfl) rfl (by kernel_rfl) (by kernel_rfl) (by kernel_rfl) (by kernel_rfl) (onlyN_panic _ _) hS0 (by rfl) (fun w' h => by obtain ⟨h1, h2⟩ := h; go_simp) ?_
   refine S_take (fun _ => trivial) 4 (.pointer (some ⟨b2, o2, none⟩)) (by kernel_rfl) rfl (by kernel_rfl) (by kernel_rfl) (by kernel_rfl) (by kernel_rfl) (onlyN_panic _ _) hS0 (by rfl) (fun w' h => by obtain ⟨h1, h2⟩ := h; go_simp) ?_
   refine S_take (fun _ => trivial) 5 (.pointer (some ⟨b2, o2, none⟩)) (by kernel_rfl) rfl (by kernel_rfl) (by kernel_rfl) (by kernel_rfl) (by kernel_rfl) (onlyN_panic _ _) hS0 (by rfl) (fun w' h => by obtain ⟨h1, h2⟩ := h; go_simp) ?_
   refine S_take (fun _ => trivial) 6 (.string (bs pp)) (by kernel_rfl) rfl (by kernel_rfl) (by kernel_rfl) (by kernel_rfl) (by kernel_rfl) (onlyN_panic _ _) hS0 (by rfl) (fun w' h => by obtain ⟨h1, h2⟩ := h; go_simp) ?_
   refine S_take (fun _ => trivial) 7 (.string (bs (pp.take 1))) (by kernel_rfl) rfl (by kernel_rfl) (by kernel_rfl) (by kernel_rfl) (by kernel_rfl) (onlyN_panic _ _) hS0 (by rfl) (fun w' h => by obtain ⟨h1, h2⟩ := h; go_simp) ?_
   refine S_take (fun _ => trivial) 8 (.slice (some ⟨b2, o2, none⟩) mm y.c) (by kernel_rfl) rfl (by kernel_rfl) (by kernel_rfl) (by kernel_rfl) (by kernel_rfl) (onlyN_panic _ _) hS0 (by rfl) (fun w' h => by obtain ⟨h1, h2⟩ := h; go_simp) ?_
   (try simp only [Act.put, List.getElem_toArray, List.getElem_cons_succ, List.getElem_cons_zero, List.setIfInBounds_toArray, List.set_cons_succ, List.set_cons_zero])
   refine S_one 9 (by kernel_rfl) rfl (fun K hK => ?_)
   go_simp
   gi_wp2_with (gi_at_call 73; refine (CallsIn.inRound l2 (callsIn_wide.2 (n3.out _ ((Below.refl _ W).drew)))).mono ?_; rintro e w3 ⟨v3, rfl, hLf, hN⟩)
   have hB3 : Below W.heap.size W w3 := Below.on hN ((Below.refl _ W).drew)
   have HW3 := Lib.hid (hW.out.trans (hB3.mono hW.out.size))
   replace hLf : LfRow W.drew.heap.size w3 v3 (behindP 1 y.m) := hLf
   obtain ⟨A3, c3, ev, g1, g2, g3⟩ := hLf.shape
   rw [hbl2.out] at ev g1
   subst ev
   have hcall := Lib.hid (n5.out A3 c3 g1 g2 w3 (g3.keep (Nat.le_refl _) fun _ _ _ => ⟨trivial, rfl⟩) (hT.out.below HW3.out))
   refine ⟨fun _ => HS _ hB3, ?_⟩
   clear hN n3 n5 hLf g1 g2 g3 hS0
   (try simp only [Act.put, List.getElem_toArray, List.getElem_cons_succ, List.getElem_cons_zero, List.setIfInBounds_toArray, List.set_cons_succ, List.set_cons_zero])
   refine S_one 10 (by kernel_rfl) rfl (fun K hK => ?_)
   go_simp
   gi_wp2_with (gi_at_call 50; refine (CallsIn.inRound l2 (callsIn_wide.2 hcall.out)).mono ?_; rintro e w4 ⟨p, rfl, ht, hN⟩)
   have hB4 : Below W.heap.size W w4 := Below.on hN hB3
   have HW4 := Lib.hid (hW.out.trans (hB4.mono hW.out.size))
   have hz3 := hB3.size
   have hz4 := hB4.size
   have hzw := hW.out.size
   have hq := hV.out.size
   obtain ⟨hp1, hp2⟩ := ht.lt
   obtain ⟨v4, A4, B4, c4, f4, KY, RV⟩ := ht.node
   have hle := node_le kecc kecc_len _ hgd.out
   have hps := hV.out.len
   have hg4 : g + 1 < w4.heap.size := by omega
   have href := refer_calls w.heap.size g p (by rw [hg.out]; exact Nat.le_refl _) (pp.take 1) (bytesN kecc (growP k (behindP 1 y.m))) v4 _ _ va vb (pre.map fun (y : Pt) => [y.h]) ps w4 (by omega) (hV.out.node.below hB4) KY (by omega)
    (own_lift (own_below hV.out.ra hB4) fun j e => by have := (World.ownsRow.lt hV.out.ra j e).1; have := hg.out; omega) (own_lift (own_below hV.out.rb hB4) fun j e => by have := (World.ownsRow.lt hV.out.rb j e).1; have := hg.out; omega)
    (fun W' hB => hT.out.below (HW4.out.trans hB)) (by unfold bytesN; omega) (by rw [List.length_map]; omega) (by omega)
   obtain ⟨u, hu, RU⟩ := ref_item RV
   rw [hu] at href
   have hB4' := Lib.hid hB4
   replace href := Lib.hid href
   refine ⟨fun _ => HS _ hB4, ?_⟩
   clear hN hcall hu
   (try simp only [Act.put, List.getElem_toArray, List.getElem_cons_succ, List.getElem_cons_zero, List.setIfInBounds_toArray, List.set_cons_succ, List.set_cons_zero])
   refine S_one 11 (by kernel_rfl) rfl (fun K hK => ?_)
   go_simp
   gi_wp2_with (gi_at_call 72; refine (CallsIn.inRound l2 (callsIn_wide.2 href.out)).mono ?_; rintro e w5 ⟨rfl, va', vb', HR⟩)
   rw [hzt.out] at HR
   obtain ⟨hth, hKO, hKp, hV9⟩ := hV.out.next hg.out hgg hgb (Nat.lt_succ_self bx) y p u hB4'.out (ht.weak fun b' hb' _ => by omega) (RU.weak fun b' hb' _ => by omega) HR hlt.out h16
   have hlow : ∀ b', b' ≤ bx + 1 → b' ≠ g → w5.heap[b']? = W.heap[b']? := fun b' h1 h2 => (HR.kept b' (by omega) h2 (fun e => by have := (World.ownsRow.lt hV.out.ra b' e).1; omega) (fun e => by have := (World.ownsRow.lt hV.out.rb b' e).1; omega)).trans (hB4.block b' (by omega))
   have hS5 : w5.cell? ⟨bx, 0, none⟩ = some (.slice (some ⟨gi, 0, none⟩) 17 17) ∧ w5.cell? ⟨g + 1, 0, none⟩ = some (.pointer (some ⟨g, 0, none⟩)) ∧ w5.cell? ⟨b2, o2, none⟩ = some (.string (bs pp)) :=
    ⟨(show Blk w5 bx _ _ from (hlow bx (by omega) (by omega)).trans hV.out.ibox).cell 0, (show Blk w5 (g + 1) _ _ from (hlow (g + 1) (by omega) (by omega)).trans hV.out.box).cell 0, (World.cell?_of_block (a := ⟨b2, o2, none⟩) (hlow b2 (by omega) (by omega))).trans e0⟩
   refine ⟨fun _ => hS5, ?_⟩
   have hS0 := hS5
   replace hV9 := Lib.hid hV9
   replace hKO := Lib.hid hKO
   replace hKp := Lib.hid hKp
   replace hth := Lib.hid hth
   clear hS5 hlow HR HS hB4 hB3 ht KY RV RU href hle hB4'
   (try simp only [Act.put, List.getElem_toArray, List.getElem_cons_succ, List.getElem_cons_zero, List.setIfInBounds_toArray, List.set_cons_succ, List.set_cons_zero])
   refine S_take (fun _ => trivial) 12 (.pointer (some ⟨gi, y.h.toNat * 3, none⟩)) (by kernel_rfl) rfl (by kernel_rfl) (by kernel_rfl) (by kernel_rfl) (by kernel_rfl) (onlyN_panic _ _) hS0 (by rfl) (fun w' h => by obtain ⟨h1, h2⟩ := h; go_simp) ?_
   obtain ⟨uf, ut, uA, un, uc⟩ := u
   (try simp only [Act.put, List.getElem_toArray, List.getElem_cons_succ, List.getElem_cons_zero, List.setIfInBounds_toArray, List.set_cons_succ, List.set_cons_zero])
   refine S_oneL (fuel := 0) 13 (by kernel_rfl) rfl ?_
   refine wpListIn_store_mid rfl 52 _ _ rfl gi (y.h.toNat * 3) #[.bool uf, .string (bs ut), .slice uA un uc] (by rfl) (by rfl) hth.out sizeItem (by simp [Value.oneCell']) ?_
   rw [show (#[.bool uf, .string (bs ut), .slice uA un uc] : Array Value).toList = Iv.cells ⟨uf, ut, uA, un, uc⟩ from rfl]
   refine ⟨(fun h => by cases h), by kernel_rfl, rfl, ?_⟩
   gi_wp2_with fail
   exact ⟨hKO.out, hKp.out, _, _, _, _, hV9.out⟩
 go_cut [] from 10 to 112 (fun wx => GrM w g (growP (k + 1) l) wx)
 case first =>
  by_cases hn1 : n = 1
  ·have hd := Lib.hid (grow_leaf k l p0 v0 hx0.out (by rw [hn.out]; exact hn1))
   have n2 := fun W => growForm_calls p0 true h0.out.2.1 (by have := h0.out.1; omega) W
   have n3 := fun W => text_calls v0 W
   have n4 := fun W => list_calls (some ⟨W, 0, none⟩) 2 2
   replace n2 := Lib.hid n2
   replace n3 := Lib.hid n3
   replace n4 := Lib.hid n4
   clear hext htwo IH hx1 hx0 d0 d1 h1 hs hall hk hi1 hi2 hi3
   subst hn1
   generalize hfp : formP p0 true = fp at *
   replace hfp := Lib.hid hfp
   go_upto_region 13 with fail
   refine (wpIn_wide (n := 9)).1 ?_
   refine wpIn_round_held (fun W => W.cell? ⟨g + 1, 0, none⟩ = some (.pointer (some ⟨g, 0, none⟩)) ∧ W.cell? ⟨b, o, none⟩ = some (.string (bs p0)) ∧ W.cell? ⟨b, o + 1, none⟩ = some (.string (bs v0))) (fun j => decide (j < 14)) (by kernel_rfl) ?_
   have HS : ∀ W, Below w'.heap.size w' W → W.cell? ⟨g + 1, 0, none⟩ = some (.pointer (some ⟨g, 0, none⟩)) ∧ W.cell? ⟨b, o, none⟩ = some (.string (bs p0)) ∧ W.cell? ⟨b, o + 1, none⟩ = some (.string (bs v0)) := fun W hB => ⟨(K1.out.below hB).cell 0, (hB.cell (p := ⟨b, o, none⟩) hbw).trans c0, (hB.cell (p := ⟨b, o + 1, none⟩) hbw).trans c1⟩
   have hS0 := HS _ ((Below.refl _ w').drew)
   refine S_take (fun _ => trivial) 0 (.pointer (some ⟨g, 0, none⟩)) (by kernel_rfl) rfl (by kernel_rfl) (by kernel_rfl) (by kernel_rfl) (by kernel_rfl) (onlyN_panic _ _) hS0 (by rfl) (fun w' h => by obtain ⟨h1, h2⟩ := h; go_simp) ?_
   refine S_take (fun _ => trivial) 1 (.func (.func 68) #[] #[]) (by kernel_rfl) rfl (by kernel_rfl) (by kernel_rfl) (by kernel_rfl) (by kernel_rfl) (onlyN_panic _ _) hS0 (by rfl) (fun w' h => by obtain ⟨h1, h2⟩ := h; go_simp) ?_
   refine S_take (fun _ => trivial) 2 (.slice (some ⟨b, o, none⟩) 1 c) (by kernel_rfl) rfl (by kernel_rfl) (by kernel_rfl) (by kernel_rfl) (by kernel_rfl) (onlyN_panic _ _) hS0 (by rfl) (fun w' h => by obtain ⟨h1, h2⟩ := h; go_simp) ?_
   refine S_take (fun _ => trivial) 3 (.pointer (some ⟨b, o, none⟩)) (by kernel_rfl) rfl (by kernel_rfl) (by kernel_rfl) (by kernel_rfl) (by kernel_rfl) (onlyN_panic _ _) hS0 (by rfl) (fun w' h => by obtain ⟨h1, h2⟩ := h; go_simp) ?_
   refine S_take (fun _ => trivial) 4 (.pointer (some ⟨b, o, none⟩)) (by kernel_rfl) rfl (by kernel_rfl) (by kernel_rfl) (by kernel_rfl) (by kernel_rfl) (onlyN_panic _ _) hS0 (by rfl) (fun w' h => by obtain ⟨h1, h2⟩ := h; go_simp) ?_
   refine S_take (fun _ => trivial) 5 (.string (bs p0)) (by kernel_rfl) rfl (by kernel_rfl) (by kernel_rfl) (by kernel_rfl) (by kernel_rfl) (onlyN_panic _ _) hS0 (by rfl) (fun w' h => by obtain ⟨h1, h2⟩ := h; go_simp) ?_
   refine S_take (fun _ => trivial) 7 (.slice (some ⟨b, o, none⟩) 1 c) (by kernel_rfl) rfl (by kernel_rfl) (by kernel_rfl) (by kernel_rfl) (by kernel_rfl) (onlyN_panic _ _) hS0 (by rfl) (fun w' h => by obtain ⟨h1, h2⟩ := h; go_simp) ?_
   refine S_take (fun _ => trivial) 8 (.pointer (some ⟨b, o, none⟩)) (by kernel_rfl) rfl (by kernel_rfl) (by kernel_rfl) (by kernel_rfl) (by kernel_rfl) (onlyN_panic _ _) hS0 (by rfl) (fun w' h => by obtain ⟨h1, h2⟩ := h; go_simp) ?_
   refine S_take (fun _ => trivial) 9 (.pointer (some ⟨b, o + 1, none⟩)) (by kernel_rfl) rfl (by kernel_rfl) (by kernel_rfl) (by kernel_rfl) (by kernel_rfl) (onlyN_panic _ _) hS0 (by rfl) (fun w' h => by obtain ⟨h1, h2⟩ := h; go_simp) ?_
   refine S_take (fun _ => trivial) 10 (.string (bs v0)) (by kernel_rfl) rfl (by kernel_rfl) (by kernel_rfl) (by kernel_rfl) (by kernel_rfl) (onlyN_panic _ _) hS0 (by rfl) (fun w' h => by obtain ⟨h1, h2⟩ := h; go_simp) ?_
   (try simp only [Act.put, List.getElem_toArray, List.getElem_cons_succ, List.getElem_cons_zero, List.setIfInBounds_toArray, List.set_cons_succ, List.set_cons_zero])
   refine S_one 6 (by kernel_rfl) rfl (fun K hK => ?_)
   go_simp
   gi_wp2_with (gi_at_call 68; refine (callsIn_wide.2 (n2.out _)).mono ?_; rintro e w2 ⟨rfl, hN⟩)
   have hB2 : Below w'.heap.size w' w2 := Below.on hN ((Below.refl _ w').drew)
   clear hS0 hN
   have hS0 := HS _ hB2
   refine ⟨fun _ => hS0, ?_⟩
   (try simp only [Act.put, List.getElem_toArray, List.getElem_cons_succ, List.getElem_cons_zero, List.setIfInBounds_toArray, List.set_cons_succ, List.set_cons_zero])
   refine S_one 11 (by kernel_rfl) rfl (fun K hK => ?_)
   go_simp
   gi_wp2_with (gi_at_call 14; refine (callsIn_wide.2 (n3.out _)).mono ?_; rintro e w3 ⟨rfl, hN⟩)
   have hB3 : Below w'.heap.size w' w3 := Below.on hN hB2
   clear hS0 hN hB2
   have hS0 := HS _ hB3
   refine ⟨fun _ => hS0, ?_⟩
   (try simp only [Act.put, List.getElem_toArray, List.getElem_cons_succ, List.getElem_cons_zero, List.setIfInBounds_toArray, List.set_cons_succ, List.set_cons_zero])
   obtain ⟨r, hr⟩ : ∃ r, w3.heap.size = r := ⟨_, rfl⟩
   have hB4 := hB3.alloc hB3.size (.cells #[.bool false, .string (bs fp), .slice none 0 0, .bool false, .string (bs v0), .slice none 0 0] 52)
   have PR := Blk.new0 w3 52 #[.bool false, .string (bs fp), .slice none 0 0, .bool false, .string (bs v0), .slice none 0 0]
   have hgr : g + 1 < r := by have := K1.out.lt; have := hB3.size; omega
   refine S_go 12 (fun _ => trivial) (by kernel_rfl) (by kernel_rfl) rfl (by kernel_rfl) (.slice (some ⟨w3.heap.size, 0, none⟩) 2 2) (w3.alloc (.cells #[.bool false, .string (bs fp), .slice none 0 0, .bool false, .string (bs v0), .slice none 0 0] 52)) (by first | (go_simp; done) | (go_simp; rfl)) (fun _ => HS _ hB4) ?_
   rw [hr] at PR ⊢
   generalize w3.alloc (.cells #[.bool false, .string (bs fp), .slice none 0 0, .bool false, .string (bs v0), .slice none 0 0] 52) = w4 at *
   clear hS0 hr hB3
   (try simp only [Act.put, List.getElem_toArray, List.getElem_cons_succ, List.getElem_cons_zero, List.setIfInBounds_toArray, List.set_cons_succ, List.set_cons_zero])
   refine S_one 13 (by kernel_rfl) rfl (fun K hK => ?_)
   go_simp
   gi_wp2_with (gi_at_call 71; refine (callsIn_wide.2 (n4.out _ _)).mono ?_; rintro e w5 ⟨rfl, hN⟩)
   have hB5 : Below w'.heap.size w' w5 := Below.on hN hB4
   have P9 := Lib.hid (PR.below hN)
   have P0 := Lib.hid (K0.out.below hB5)
   have P1 := Lib.hid (K1.out.below hB5)
   refine ⟨fun _ => HS _ hB5, ?_⟩
   have HB5 := Lib.hid (HB.out.trans (hB5.mono (by have := HB.out.size; rw [hg.out] at this; exact this)))
   clear hB4 hN PR HS hB5 K0 K1 n2 n3 n4 c0 c1
   have K0 := P0
   clear P0
   (obtain ⟨k0, f0, l0, m0⟩ := K0.out.rl)
   (try simp only [Act.put, List.getElem_toArray, List.getElem_cons_succ, List.getElem_cons_zero, List.setIfInBounds_toArray, List.set_cons_succ, List.set_cons_zero])
   refine S_end 14 (ls := [_, _, _]) rfl (fun j hj => by simp; omega) (by kernel_rfl) ?_
   gi_wp2_with fail
   refine ⟨rfl, ?_⟩
   go_wp2_with fail
   go_meet
   case rel =>
    rw [hd.out]
    have hK : Blk (((w5.setCell ⟨g, 0, none⟩ (.bool true)).setCell ⟨g, 1, none⟩ (.string ⟨#[]⟩)).setCell ⟨g, 2, none⟩ (.slice (some ⟨r, 0, none⟩) 2 2)) g 86 #[.bool true, .string ⟨#[]⟩, .slice (some ⟨r, 0, none⟩) 2 2, .string ⟨#[]⟩, .slice none 0 0, .slice none 0 0] := Blk.to (Blk.set_ (Blk.set_ (Blk.set_ K0.out 0 _) 1 _) 2 _) rfl
    refine ⟨⟨true, [], some ⟨r, 0, none⟩, 2, 2⟩, .slice none 0 0, .slice none 0 0, [], hK, ((P1.out.far (by simp) _).far (by simp) _).far (by simp) _, ?_, World.ownsRow_nil _ _ _ _, World.ownsRow_nil _ _ _ _, rfl, fun i x p hx => by simp [kidsN] at hx, ?_⟩
    ·rw [itemN, hfp.out]
     exact two_rep (u := ⟨false, fp, none, 0, 0⟩) (v := ⟨false, v0, none, 0, 0⟩) (((P9.out.far (by simp; omega) _).far (by simp; omega) _).far (by simp; omega) _) (.text _) (.text _) ⟨by rw [hg.out]; omega, by omega⟩
    ·rw [hg.out]
     exact (((HB5.out.setCell (by simp) _).setCell (by simp) _).setCell (by simp) _)
  ·by_cases hm0 : 0 < m
   ·have h2 : 2 ≤ n := by omega
    have hd := Lib.hid (show growP (k + 1) l = .ext (p0.take m) (growP k (behindP m l)) by rw [htwo.out (by rw [hn.out]; exact h2), if_pos hm0])
    obtain ⟨e1, e2, e3⟩ := hext.out
    have hpl : m ≤ p0.length := by rw [h0.out.1]; exact e3
    have n2 := fun W => growForm_calls (p0.take m) false (h0.out.2.1.take m) (by have := h0.out.1; simp; omega) W
    have n3 := fun W (hB : Below w.heap.size w W) => behind_calls (some ⟨b, o, none⟩) c l m (fun p hp => by have := (hall p hp).1; omega) (by rw [hn.out]; omega) W (R.out.below hB)
    have hbl : (behindP m l).length = n := by unfold behindP; rw [List.length_map, hn.out]
    have n5 := IH.out (behindP m l) (L - m) (fun e => by rw [e, List.length_nil] at hbl; omega) e1 e2 (by omega) (by omega) (by omega)
    rw [hbl] at n5
    rw [hn.out] at n3
    have n4 := fun W => list_calls (some ⟨W, 0, none⟩) 2 2
    have hm1 : (0 : Int) ≤ (m : Int) := by omega
    have hm2 : (m : Int) ≤ (p0.length : Int) := by omega
    have hm3 : (0 : Int) < (m : Int) := by omega
    have hn3 : ¬ (n : Int) = 1 := by omega
    have hpm : Hid (NibP (p0.take m) ∧ (p0.take m) ≠ []) := Lib.hid ⟨h0.out.2.1.take m, fun e => by have := congrArg List.length e; rw [List.length_take, List.length_nil] at this; omega⟩
    replace n2 := Lib.hid n2
    replace n3 := Lib.hid n3
    replace n4 := Lib.hid n4
    replace n5 := Lib.hid n5
    have hgd := Lib.hid (show GoodN (growP k (behindP m l)) from good_grow k (behindP m l) (L - m) (fun e => by rw [e, List.length_nil] at hbl; omega) e1 e2 (by omega) (by omega))
    have HW := Lib.hid (show Below w.heap.size w w' by rw [hg.out]; exact HB.out)
    clear htwo IH hx1 hx0 d0 d1 h1 hs hall hk hi1 hi2 hi3 e1 e2 hext HB
    go_upto_region 16 with fail
    generalize growP k (behindP m l) = d at *
    generalize hpe : p0.take m = pm at *
    generalize hfp : formP pm false = fp at *
    replace hfp := Lib.hid hfp
    refine (wpIn_wide (n := 9)).1 ?_
    refine wpIn_round_held (fun W => W.cell? ⟨g + 1, 0, none⟩ = some (.pointer (some ⟨g, 0, none⟩)) ∧ True) (fun j => decide (j < 13)) (by kernel_rfl) ?_
    have HS : ∀ W, Below w'.heap.size w' W → W.cell? ⟨g + 1, 0, none⟩ = some (.pointer (some ⟨g, 0, none⟩)) ∧ True := fun W hB => ⟨(K1.out.below hB).cell 0, trivial⟩
    have hS0 := HS _ ((Below.refl _ w').drew)
    refine S_take (fun _ => trivial) 0 (.pointer (some ⟨g, 0, none⟩)) (by kernel_rfl) rfl (by kernel_rfl) (by kernel_rfl) (by kernel_rfl) (by kernel_rfl) (onlyN_panic _ _) hS0 (by rfl) (fun w' h => by obtain ⟨h1, h2⟩ := h; go_simp) ?_
    refine S_take (fun _ => trivial) 1 (.func (.func 68) #[] #[]) (by kernel_rfl) rfl (by kernel_rfl) (by kernel_rfl) (by kernel_rfl) (by kernel_rfl) (onlyN_panic _ _) hS0 (by rfl) (fun w' h => by obtain ⟨h1, h2⟩ := h; go_simp) ?_
    refine S_take (fun _ => trivial) 2 (.string (bs pm)) (by kernel_rfl) rfl (by kernel_rfl) (by kernel_rfl) (by kernel_rfl) (by kernel_rfl) (onlyN_panic _ _) hS0 (by rfl) (fun w' h => by obtain ⟨h1, h2⟩ := h; go_simp) ?_
    refine S_take (fun _ => trivial) 4 (.pointer (some ⟨g, 0, none⟩)) (by kernel_rfl) rfl (by kernel_rfl) (by kernel_rfl) (by kernel_rfl) (by kernel_rfl) (onlyN_panic _ _) hS0 (by rfl) (fun w' h => by obtain ⟨h1, h2⟩ := h; go_simp) ?_
    refine S_take (fun _ => trivial) 5 (.string (bs pm)) (by kernel_rfl) rfl (by kernel_rfl) (by kernel_rfl) (by kernel_rfl) (by kernel_rfl) (onlyN_panic _ _) hS0 (by rfl) (fun w' h => by obtain ⟨h1, h2⟩ := h; go_simp) ?_
    refine S_take (fun _ => trivial) 6 (.slice (some ⟨b, o, none⟩) n c) (by kernel_rfl) rfl (by kernel_rfl) (by kernel_rfl) (by kernel_rfl) (by kernel_rfl) (onlyN_panic _ _) hS0 (by rfl) (fun w' h => by obtain ⟨h1, h2⟩ := h; go_simp) ?_
    refine S_take (fun _ => trivial) 7 (.int .i64 m) (by kernel_rfl) rfl (by kernel_rfl) (by kernel_rfl) (by kernel_rfl) (by kernel_rfl) (onlyN_panic _ _) hS0 (by rfl) (fun w' h => by obtain ⟨h1, h2⟩ := h; go_simp) ?_
    (try simp only [Act.put, List.getElem_toArray, List.getElem_cons_succ, List.getElem_cons_zero, List.setIfInBounds_toArray, List.set_cons_succ, List.set_cons_zero])
    refine S_one 3 (by kernel_rfl) rfl (fun K hK => ?_)
    go_simp
    gi_wp2_with (gi_at_call 68; refine (callsIn_wide.2 (n2.out _)).mono ?_; rintro e w2 ⟨rfl, hN⟩)
    have hB2 : Below w'.heap.size w' w2 := Below.on hN ((Below.refl _ w').drew)
    have HW2 := Lib.hid (HW.out.trans (hB2.mono HW.out.size))
    refine ⟨fun _ => HS _ hB2, ?_⟩
    clear hS0 hN n2
    (try simp only [Act.put, List.getElem_toArray, List.getElem_cons_succ, List.getElem_cons_zero, List.setIfInBounds_toArray, List.set_cons_succ, List.set_cons_zero])
    refine S_one 8 (by kernel_rfl) rfl (fun K hK => ?_)
    go_simp
    gi_wp2_with (gi_at_call 73; refine (callsIn_wide.2 (n3.out _ HW2.out)).mono ?_; rintro e w3 ⟨v3, rfl, hLf, hN⟩)
    have hB3 : Below w'.heap.size w' w3 := Below.on hN hB2
    have HW3 := Lib.hid (HW.out.trans (hB3.mono HW.out.size))
    replace hLf : LfRow w2.heap.size w3 v3 (behindP m l) := hLf
    obtain ⟨A3, c3, ev, g1, g2, g3⟩ := hLf.shape
    rw [hbl] at ev g1
    subst ev
    have hcall := Lib.hid (n5.out A3 c3 g1 g2 w3 (g3.keep (Nat.le_refl _) fun _ _ _ => ⟨trivial, rfl⟩) (hT.out.below HW3.out))
    refine ⟨fun _ => HS _ hB3, ?_⟩
    clear hN n3 n5 hLf g1 g2 g3
    (try simp only [Act.put, List.getElem_toArray, List.getElem_cons_succ, List.getElem_cons_zero, List.setIfInBounds_toArray, List.set_cons_succ, List.set_cons_zero])
    refine S_one 9 (by kernel_rfl) rfl (fun K hK => ?_)
    go_simp
    gi_wp2_with (gi_at_call 50; refine (callsIn_wide.2 hcall.out).mono ?_; rintro e w4 ⟨y, rfl, ht, hN⟩)
    have hB4 : Below w'.heap.size w' w4 := Below.on hN hB3
    have HW4 := Lib.hid (HW.out.trans (hB4.mono HW.out.size))
    obtain ⟨hy1, hy2⟩ := ht.lt
    obtain ⟨v4, A4, B4, c4, f4, KY, RV⟩ := ht.node
    have hg1 : g + 1 < w3.heap.size := Nat.lt_of_lt_of_le K1.out.lt hB3.size
    have hg4 : g + 1 < w4.heap.size := Nat.lt_of_lt_of_le K1.out.lt hB4.size
    have hle := node_le kecc kecc_len d hgd.out
    have href := refer_calls g g y (Nat.le_refl _) pm (bytesN kecc d) v4 _ _ (.slice none 0 0) (.slice none 0 0) [] [] w4 (by omega) (K0.out.below hB4) KY (by omega) (World.ownsRow_nil _ _ _ _) (World.ownsRow_nil _ _ _ _)
     (fun W hB => hT.out.below (HW4.out.trans (by rw [hg.out]; exact hB))) (by unfold bytesN; omega) (by simp) (by simp)
    obtain ⟨u, hu, RU⟩ := ref_item RV
    rw [hu] at href
    replace href := Lib.hid href
    refine ⟨fun _ => HS _ hB4, ?_⟩
    clear hN hcall hu
    (try simp only [Act.put, List.getElem_toArray, List.getElem_cons_succ, List.getElem_cons_zero, List.setIfInBounds_toArray, List.set_cons_succ, List.set_cons_zero])
    refine S_one 10 (by kernel_rfl) rfl (fun K hK => ?_)
    go_simp
    gi_wp2_with (gi_at_call 72; refine (callsIn_wide.2 href.out).mono ?_; rintro e w5 ⟨rfl, va, vb, HR⟩)
    have hK1' : ∀ W : World, (∀ b, b < w4.heap.size → b ≠ g → W.heap[b]? = w4.heap[b]?) → W.cell? ⟨g + 1, 0, none⟩ = some (.pointer (some ⟨g, 0, none⟩)) ∧ True := fun W h => ⟨(show Blk W (g + 1) _ _ from (h (g + 1) hg4 (by omega)).trans (K1.out.below hB4)).cell 0, trivial⟩
    have hkp5 := HR.kept
    refine ⟨fun _ => hK1' _ (fun b hb hn => hkp5 b hb hn (by simp [Value.ownBlock]) (by simp [Value.ownBlock])), ?_⟩
    (try simp only [Act.put, List.getElem_toArray, List.getElem_cons_succ, List.getElem_cons_zero, List.setIfInBounds_toArray, List.set_cons_succ, List.set_cons_zero])
    obtain ⟨uf, ut, uA, un, uc⟩ := u
    obtain ⟨r, hr⟩ : ∃ r, w5.heap.size = r := ⟨_, rfl⟩
    have PR := Blk.new0 w5 52 #[.bool false, .string (bs fp), .slice none 0 0, .bool uf, .string (bs ut), .slice uA un uc]
    have HR6 := HR.grown (by omega) (grown_none ((Below.refl _ w5).alloc (Nat.le_refl _) (.cells #[.bool false, .string (bs fp), .slice none 0 0, .bool uf, .string (bs ut), .slice uA un uc] 52)))
    have hkp6 := HR6.kept
    have hgr : g + 1 < r := by have := HR.size; omega
    have hwr4 : w4.heap.size ≤ r := by have := HR.size; omega
    refine S_go 11 (fun _ => trivial) (by kernel_rfl) (by kernel_rfl) rfl (by kernel_rfl) (.slice (some ⟨w5.heap.size, 0, none⟩) 2 2) (w5.alloc (.cells #[.bool false, .string (bs fp), .slice none 0 0, .bool uf, .string (bs ut), .slice uA un uc] 52)) (by first | (go_simp; done) | (go_simp; rfl)) (fun _ => hK1' _ (fun b hb hn => hkp6 b hb hn (by simp [Value.ownBlock]) (by simp [Value.ownBlock]))) ?_
    rw [hr] at PR ⊢
    generalize w5.alloc (.cells #[.bool false, .string (bs fp), .slice none 0 0, .bool uf, .string (bs ut), .slice uA un uc] 52) = w6 at *
    clear hr HR hkp5
    (try simp only [Act.put, List.getElem_toArray, List.getElem_cons_succ, List.getElem_cons_zero, List.setIfInBounds_toArray, List.set_cons_succ, List.set_cons_zero])
    refine S_one 12 (by kernel_rfl) rfl (fun K hK => ?_)
    go_simp
    gi_wp2_with (gi_at_call 71; refine (callsIn_wide.2 (n4.out _ _)).mono ?_; rintro e w7 ⟨rfl, hN⟩)
    have HR7 := HR6.grown (by omega) (grown_none hN)
    have P9 := Lib.hid (PR.below hN)
    have hkp7 := HR7.kept
    refine ⟨fun _ => hK1' _ (fun b hb hn => hkp7 b hb hn (by simp [Value.ownBlock]) (by simp [Value.ownBlock])), ?_⟩
    have HF := Lib.hid HR7
    have K0' := Lib.hid HR7.node
    have P1 := Lib.hid (K1.out.below hB4)
    replace RU := Lib.hid RU
    replace ht := Lib.hid ht
    replace hfp := Lib.hid hfp
    clear hN PR HR6 hkp6 hkp7 HS hB2 hB3 K0 K1 n4 c0 c1 HR7 hK1' href KY RV hle hB4
    have K0 := K0'
    clear K0'
    (obtain ⟨k0, f0, l0, m0⟩ := K0.out.rl)
    (try simp only [Act.put, List.getElem_toArray, List.getElem_cons_succ, List.getElem_cons_zero, List.setIfInBounds_toArray, List.set_cons_succ, List.set_cons_zero])
    refine S_end 13 (ls := [_, _, _]) rfl (fun j hj => by simp; omega) (by kernel_rfl) ?_
    gi_wp2_with fail
    refine ⟨rfl, ?_⟩
    go_wp2_with fail
    go_meet
    case rel =>
     rw [hd.out]
     have HE := (((HF.out.put (Nat.le_refl g) 0 (.bool true) rfl).put (Nat.le_refl g) 1 (.string ⟨#[]⟩) rfl).put (Nat.le_refl g) 2 (.slice (some ⟨r, 0, none⟩) 2 2) rfl)
     have hkp := HE.kept
     have hk : ∀ b, b < w4.heap.size → b ≠ g → (((w7.setCell ⟨g, 0, none⟩ (.bool true)).setCell ⟨g, 1, none⟩ (.string ⟨#[]⟩)).setCell ⟨g, 2, none⟩ (.slice (some ⟨r, 0, none⟩) 2 2)).heap[b]? = w4.heap[b]? := fun b hb hn => hkp b hb hn (by simp [Value.ownBlock]) (by simp [Value.ownBlock])
     have hsz := HE.size
     refine ⟨⟨true, [], some ⟨r, 0, none⟩, 2, 2⟩, va, vb, [y], HE.node, (show Blk _ (g + 1) _ _ from (hk (g + 1) hg4 (by omega)).trans P1.out), ?_, ?_, ?_, rfl, ?_, ?_⟩
     ·rw [itemN, hfp.out.out]
      exact two_rep (u := ⟨false, fp, none, 0, 0⟩) (v := ⟨uf, ut, uA, un, uc⟩) (((P9.out.far (by simp; omega) _).far (by simp; omega) _).far (by simp; omega) _) (.text _) (RU.out.keep hsz fun b hb hlt => ⟨⟨by have := HW3.out.size; omega, by omega⟩, hk b hlt (by omega)⟩) ⟨by rw [hg.out]; omega, by omega⟩
     ·rw [hg.out]
      exact HE.ra
     ·rw [hg.out]
      exact HE.rb
     ·intro i x p hx hp
      match i, hx, hp with
      | 0, hx, hp =>
       simp [kidsN] at hx hp
       subst hx hp
       exact ht.out.keep hsz fun b hb hlt => ⟨⟨by have := HW3.out.size; omega, by omega⟩, hk b hlt (by omega)⟩
      | i + 1, hx, hp => simp [kidsN] at hx
     ·exact HW4.out.trans (by rw [hg.out]; exact HE.below)
   ·exact absurd ⟨hn1, hm0⟩ hbr
 case rest =>
  have hgood := good_grow (k + 1) l L hne hs hall hk hL
  obtain ⟨v, va, vb, ps, G0, G1, RV, QA, QB, hps, hch, HB⟩ := hcut
  obtain ⟨A2, f2, e2, hq1, hq2, CA, ha⟩ := own_shape QA
  obtain ⟨B2, f3, e3, _, _, CB, hbb⟩ := own_shape QB
  have hkl : ((kidsN (growP (k + 1) l)).map Prod.fst).length = (kidsN (growP (k + 1) l)).length := List.length_map ..
  rw [hkl] at e2 hq1
  rw [hps] at e3
  have hga : va.ownBlock ≠ some g := fun e => by
   obtain ⟨_, cs, hcs⟩ := ha g e
   exact cells_ne hcs G0 (by decide) rfl
  have hgb : vb.ownBlock ≠ some g := fun e => by
   obtain ⟨_, cs, hcs⟩ := hbb g e
   exact cells_ne hcs G0 (by decide) rfl
  subst e2 e3
  generalize growP (k + 1) l = d at *
  have n2 := fun W (hB : Below wc.heap.size wc W) => encode_calls (itemN kecc d) (by have := (deep_node kecc kecc_len d hgood).2.2; omega) (by have := node_le kecc kecc_len d hgood; omega) v W (RV.rep.on hB)
  have hFin : ∀ W : World, Below wc.heap.size wc W → TrS (fun b => w.heap.size ≤ b) (W.setCell ⟨g, 3, none⟩ (.string (bs (putI (itemN kecc d))))) d g ∧ Below w.heap.size w (W.setCell ⟨g, 3, none⟩ (.string (bs (putI (itemN kecc d))))) := fun W hB => by
   have hk : ∀ b, b < wc.heap.size → b ≠ g → (W.setCell ⟨g, 3, none⟩ (.string (bs (putI (itemN kecc d))))).heap[b]? = wc.heap[b]? := fun b hb hn => (Below.heap_setCell _ _ _ _ (by simpa using hn)).trans (hB.block b hb)
   have hz : wc.heap.size ≤ (W.setCell ⟨g, 3, none⟩ (.string (bs (putI (itemN kecc d))))).heap.size := by simpa using hB.size
   refine ⟨.mk d g v A2 B2 _ f2 f3 ps (by rw [hg.out]; exact Nat.le_refl _) (Blk.to (Blk.set_ (G0.below hB) 3 _) rfl) (RV.keep hz fun b hb hlt => ⟨hb.1, hk b hlt hb.2⟩) rfl (Nat.le_trans hq1 hq2) hps ?_ ?_ fun i x p hx hp => (hch i x p hx hp).keep hz fun b hb hlt => ⟨hb.1, hk b hlt hb.2⟩, ?_⟩
   ·have : ledL (kidsN d) = ((kidsN d).map Prod.fst).map tv := by unfold ledL; rw [List.map_map]; rfl
    rw [this]
    exact CA.keep hz fun b hb hlt => ⟨hb.1, hk b hlt fun e => hga (e ▸ hb.2)⟩
   ·exact CB.keep hz fun b hb hlt => ⟨hb.1, hk b hlt fun e => hgb (e ▸ hb.2)⟩
   ·exact (HB.trans (hB.mono HB.size)).setCell (by rw [hg.out]; exact Nat.le_refl _) _
  obtain ⟨vf, vt, vA, vn, vc⟩ := v
  simp only at G0 n2
  replace n2 := Lib.hid n2
  replace hFin := Lib.hid hFin
  generalize putI (itemN kecc d) = pd at *
  have K0 := Lib.hid G0
  have K1 := Lib.hid G1
  clear hq1 hq2 QA QB CA CB ha hbb hch RV HB hps hkl hga hgb G0 G1 hgood
  clear c0 htwo hext
  go_upto_region 17 with fail
  refine (wpIn_wide (n := 9)).1 ?_
  refine wpIn_round_held (fun w' => w'.cell? ⟨g + 1, 0, none⟩ = some (.pointer (some ⟨g, 0, none⟩)) ∧ w'.cell? ⟨g, 0, none⟩ = some (.bool vf) ∧ w'.cell? ⟨g, 1, none⟩ = some (.string (bs vt)) ∧ w'.cell? ⟨g, 2, none⟩ = some (.slice vA vn vc)) (fun _ => true) (by kernel_rfl) ?_
  have HS : ∀ W, Below wc.heap.size wc W → W.cell? ⟨g + 1, 0, none⟩ = some (.pointer (some ⟨g, 0, none⟩)) ∧ W.cell? ⟨g, 0, none⟩ = some (.bool vf) ∧ W.cell? ⟨g, 1, none⟩ = some (.string (bs vt)) ∧ W.cell? ⟨g, 2, none⟩ = some (.slice vA vn vc) := fun W hB => ⟨(K1.out.below hB).cell 0, (K0.out.below hB).cell 0, (K0.out.below hB).cell 1, (K0.out.below hB).cell 2⟩
  have hS0 := HS _ ((Below.refl _ wc).drew)
  refine S_take (fun _ => trivial) 0 (.pointer (some ⟨g, 0, none⟩)) (by kernel_rfl) rfl (by kernel_rfl) (by kernel_rfl) (by kernel_rfl) (by kernel_rfl) (onlyN_panic _ _) hS0 (by rfl) (fun w' h => by obtain ⟨h1, h2⟩ := h; go_simp) ?_
  refine S_take (fun _ => trivial) 1 (.pointer (some ⟨g, 0, none⟩)) (by kernel_rfl) rfl (by kernel_rfl) (by kernel_rfl) (by kernel_rfl) (by kernel_rfl) (onlyN_panic _ _) hS0 (by rfl) (fun w' h => by obtain ⟨h1, h2⟩ := h; go_simp) ?_
  refine S_take (fun _ => trivial) 2 (.pointer (some ⟨g, 0, none⟩)) (by kernel_rfl) rfl (by kernel_rfl) (by kernel_rfl) (by kernel_rfl) (by kernel_rfl) (onlyN_panic _ _) hS0 (by rfl) (fun w' h => by obtain ⟨h1, h2⟩ := h; go_simp) ?_
  refine S_take (fun _ => trivial) 3 (.pointer (some ⟨g, 0, none⟩)) (by kernel_rfl) rfl (by kernel_rfl) (by kernel_rfl) (by kernel_rfl) (by kernel_rfl) (onlyN_panic _ _) hS0 (by rfl) (fun w' h => by obtain ⟨h1, h2⟩ := h; go_simp) ?_
  refine S_take (fun _ => trivial) 4 (.agg #[.bool vf, .string (bs vt), .slice vA vn vc]) (by kernel_rfl) rfl (by kernel_rfl) (by kernel_rfl) (by kernel_rfl) (by kernel_rfl) (onlyN_panic _ _) hS0 (by rfl) (fun w' h => by obtain ⟨h1, h2⟩ := h; go_simp) ?_
  (try simp only [Act.put, List.getElem_toArray, List.getElem_cons_succ, List.getElem_cons_zero, List.setIfInBounds_toArray, List.set_cons_succ, List.set_cons_zero])
  refine S_one 5 (by kernel_rfl) rfl (fun K hK => ?_)
  go_simp
  gi_wp2_with (gi_at_call 13; refine (callsIn_wide.2 (n2.out _ ((Below.refl _ wc).drew))).mono ?_; rintro e w3 ⟨rfl, hN⟩)
  have hN2 : Below wc.heap.size wc w3 := Below.on hN ((Below.refl _ wc).drew)
  skip
  clear hS0
  have hS0 := HS _ hN2
  refine ⟨fun _ => hS0, ?_⟩
  refine S_take (fun _ => trivial) 6 (.tuple #[.string (bs pd), .int .i64 0]) (by kernel_rfl) rfl (by kernel_rfl) (by kernel_rfl) (by kernel_rfl) (by kernel_rfl) (onlyN_panic _ _) hS0 (by rfl) (fun w' h => by obtain ⟨h1, h2⟩ := h; go_simp) ?_
  refine S_take (fun _ => trivial) 7 (.string (bs pd)) (by kernel_rfl) rfl (by kernel_rfl) (by kernel_rfl) (by kernel_rfl) (by kernel_rfl) (onlyN_panic _ _) hS0 (by rfl) (fun w' h => by obtain ⟨h1, h2⟩ := h; go_simp) ?_
  refine S_take (fun _ => trivial) 8 (.int .i64 0) (by kernel_rfl) rfl (by kernel_rfl) (by kernel_rfl) (by kernel_rfl) (by kernel_rfl) (onlyN_panic _ _) hS0 (by rfl) (fun w' h => by obtain ⟨h1, h2⟩ := h; go_simp) ?_
  refine S_take (fun _ => trivial) 9 (.pointer (some ⟨g, 0, none⟩)) (by kernel_rfl) rfl (by kernel_rfl) (by kernel_rfl) (by kernel_rfl) (by kernel_rfl) (onlyN_panic _ _) hS0 (by rfl) (fun w' h => by obtain ⟨h1, h2⟩ := h; go_simp) ?_
  refine S_take (fun _ => trivial) 10 (.pointer (some ⟨g, 3, none⟩)) (by kernel_rfl) rfl (by kernel_rfl) (by kernel_rfl) (by kernel_rfl) (by kernel_rfl) (onlyN_panic _ _) hS0 (by rfl) (fun w' h => by obtain ⟨h1, h2⟩ := h; go_simp) ?_
  (try simp only [Act.put, List.getElem_toArray, List.getElem_cons_succ, List.getElem_cons_zero, List.setIfInBounds_toArray, List.set_cons_succ, List.set_cons_zero])
  have P0 := Lib.hid (K0.out.below hN2)
  have P1 := Lib.hid (K1.out.below hN2)
  have hF := Lib.hid (hFin.out _ hN2)
  clear hS0 HS hN hN2 n2 K0 K1 hFin
  have K0 := P0
  have K1 := P1
  clear P0 P1
  (obtain ⟨k0, f0, l0, m0⟩ := K0.out.rl; obtain ⟨k1, f1, l1, m1⟩ := K1.out.rl)
  refine S_oneL (fuel := 0) 11 (by kernel_rfl) rfl ?_
  gi_wp2_with fail
  simp only [oneQ]
  refine ⟨⟨by rw [(K1.out.far (p := ⟨g, 3, none⟩) (by simp) _).cell]; rfl, by rw [(Blk.set_ K0.out 3 _).cell]; rfl, by rw [(Blk.set_ K0.out 3 _).cell]; rfl, by rw [(Blk.set_ K0.out 3 _).cell]; rfl⟩, by kernel_rfl, rfl, ?_⟩
  have P1 := Lib.hid (K1.out.far (p := ⟨g, 3, none⟩) (by simp) (.string (bs pd)))
  clear k0 f0 l0 m0 k1 f1 l1 m1 K0 K1
  have K1 := P1
  clear P1
  (obtain ⟨k1, f1, l1, m1⟩ := K1.out.rl)
  go_wp2_with fail
  exact ⟨_, by simp (maxDischargeDepth := 9) [results, Tryz.results50, go_sem], g, rfl, hF.out.1, hF.out.2⟩
theorem grow_calls : ∀ (k : Nat) (l : List Pr) (L : Nat), l ≠ [] → SortP l → (∀ x ∈ l, x.1.length = L ∧ NibP x.1 ∧ x.2 ≠ [] ∧ x.2.length ≤ 1000) → L < k → L ≤ 128 → l.length ≤ 200 → ∀ (A : Option Addr) (c : Nat), l.length ≤ c → c ≤ maxLen → ∀ w, Cs w A (PrL l) → HasT w → Calls Tryz.prog 50 #[.slice A l.length c] w (GrP w (growP k l))
 | 0, _, _, _, _, _, hk, _, _, _, _, _, _, _, _, _ => absurd hk (by omega)
 | k + 1, l, L, h1, h2, h3, h4, h5, h6, A, c, hc, hcm, w, R, hT => by
  have hl := List.length_pos_iff.2 h1
  obtain ⟨x0, hx0⟩ : ∃ x, l[0]? = some x := ⟨_, List.getElem?_eq_getElem hl⟩
  exact grow_step k l L h1 h2 h3 h4 h5 h6 (fun l' L' g1 g2 g3 g4 g5 g6 A' c' g7 g8 w' g9 g10 => grow_calls k l' L' g1 g2 g3 g4 g5 g6 A' c' g7 g8 w' g9 g10) A c hc hcm w R hT
end Go.Proofs.YthhlbdgladhdkaaGreatDoor
end
