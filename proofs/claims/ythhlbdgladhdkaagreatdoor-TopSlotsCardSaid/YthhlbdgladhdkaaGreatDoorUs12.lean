/- What the later texts stand on (Nib4, Kec1, Kec2): plain laws and walks, each by its own conditions. -/
import Derived.Test.YthhlbdgladhdkaaGreatDoorUs11
import Derived.Test.YthhlbdgladhdkaaGreatDoorUs9
import Derived.Test.YthhlbdgladhdkaaGreatDoorUs4
import Derived.Test.YthhlbdgladhdkaaGreatDoorUs5
set_option linter.unusedSimpArgs false
set_option linter.unusedVariables false
section
namespace Go.Proofs.YthhlbdgladhdkaaGreatDoor
open BigFrame Go.RowKit Go.Phx Go.Shelf
attribute [local go_sem] Oper.semAt_some

def outP : Bytes → Bytes
 | [] => []
 | [_] => []
 | m :: x :: r => if m.toNat % 2 = 0 then r else x :: r
def mkOf : Bytes → Nat
 | [] => 0
 | m :: _ => m.toNat
theorem mkOf_lt (s : Bytes) : mkOf s < 256 := by
 cases s with
 | nil => decide
 | cons m r => exact m.toNat_lt
theorem mkOf_app {s : Bytes} (h : s ≠ []) (y : UInt8) : mkOf (s ++ [y]) = mkOf s := by
 cases s with
 | nil => exact absurd rfl h
 | cons m r => rfl
theorem outP_app {s : Bytes} (h : s ≠ []) (y : UInt8) (hk : ¬ (s.length = 1 ∧ mkOf s % 2 = 0)) : outP (s ++ [y]) = outP s ++ [y] := by
 match s, h, hk with
 | [m], _, hk =>
  have : ¬ m.toNat % 2 = 0 := fun e => hk ⟨rfl, e⟩
  show (if m.toNat % 2 = 0 then [] else [y]) = [y]
  rw [if_neg this]
 | m :: x :: r, _, hk =>
  show (if m.toNat % 2 = 0 then r ++ [y] else x :: (r ++ [y])) = (if m.toNat % 2 = 0 then r else x :: r) ++ [y]
  split <;> rfl
theorem outP_skip {s : Bytes} (y : UInt8) (h1 : s.length = 1) (h2 : mkOf s % 2 = 0) : outP (s ++ [y]) = outP s := by
 match s, h1, h2 with
 | [m], _, h2 =>
  show (if m.toNat % 2 = 0 then [] else [y]) = []
  rw [if_pos (show m.toNat % 2 = 0 from h2)]
theorem form_read (p : Bytes) (f : Bool) (hp : NibP p) : outP (pathOf (formP p f)) = p ∧ mkOf (pathOf (formP p f)) ≤ 3 ∧ decide (2 ≤ mkOf (pathOf (formP p f))) = f ∧ (pathOf (formP p f)).length ≤ p.length + 2 ∧ 1 ≤ (pathOf (formP p f)).length ∧
  (∀ pre y, pre ++ [y] <+: pathOf (formP p f) → pre.length = 1 → mkOf pre % 2 = 0 → y = 0) := by
 rw [path_form p f hp]
 split
 ·rename_i h
  refine ⟨?_, ?_, ?_, by simp, by simp, ?_⟩
  ·show (if (UInt8.ofNat (markP f)).toNat % 2 = 0 then p else 0 :: p) = p
   cases f <;> rfl
  ·show (UInt8.ofNat (markP f)).toNat ≤ 3
   cases f <;> decide
  ·cases f <;> rfl
  ·rintro pre y ⟨t, ht⟩ h1 h2
   match pre, h1 with
   | [m], _ => injection ht with _ ht; injection ht
 ·rename_i h
  match p, h, hp with
  | [], h, _ => exact absurd rfl h
  | a :: r, h, _ =>
   refine ⟨?_, ?_, ?_, by simp, by simp, ?_⟩
   ·show (if (UInt8.ofNat (markP f + 1)).toNat % 2 = 0 then r else a :: r) = a :: r
    cases f <;> rfl
   ·show (UInt8.ofNat (markP f + 1)).toNat ≤ 3
    cases f <;> decide
   ·cases f <;> rfl
   ·rintro pre y ⟨t, ht⟩ h1 h2
    match pre, h1, h2 with
    | [m], _, h2 =>
     injection ht with hm _
     rw [hm] at h2
     cases f <;> cases h2
def ReadV (w : World) (r : Nat) (v : Value) (s : Bytes) (W : World) : Prop :=
 Blk W r 42 #[v] ∧ Blk W (r + 1) 5 #[.int .u8 (mkOf s : Int)] ∧ Blk W (r + 2) 4 #[.bool false] ∧ Blk W (r + 3) 3 #[.int .i64 (s.length : Int)] ∧
  W.ownsRow (r + 5) 5 1 v (outP s).length ((outP s).map bv) ∧ Below w.heap.size w W ∧ r + 5 ≤ W.heap.size
def ReadI (w : World) (r : Nat) (s : Bytes) (W : World) : Prop := ∃ v, ReadV w r v s W
theorem rowb_cells {base e size : Nat} {W : World} {v : Value} {n : Nat} {xs : List Value} (h : W.ownsRow base e size v n xs) : ∀ j, v.ownBlock = some j → ∃ cs t fz, W.heap[j]? = some (.cells cs t fz) := fun j hj => by
 rcases h.2 with ⟨rfl, h0⟩ | ⟨g, cap, cur, rfl, hb, hg, _⟩
 ·cases hj
 ·cases hj
  exact ⟨cur, _, _, hg⟩
theorem ReadI.own {w A B : World} {r : Nat} {s : Bytes} {row : Option Nat} {N : Nat} (h : ReadI w r s A) (hw : w.heap.size ≤ r) (hg : A.grownBy B row) (hr : ∀ j, row = some j → N ≤ j ∧ ∃ o : Obj, A.heap[j]? = some o ∧ o.isCells = false) (hN : r + 5 ≤ N) : ReadI w r s B := by
 obtain ⟨v, h1, h2, h3, h4, h5, h6, h7⟩ := h
 have hrr : ∀ q, q < r + 5 → some q ≠ row := fun q hq e => by have := (hr q e.symm).1; omega
 refine ⟨v, h1.grown hg (hrr _ (by omega)), h2.grown hg (hrr _ (by omega)), h3.grown hg (hrr _ (by omega)), h4.grown hg (hrr _ (by omega)), h5.kept hg ?_, h6.grown hg h6.size fun j e => by have := (hr j e).1; omega, Nat.le_trans h7 hg.size⟩
 cases hv : v.ownBlock with
 | none => exact .inl rfl
 | some g =>
  refine .inr fun e => ?_
  obtain ⟨_, o, ho, hc⟩ := hr g e.symm
  obtain ⟨cs, t, fz, hcs⟩ := rowb_cells h5 g hv
  rw [hcs] at ho
  injection ho with ho
  subst ho
  cases hc
set_option maxRecDepth 100000 in
theorem conv_nilb (W : World) : (convert 42 9 (.slice none 0 0)).run Tryz.prog W = .ok (.string (bs [])) W := by
 have hs : Tryz.prog.underlying 42 = some (.slice 5) := by kernel_rfl
 have he : Tryz.prog.underlying 5 = some (.int .u8) := by kernel_rfl
 have hd : Tryz.prog.underlying 9 = some .string := by kernel_rfl
 exact run_convert_bytes_nil W _ _ hs he 0 0 _ hd
theorem conv_own {base : Nat} {W : World} {v : Value} {L : Bytes} (h : W.ownsRow base 5 1 v L.length (L.map bv)) : (convert 42 9 v).run Tryz.prog W = .ok (.string (bs L)) W := by
 rcases id h.2 with ⟨rfl, h0⟩ | ⟨g, cap, cur, rfl, hb, hg, _⟩
 ·obtain rfl := List.eq_nil_of_length_eq_zero h0
  exact conv_nilb W
 ·exact conv_cells W g L L.length cap rfl (own_cells h)
theorem infoU8d : (Tryz.prog.info? 5).map (fun i => (i.zero, i.size, i.bytes)) = some (some (.int .u8 0), 1, 1) := by kernel_rfl
theorem ReadV.step {w W Wa W1 : World} {r : Nat} {v v' : Value} {s : Bytes} {y : UInt8} {n' : Nat} {xs' : List Value} (h : ReadV w r v s W) (hw : w.heap.size ≤ r) (hWa : W.grownBy Wa none) (hg : Wa.grownBy W1 v.ownBlock)
  (hown : W1.ownsRow (r + 5) 5 1 v' n' xs') (hn : n' = (outP (s ++ [y])).length) (hx : xs' = (outP (s ++ [y])).map bv) (hm : mkOf (s ++ [y]) = mkOf s) :
  KeepsOthers W ((W1.setCell ⟨r, 0, none⟩ v').setCell ⟨r + 3, 0, none⟩ (.int .i64 ((s.length : Int) + 1))) ∧ KpB (r + 4) W ((W1.setCell ⟨r, 0, none⟩ v').setCell ⟨r + 3, 0, none⟩ (.int .i64 ((s.length : Int) + 1))) ∧
   ReadI w r (s ++ [y]) ((W1.setCell ⟨r, 0, none⟩ v').setCell ⟨r + 3, 0, none⟩ (.int .i64 ((s.length : Int) + 1))) := by
 obtain ⟨h1, h2, h3, h4, h5, h6, h7⟩ := h
 have hG := grown_on' hWa hg
 have hlt : ∀ j, v.ownBlock = some j → r + 5 ≤ j ∧ j < W.heap.size := fun j hj => World.ownsRow.lt h5 j hj
 have hlt' : ∀ j, v'.ownBlock = some j → r + 5 ≤ j ∧ j < W1.heap.size := fun j hj => World.ownsRow.lt hown j hj
 have hno : ∀ j, j < r + 5 → some j ≠ v.ownBlock := fun j hj e => by have := (hlt j e.symm).1; omega
 have hkp : ∀ {A B : World} {q : Nat}, A.grownBy B (some q) → q < r + 5 → ∀ {n xs}, A.ownsRow (r + 5) 5 1 v' n xs → B.ownsRow (r + 5) 5 1 v' n xs := fun hg hq _ _ h => h.kept hg (by
  cases hv : v'.ownBlock with
  | none => exact .inl rfl
  | some g =>
   refine .inr fun e => ?_
   injection e with e
   have := (World.ownsRow.lt h g hv).1
   omega)
 have g1 := grownBy_setCell' W1 r v'
 have g2 := grownBy_setCell' (W1.setCell ⟨r, 0, none⟩ v') (r + 3) (.int .i64 ((s.length : Int) + 1))
 have G12 : ∀ j, j ≠ r → j ≠ r + 3 → j < W.heap.size → some j ≠ v.ownBlock → ((W1.setCell ⟨r, 0, none⟩ v').setCell ⟨r + 3, 0, none⟩ (.int .i64 ((s.length : Int) + 1))).heap[j]? = W.heap[j]? := fun j a b c d =>
  (g2.block j (Nat.lt_of_lt_of_le c (Nat.le_trans hG.size g1.size)) (fun e => by injection e with e; omega)).trans ((g1.block j (Nat.lt_of_lt_of_le c hG.size) (fun e => by injection e with e; omega)).trans (hG.block j c d))
 refine ⟨((KeepsOthers.of_grownBy hG fun j o e ho => ?_).trans (KeepsOthers.setCell _ _ _)).trans (KeepsOthers.setCell _ _ _), ⟨Nat.le_trans hG.size (Nat.le_trans g1.size g2.size), fun hq => G12 _ (by omega) (by omega) hq (hno _ (by omega))⟩, v', ?_, ?_, ?_, ?_, ?_, ?_, ?_⟩
 ·obtain ⟨cs, tt, fz, hcs⟩ := rowb_cells h5 j e
  rw [hcs] at ho
  injection ho with ho
  subst ho
  rfl
 ·exact (Blk.to (Blk.set_ (h1.grown hG (hno _ (by omega))) 0 v') rfl).grown g2 (fun e => by injection e with e; omega)
 ·rw [hm]
  exact ((h2.grown hG (hno _ (by omega))).grown g1 (fun e => by injection e with e; omega)).grown g2 (fun e => by injection e with e; omega)
 ·exact ((h3.grown hG (hno _ (by omega))).grown g1 (fun e => by injection e with e; omega)).grown g2 (fun e => by injection e with e; omega)
 ·have := Blk.set_ ((h4.grown hG (hno _ (by omega))).grown g1 (fun e => by injection e with e; omega)) 0 (.int .i64 ((s.length : Int) + 1))
  rw [List.length_append]
  exact Blk.to this rfl
 ·rw [← hn, ← hx]
  exact hkp g2 (by omega) (hkp g1 (by omega) hown)
 ·exact ((h6.grown hG h6.size fun j e => by have := (hlt j e).1; omega).grown g1 (Nat.le_trans h6.size hG.size) fun j e => by injection e with e; omega).grown g2 (Nat.le_trans h6.size (Nat.le_trans hG.size g1.size)) fun j e => by injection e with e; omega
 ·exact Nat.le_trans h7 (Nat.le_trans hG.size (Nat.le_trans g1.size g2.size))
theorem ReadV.first {w W : World} {r : Nat} {v : Value} {y : UInt8} (h : ReadV w r v [] W) (hw : w.heap.size ≤ r) :
  KeepsOthers W ((W.setCell ⟨r + 1, 0, none⟩ (.int .u8 (y.toNat : Int))).setCell ⟨r + 3, 0, none⟩ (.int .i64 1)) ∧ KpB (r + 4) W ((W.setCell ⟨r + 1, 0, none⟩ (.int .u8 (y.toNat : Int))).setCell ⟨r + 3, 0, none⟩ (.int .i64 1)) ∧
   ReadI w r ([] ++ [y]) ((W.setCell ⟨r + 1, 0, none⟩ (.int .u8 (y.toNat : Int))).setCell ⟨r + 3, 0, none⟩ (.int .i64 1)) := by
 obtain ⟨h1, h2, h3, h4, h5, h6, h7⟩ := h
 have g1 := grownBy_setCell' W (r + 1) (.int .u8 (y.toNat : Int))
 have g2 := grownBy_setCell' (W.setCell ⟨r + 1, 0, none⟩ (.int .u8 (y.toNat : Int))) (r + 3) (.int .i64 1)
 have hkp : ∀ {A B : World} {q : Nat}, A.grownBy B (some q) → q < r + 5 → ∀ {n xs}, A.ownsRow (r + 5) 5 1 v n xs → B.ownsRow (r + 5) 5 1 v n xs := fun hg hq _ _ h => h.kept hg (by
  cases hv : v.ownBlock with
  | none => exact .inl rfl
  | some g =>
   refine .inr fun e => ?_
   injection e with e
   have := (World.ownsRow.lt h g hv).1
   omega)
 refine ⟨(KeepsOthers.setCell _ _ _).trans (KeepsOthers.setCell _ _ _), ⟨Nat.le_trans g1.size g2.size, fun hq => (g2.block _ (Nat.lt_of_lt_of_le hq g1.size) (fun e => by injection e with e; omega)).trans (g1.block _ hq (fun e => by injection e with e; omega))⟩, v, ?_, ?_, ?_, ?_, ?_, ?_, ?_⟩
 ·exact (h1.grown g1 (fun e => by injection e with e; omega)).grown g2 (fun e => by injection e with e; omega)
 ·exact (Blk.to (Blk.set_ h2 0 (.int .u8 (y.toNat : Int))) rfl).grown g2 (fun e => by injection e with e; omega)
 ·exact (h3.grown g1 (fun e => by injection e with e; omega)).grown g2 (fun e => by injection e with e; omega)
 ·exact Blk.to (Blk.set_ (h4.grown g1 (fun e => by injection e with e; omega)) 0 (.int .i64 1)) rfl
 ·exact hkp g2 (by omega) (hkp g1 (by omega) h5)
 ·exact (h6.grown g1 h6.size fun j e => by injection e with e; omega).grown g2 (Nat.le_trans h6.size g1.size) fun j e => by injection e with e; omega
 ·exact Nat.le_trans h7 (Nat.le_trans g1.size g2.size)
theorem ReadV.skip {w W : World} {r : Nat} {v : Value} {s : Bytes} {y : UInt8} (h : ReadV w r v s W) (hw : w.heap.size ≤ r) (hs : s.length = 1) (hm : mkOf s % 2 = 0) :
  KeepsOthers W (W.setCell ⟨r + 3, 0, none⟩ (.int .i64 2)) ∧ KpB (r + 4) W (W.setCell ⟨r + 3, 0, none⟩ (.int .i64 2)) ∧ ReadI w r (s ++ [y]) (W.setCell ⟨r + 3, 0, none⟩ (.int .i64 2)) := by
 obtain ⟨h1, h2, h3, h4, h5, h6, h7⟩ := h
 have g2 := grownBy_setCell' W (r + 3) (.int .i64 2)
 have hne : s ≠ [] := by rintro rfl; cases hs
 refine ⟨KeepsOthers.setCell _ _ _, ⟨g2.size, fun hq => g2.block _ hq (fun e => by injection e with e; omega)⟩, v, ?_, ?_, ?_, ?_, ?_, ?_, ?_⟩
 ·exact h1.grown g2 (fun e => by injection e with e; omega)
 ·rw [mkOf_app hne]
  exact h2.grown g2 (fun e => by injection e with e; omega)
 ·exact h3.grown g2 (fun e => by injection e with e; omega)
 ·rw [List.length_append, hs]
  exact Blk.to (Blk.set_ h4 0 (.int .i64 2)) rfl
 ·rw [outP_skip y hs hm]
  exact h5.kept g2 (by
   cases hv : v.ownBlock with
   | none => exact .inl rfl
   | some g =>
    refine .inr fun e => ?_
    injection e with e
    have := (World.ownsRow.lt h5 g hv).1
    omega)
 ·exact h6.grown g2 h6.size fun j e => by injection e with e; omega
 ·exact Nat.le_trans h7 g2.size
set_option maxRecDepth 100000 in
set_option maxHeartbeats 16000000 in
theorem read_calls (p : Bytes) (f : Bool) (hp : NibP p) (hl : p.length ≤ 1000000) (w : World) : Calls Tryz.prog 55 #[.string (bs (formP p f))] w (Ret w (.tuple #[.string (bs p), .bool f, .int .i64 0])) := by
 obtain ⟨q1, q2, q3, q4, q5, q6⟩ := form_read p f hp
 have hsl := pathOf_len (formP p f)
 generalize formP p f = s at *
 have hs : s.length ≤ 1000000000 := by omega
 have hsn : s ≠ [] := by rintro rfl; rw [show pathOf [] = [] from rfl] at q5; simp at q5
 have hXl : (pathOf s).length ≤ 2000000 := by omega
 clear hsl hp
 refine (callsIn_wide (n := 9)).1 ?_
 have hwf : ∀ f, Fence.wide.fn f := fun _ => trivial
 refine callsIn_of_wp_marks Tryz.func55 rfl trivial ?_ rfl
 simp only [Tryz.ntmps55, List.size_toArray, List.length_cons, List.length_nil, Nat.reduceAdd, Nat.reduceSub, Array.replicate_succ, Array.replicate_zero, List.push_toArray, List.append_toArray, List.nil_append, List.cons_append]
 gi_wp2_with fail
 refine wpIn_scope ?_
 gi_wp2_with fail
 refine wpIn_label ?_
 gi_wp2_with (gi_at_call 51; refine (callsIn_wide.2 (halves_calls _ _)).mono ?_; rintro e w' ⟨rfl, rfl⟩)
 obtain ⟨r, hr⟩ : ∃ r, w.heap.size = r := ⟨_, rfl⟩
 have hwr : w.heap.size ≤ r := by omega
 have hie : s.isEmpty = false := by cases s with
  | nil => exact absurd rfl hsn
  | cons a t => rfl
 rw [hie]
 obtain ⟨W0, hW0⟩ : ∃ W0, ((((w.alloc (Obj.cells #[.slice none 0 0] 42)).alloc (Obj.cells #[.int .u8 0] 5)).alloc (Obj.cells #[.bool false] 4)).alloc (Obj.cells #[.int .i64 0] 3)).alloc (Obj.cells #[.string (bs s)] 9) = W0 := ⟨_, rfl⟩
 have hs0 : W0.heap.size = r + 5 := by rw [← hW0, ← hr]; simp
 have K0 : Blk W0 r 42 #[.slice none 0 0] := by rw [← hW0, ← hr]; exact ((((Blk.new0 _ _ _).alloc _).alloc _).alloc _).alloc _
 have K1 : Blk W0 (r + 1) 5 #[.int .u8 0] := by rw [← hW0, ← hr]; exact (((Blk.new1 _ _ _ _).alloc _).alloc _).alloc _
 have K2 : Blk W0 (r + 2) 4 #[.bool false] := by rw [← hW0, ← hr]; exact ((Blk.new2 _ _ _ _ _).alloc _).alloc _
 have K3 : Blk W0 (r + 3) 3 #[.int .i64 0] := by rw [← hW0, ← hr]; exact (Blk.new3 _ _ _ _ _ _).alloc _
 have KQ : Blk W0 (r + 4) 9 #[.string (bs s)] := by
  obtain ⟨W00, h00⟩ : ∃ W00, (((w.alloc (Obj.cells #[.slice none 0 0] 42)).alloc (Obj.cells #[.int .u8 0] 5)).alloc (Obj.cells #[.bool false] 4)).alloc (Obj.cells #[.int .i64 0] 3) = W00 := ⟨_, rfl⟩
  have hz00 : W00.heap.size = r + 4 := by rw [← h00, ← hr]; simp
  rw [← hW0, h00, ← hz00]
  exact Blk.new0 _ _ _
 have hB0 : Below w.heap.size w W0 := by rw [← hW0]; exact bel
 have hI0 : ReadI w r [] W0 := ⟨_, K0, K1, K2, K3, World.ownsRow_nil _ _ _ _, hB0, by omega⟩
 rw [hW0]
 clear hW0 K0 K1 K2 K3
 rw [hr]
 simp only [show r + 1 + 1 = r + 2 from rfl, show r + 2 + 1 = r + 3 from rfl, show r + 3 + 1 = r + 4 from rfl]
 have hf := enters_of Tryz.func75 (by kernel_rfl) rfl
 refine wpIn_rangeFunc_st rfl (by decide) (gf := 75) (lb := #[.pointer (some ⟨r + 4, 0, none⟩)]) rfl trivial hf
  (halves_stops 8 (by decide) (r + 4) s hs W0 KQ) (fun _ => rfl) (fun _ _ _ _ h k => ⟨Nat.le_trans h.1 k.1, fun hq => (k.2 (Nat.lt_of_lt_of_le hq h.1)).trans (h.2 hq)⟩) (fun x W l o o' hl h1 h2 h3 => ⟨by simp, fun _ => World.putObj_heap_other (by omega)⟩)
  (fun x A y B k o hab hkk hA ho _ => by rw [← hab]; exact hA)
  (fun pre y x W l o o' h hl h1 h2 => h)
  (fun pre x W => ReadI w r pre W) (fun c _ x W => False)
  (fun _ _ A B row h hg hr2 => ReadI.own h hwr hg hr2 (by omega)) (fun _ _ s A B row h hg hr => h)
  (fun s x A y B h hab => by rw [← hab]; exact h) (fun _ s x A y B h hab => h) hI0
  (fun y => { tmps := #[.string (bs s), undef, .string ⟨#[]⟩, .bool false, .int .i64 0, .pointer (some ⟨r, 0, none⟩), .pointer (some ⟨r + 1, 0, none⟩), .pointer (some ⟨r + 2, 0, none⟩), .pointer (some ⟨r + 3, 0, none⟩), .int .u8 (y.toNat : Int), .string (bs s), .bool false, .string (bs s),
   .func (.func 75) #[] #[.pointer (some ⟨r + 4, 0, none⟩)], .int .u8 (y.toNat : Int), undef, undef, undef, undef, undef, undef, undef, undef, undef, undef, undef, undef, undef, undef, undef, undef, undef, undef, undef, undef, undef, undef, undef, undef, undef, undef, undef, undef, undef], defers := [] })
  ?assign ?body ?done ?stop
 case assign =>
  intro l y W K hK
  gi_wp2
  exact hK
 case stop =>
  rintro D c pre x W hD _ h hK
  exact h.elim
 case done =>
  rintro D xs x W hD rfl ⟨v, h1, h2, h3, h4, h5, h6, h7⟩ hK
  have hKD := Lib.hid hK
  have hcv := Lib.hid (conv_own (W := W.drew) h5)
  have m3 : ¬ 3 < (mkOf (pathOf s) : Int) := by omega
  have hdd : decide ((2 : Int) ≤ (mkOf (pathOf s) : Int)) = f := by rw [← q3]; exact decide_eq_decide.2 (by omega)
  rw [q1] at hcv
  have hcv := hcv.out
  have K0 := Lib.hid h1
  have K1 := Lib.hid h2
  have K2 := Lib.hid h3
  have HB := Lib.hid h6
  clear h1 h2 h3 h4 h5 h6 hI0 KQ hB0 q6 q2 q3 q1
  generalize mkOf (pathOf s) = mk at *
  (obtain ⟨k0, f0, l0, m0⟩ := K0.out.rl; obtain ⟨k1, f1, l1, m1⟩ := K1.out.rl; obtain ⟨k2, f2, l2, m2⟩ := K2.out.rl)
  gi_wp2_with fail
  refine wpIn_wide.2 ?_
  go_region
  have hD2 : W.drew.heap[D]? = some (.deferred (some [])) := hKD.out
  have HB2 := Lib.hid HB.out.drew
  clear hKD hK HB
  gi_wp2_with fail
  rw [Exit.noGoto_ret]
  exact ⟨by simp, .inl ⟨_, _, rfl, run_takeDeferred hD2, ⟨_, by simp [results, Tryz.results55, go_sem], rfl, below_shut HB2.out (Nat.le_refl _) (by omega)⟩⟩⟩
 case body =>
  rintro l pre y x W ⟨v, hV⟩ hpre
  have hnl : pre.length + 1 ≤ 2000000 := by
   have := hpre.length_le
   rw [List.length_append] at this
   simp at this
   omega
  have hq6 := q6 pre y hpre
  obtain ⟨h1, h2, h3, h4, h5, h6, h7⟩ := id hV
  clear q1 q2 q3 q4 q5 q6 hI0 KQ hB0 hpre
  replace hV := Lib.hid hV
  have K0 := Lib.hid h1
  have K1 := Lib.hid h2
  have K3 := Lib.hid h4
  have H5 := Lib.hid h5
  have H7 := Lib.hid h7
  clear h1 h2 h3 h4 h5 h6 h7
  by_cases hn0 : pre = []
  ·subst hn0
   have hfin := Lib.hid (hV.out.first (y := y) hwr)
   simp only [List.length_nil, Int.natCast_zero] at K3
   clear hq6 hV H5 H7
   (obtain ⟨k0, f0, l0, m0⟩ := K0.out.rl; obtain ⟨k1, f1, l1, m1⟩ := K1.out.rl; obtain ⟨k3, f3, l3, m3⟩ := K3.out.rl)
   gi_wp2_with fail
   exact hfin.out
  ·have hm1 := mkOf_app hn0 y
   have hp0 : pre.length ≠ 0 := fun e => hn0 (List.eq_nil_of_length_eq_zero e)
   have hmlt := mkOf_lt pre
   by_cases hk : pre.length = 1 ∧ mkOf pre % 2 = 0
   ·obtain rfl := hq6 hk.1 hk.2
    have hfin := Lib.hid (hV.out.skip (y := 0) hwr hk.1 hk.2)
    rw [hk.1] at K3
    have hmz : (mkOf pre : Int) % 2 = 0 := by omega
    generalize mkOf pre = mk at *
    clear hq6 hV H5 H7 hp0 hn0 hm1 hk
    (obtain ⟨k0, f0, l0, m0⟩ := K0.out.rl; obtain ⟨k1, f1, l1, m1⟩ := K1.out.rl; obtain ⟨k3, f3, l3, m3⟩ := K3.out.rl)
    gi_wp2_with fail
    exact hfin.out
   ·have ho := outP_app hn0 y hk
    obtain ⟨i0, hi, hz0, hz1, hz2⟩ := info_parts infoU8d
    have hol : (outP pre).length ≤ 2000000 := by
     have : (outP pre).length ≤ pre.length := by
      unfold outP
      split
      ·simp
      ·simp
      ·split <;> simp <;> omega
     omega
    by_cases hp1 : pre.length = 1
    ·have hmz : (mkOf pre : Int) % 2 = 1 := by have := fun e => hk ⟨hp1, e⟩; omega
     have K3' := K3.out
     rw [hp1] at K3'
     replace K3 := Lib.hid K3'
     clear K3'
     generalize hmk : mkOf pre = mk at *
     clear hq6 hk hp0 hn0
     (obtain ⟨k0, f0, l0, m0⟩ := K0.out.rl; obtain ⟨k1, f1, l1, m1⟩ := K1.out.rl; obtain ⟨k3, f3, l3, m3⟩ := K3.out.rl)
     gi_wp2_with (gi_at_builtin; go_loud (refine wpListIn_append_own_at _ rfl _ _ 42 rfl (r + 5) 5 i0 (.int .u8 0) 1 1 Tryz.underlying42 hi hz0 hz1 hz2 rfl (by decide) v _ _ rfl (World.ownsRow.alloc H5.out _) ⟨W.heap.size, 0, none⟩ 1 1 [.int .u8 (y.toNat : Int)] rfl rfl (news1 _ _ _) (by simp [Value.oneCell']) (by unfold maxLen; omega) (by omega) (by simp; have := H7.out; omega) ?_))
     intro v4 W4 hown hgrow _ _
     obtain ⟨g4, cap4, rfl⟩ : ∃ g cap, v4 = .slice (some ⟨g, 0, none⟩) ((outP pre).length + 1) cap := by
      rcases id hown.2 with ⟨_, h0⟩ | ⟨g, cap, cur, e, _⟩
      ·omega
      ·exact ⟨g, cap, e⟩
     have hG0 : W.grownBy (W.alloc (.cells #[.int .u8 (y.toNat : Int)] 5)) none := grown_none ((Below.refl _ _).alloc (Nat.le_refl _) _)
     have hfin := Lib.hid (hV.out.step hwr hG0 hgrow hown (by rw [ho, List.length_append]; rfl) (by rw [ho, List.map_append]; rfl) (hm1.trans hmk.symm))
     have hlt : ∀ j, v.ownBlock = some j → r + 5 ≤ j := fun j hj => (World.ownsRow.lt H5.out j hj).1
     have hGW := grown_on' hG0 hgrow
     have P0 := Lib.hid (K0.out.grown hGW (fun e => by have := hlt _ e.symm; omega))
     have P3 := Lib.hid (K3.out.grown hGW (fun e => by have := hlt _ e.symm; omega))
     clear k0 f0 l0 m0 k1 f1 l1 m1 k3 f3 l3 m3 K0 K1 K3 hV H5 H7 hown hgrow hG0 hGW hlt ho hmk hm1
     have K0 := P0
     have K3 := P3
     clear P0 P3
     (obtain ⟨k0, f0, l0, m0⟩ := K0.out.rl; obtain ⟨k3, f3, l3, m3⟩ := K3.out.rl)
     gi_wp2_with fail
     have hfin2 := hfin.out
     rw [hp1] at hfin2
     exact hfin2
    ·have c0 : ¬ (pre.length : Int) = 0 := by omega
     have c1 : ¬ (pre.length : Int) = 1 := by omega
     generalize hmk : mkOf pre = mk at *
     clear hq6 hk hp0 hn0
     (obtain ⟨k0, f0, l0, m0⟩ := K0.out.rl; obtain ⟨k1, f1, l1, m1⟩ := K1.out.rl; obtain ⟨k3, f3, l3, m3⟩ := K3.out.rl)
     gi_wp2_with (gi_at_builtin; go_loud (refine wpListIn_append_own_at _ rfl _ _ 42 rfl (r + 5) 5 i0 (.int .u8 0) 1 1 Tryz.underlying42 hi hz0 hz1 hz2 rfl (by decide) v _ _ rfl (World.ownsRow.alloc H5.out _) ⟨W.heap.size, 0, none⟩ 1 1 [.int .u8 (y.toNat : Int)] rfl rfl (news1 _ _ _) (by simp [Value.oneCell']) (by unfold maxLen; omega) (by omega) (by simp; have := H7.out; omega) ?_))
     intro v4 W4 hown hgrow _ _
     obtain ⟨g4, cap4, rfl⟩ : ∃ g cap, v4 = .slice (some ⟨g, 0, none⟩) ((outP pre).length + 1) cap := by
      rcases id hown.2 with ⟨_, h0⟩ | ⟨g, cap, cur, e, _⟩
      ·omega
      ·exact ⟨g, cap, e⟩
     have hG0 : W.grownBy (W.alloc (.cells #[.int .u8 (y.toNat : Int)] 5)) none := grown_none ((Below.refl _ _).alloc (Nat.le_refl _) _)
     have hfin := Lib.hid (hV.out.step hwr hG0 hgrow hown (by rw [ho, List.length_append]; rfl) (by rw [ho, List.map_append]; rfl) (hm1.trans hmk.symm))
     have hlt : ∀ j, v.ownBlock = some j → r + 5 ≤ j := fun j hj => (World.ownsRow.lt H5.out j hj).1
     have hGW := grown_on' hG0 hgrow
     have P0 := Lib.hid (K0.out.grown hGW (fun e => by have := hlt _ e.symm; omega))
     have P3 := Lib.hid (K3.out.grown hGW (fun e => by have := hlt _ e.symm; omega))
     clear k0 f0 l0 m0 k1 f1 l1 m1 k3 f3 l3 m3 K0 K1 K3 hV H5 H7 hown hgrow hG0 hGW hlt ho hmk hm1
     have K0 := P0
     have K3 := P3
     clear P0 P3
     (obtain ⟨k0, f0, l0, m0⟩ := K0.out.rl; obtain ⟨k3, f3, l3, m3⟩ := K3.out.rl)
     gi_wp2_with fail
     have hfin2 := hfin.out
     skip
     exact hfin2
end Go.Proofs.YthhlbdgladhdkaaGreatDoor
end
section
namespace Go.Proofs.YthhlbdgladhdkaaGreatDoor
open BigFrame Go.RowKit Go.Phx Go.Shelf
attribute [local go_sem] Oper.semAt_some

def c6 (L : List Int) : Array Value := (L.map fun x => Value.int .u64 x).toArray
theorem c6_get {L : List Int} {i : Nat} (h : i < L.length) : (c6 L)[i]? = some (.int .u64 (L.getD i 0)) := by
 unfold c6
 simp [List.getElem?_eq_getElem h, List.getD]
theorem c6_set (L : List Int) (i : Nat) (x : Int) : (c6 L).setIfInBounds i (.int .u64 x) = c6 (L.set i x) := by
 unfold c6
 rw [List.setIfInBounds_toArray, List.map_set]
def rotI (x : Int) (n : Nat) : Int := bits .or .u64 (IntKind.u64.wrap (x * 2 ^ n)) (x / 2 ^ (64 - n))
theorem and63 : ∀ n : Nat, n < 64 → bits .and .u64 (n : Int) 63 = (n : Int) := by decide +kernel
theorem rot_calls (x : Int) (n : Nat) (hn : n < 64) (w : World) : Calls Tryz.prog 25 #[.int .u64 x, .int .i64 (n : Int)] w fun e w' => e = .returned (.int .u64 (rotI x n)) ∧ w = w' := by
 have e1 := and63 n hn
 have e2 : (64 - (n : Int)).toNat = 64 - n := by omega
 have e3 : (0 : Int) ≤ (n : Int) := by omega
 have e4 : (0 : Int) ≤ 64 - (n : Int) := by omega
 have e5 : IntKind.u64.wrap (64 - (n : Int)) = 64 - (n : Int) := by rw [IntKind.wrap_u64]; omega
 have e6 : IntKind.u64.wrap (n : Int) = (n : Int) := by rw [IntKind.wrap_u64]; omega
 unfold rotI
 go_enter Tryz.func25, Tryz.ntmps25
 go_wp2_with fail
 go_ret
 exact ⟨rfl, rfl⟩
theorem rot1_calls (x : Int) (w : World) : Calls Tryz.prog 25 #[.int .u64 x, .int .i64 1] w fun e w' => e = .returned (.int .u64 (rotI x 1)) ∧ w = w' := rot_calls x 1 (by decide) w
end Go.Proofs.YthhlbdgladhdkaaGreatDoor
end
section
namespace Go.Proofs.YthhlbdgladhdkaaGreatDoor
open BigFrame Go.RowKit Go.Phx Go.Shelf
attribute [local go_sem] Oper.semAt_some

def plT : List Nat := [10, 7, 11, 17, 18, 3, 5, 16, 8, 21, 24, 4, 15, 23, 19, 13, 12, 2, 20, 14, 22, 9, 6, 1]
def tnT : List Nat := [1, 3, 6, 10, 15, 21, 28, 36, 45, 55, 2, 14, 27, 41, 56, 8, 25, 43, 62, 18, 39, 61, 20, 44]
def rcT : List Int := [1, 32898, 9223372036854808714, 9223372039002292224, 32907, 2147483649, 9223372039002292353, 9223372036854808585, 138, 136, 2147516425, 2147483658, 2147516555, 9223372036854775947, 9223372036854808713, 9223372036854808579, 9223372036854808578, 9223372036854775936, 32778, 9223372039002259466, 9223372039002292353, 9223372036854808704, 2147483649, 9223372039002292232]
def HasT (w : World) : Prop := (∀ i, i < 24 → w.cell? ⟨0, i, none⟩ = some (.int .i64 (plT.getD i 0 : Nat))) ∧ (∀ i, i < 24 → w.cell? ⟨1, i, none⟩ = some (.int .i64 (tnT.getD i 0 : Nat))) ∧
 (∀ i, i < 24 → w.cell? ⟨2, i, none⟩ = some (.int .u64 (rcT.getD i 0))) ∧ 0 < w.heap.size ∧ 1 < w.heap.size ∧ 2 < w.heap.size
theorem HasT.on {n : Nat} {w w' : World} (h : HasT w) (hB : Below n w w') (h1 : 0 < n) (h2 : 1 < n) (h3 : 2 < n) : HasT w' :=
 ⟨fun i hi => (hB.cell (p := ⟨_, i, none⟩) h1).trans (h.1 i hi), fun i hi => (hB.cell (p := ⟨_, i, none⟩) h2).trans (h.2.1 i hi), fun i hi => (hB.cell (p := ⟨_, i, none⟩) h3).trans (h.2.2.1 i hi),
  Nat.lt_of_lt_of_le h.2.2.2.1 hB.size, Nat.lt_of_lt_of_le h.2.2.2.2.1 hB.size, Nat.lt_of_lt_of_le h.2.2.2.2.2 hB.size⟩
theorem HasT.below {w w' : World} (h : HasT w) (hB : Below w.heap.size w w') : HasT w' := h.on hB h.2.2.2.1 h.2.2.2.2.1 h.2.2.2.2.2
theorem HasT.grown {w w' : World} {b : Nat} (h : HasT w) (G : w.grownBy w' (some b)) (h1 : b ≠ 0) (h2 : b ≠ 1) (h3 : b ≠ 2) : HasT w' := by
 have k : ∀ (g i : Nat), g < w.heap.size → b ≠ g → w'.cell? ⟨g, i, none⟩ = w.cell? ⟨g, i, none⟩ := fun g i hg hb => World.cell?_of_block (w := w) (G.block g hg fun e => hb (by injection e with e; exact e.symm))
 exact ⟨fun i hi => (k _ i h.2.2.2.1 h1).trans (h.1 i hi), fun i hi => (k _ i h.2.2.2.2.1 h2).trans (h.2.1 i hi), fun i hi => (k _ i h.2.2.2.2.2 h3).trans (h.2.2.1 i hi),
  Nat.lt_of_lt_of_le h.2.2.2.1 G.size, Nat.lt_of_lt_of_le h.2.2.2.2.1 G.size, Nat.lt_of_lt_of_le h.2.2.2.2.2 G.size⟩
def colK (L : List Int) : Nat → List Int
 | 0 => [0, 0, 0, 0, 0]
 | k + 1 => (colK L k).set (k % 5) (bits .xor .u64 ((colK L k).getD (k % 5) 0) (L.getD k 0))
def theK (C L : List Int) : Nat → List Int
 | 0 => L
 | k + 1 => (theK C L k).set k (bits .xor .u64 ((theK C L k).getD k 0) (bits .xor .u64 (C.getD ((k + 4) % 5) 0) (rotI (C.getD ((k + 1) % 5) 0) 1)))
def rhoK (L : List Int) : Nat → Int × List Int
 | 0 => (L.getD 1 0, L)
 | k + 1 => ((rhoK L k).2.getD (plT.getD k 0) 0, (rhoK L k).2.set (plT.getD k 0) (rotI (rhoK L k).1 (tnT.getD k 0)))
def notI (x : Int) : Int := bits .xor .u64 (if IntKind.u64.signed = true then -1 else IntKind.u64.max) x
def rowK (L : List Int) (y : Nat) : List Int := [L.getD y 0, L.getD (y + 1) 0, L.getD (y + 2) 0, L.getD (y + 3) 0, L.getD (y + 4) 0]
def chiK (R L : List Int) (y : Nat) : Nat → List Int
 | 0 => L
 | k + 1 => (chiK R L y k).set (y + k) (bits .xor .u64 (R.getD k 0) (bits .and .u64 (notI (R.getD ((k + 1) % 5) 0)) (R.getD ((k + 2) % 5) 0)))
noncomputable def shutV {α : Type} (a : α) : α := Classical.choose (⟨a, rfl⟩ : ∃ b, b = a)
theorem shutV_eq {α : Type} (a : α) : shutV a = a := Classical.choose_spec (⟨a, rfl⟩ : ∃ b, b = a)
noncomputable def colF (L : List Int) : List Int := shutV (colK L 25)
noncomputable def theF (L : List Int) : List Int := shutV (theK (colF L) L 25)
noncomputable def rhoF (L : List Int) : List Int := shutV (rhoK (theF L) 24).2
noncomputable def rowF (L : List Int) (y : Nat) : List Int := shutV (rowK L y)
noncomputable def chiG (L : List Int) (y : Nat) : List Int := shutV (chiK (rowF L y) L y 5)
noncomputable def chiR (L : List Int) : Nat → List Int
 | 0 => L
 | j + 1 => chiG (chiR L j) (5 * j)
noncomputable def chiF (L : List Int) : List Int := shutV (chiR (rhoF L) 5)
noncomputable def rndK (L : List Int) (i : Nat) : List Int := shutV ((chiF L).set 0 (bits .xor .u64 ((chiF L).getD 0 0) (rcT.getD i 0)))
noncomputable def perK (L : List Int) : Nat → List Int
 | 0 => L
 | i + 1 => rndK (perK L i) i
theorem colK_len (L : List Int) (k : Nat) : (colK L k).length = 5 := by
 induction k with
 | zero => rfl
 | succ k ih => simp [colK, ih]
theorem theK_len (C L : List Int) (k : Nat) : (theK C L k).length = L.length := by
 induction k with
 | zero => rfl
 | succ k ih => simp [theK, ih]
theorem rhoK_len (L : List Int) (k : Nat) : (rhoK L k).2.length = L.length := by
 induction k with
 | zero => rfl
 | succ k ih => simp [rhoK, ih]
theorem chiK_len (R L : List Int) (y k : Nat) : (chiK R L y k).length = L.length := by
 induction k with
 | zero => rfl
 | succ k ih => simp [chiK, ih]
theorem colF_len (L : List Int) : (colF L).length = 5 := by unfold colF; rw [shutV_eq, colK_len]
theorem theF_len (L : List Int) : (theF L).length = L.length := by unfold theF; rw [shutV_eq, theK_len]
theorem rhoF_len (L : List Int) : (rhoF L).length = L.length := by unfold rhoF; rw [shutV_eq, rhoK_len, theF_len]
theorem rowF_len (L : List Int) (y : Nat) : (rowF L y).length = 5 := by unfold rowF; rw [shutV_eq]; rfl
theorem chiG_len (L : List Int) (y : Nat) : (chiG L y).length = L.length := by unfold chiG; rw [shutV_eq, chiK_len]
theorem chiR_len (L : List Int) (j : Nat) : (chiR L j).length = L.length := by
 induction j with
 | zero => rfl
 | succ j ih => rw [chiR, chiG_len, ih]
theorem chiF_len (L : List Int) : (chiF L).length = L.length := by unfold chiF; rw [shutV_eq, chiR_len, rhoF_len]
theorem rndK_len (L : List Int) (i : Nat) : (rndK L i).length = L.length := by unfold rndK; rw [shutV_eq, List.length_set, chiF_len]
theorem perK_len (L : List Int) (i : Nat) : (perK L i).length = L.length := by
 induction i with
 | zero => rfl
 | succ i ih => rw [perK, rndK_len, ih]
theorem plT_lt : ∀ n, n < 24 → plT.getD n 0 < 25 := by decide
theorem tnT_lt : ∀ n, n < 24 → tnT.getD n 0 < 64 := by decide
theorem index_pl (n : Nat) (hn : n < 24) (w : World) : (Instr.index 75 (.agg (plT.map (fun x : Nat => Value.int .i64 (x : Int))).toArray) (.int .i64 (n : Int))).run Tryz.prog w = .ok (.int .i64 (plT.getD n 0 : Nat)) w := by
 have hd : Tryz.prog.underlying 75 = some (.array 24 3) := by kernel_rfl
 have hl : plT.length = 24 := rfl
 simp [go_sem, Instr.index, hd, hl, hn, List.getD]
theorem row_at (D : List Int) (y : Nat) (hy : y + 5 ≤ D.length) (i : Nat) (v : Value) (h : (c6 (rowF D y)).toList[i]? = some v) : (c6 D)[y + i]? = some v := by
 have hl := rowF_len D y
 have hi : i < 5 := by have := (List.getElem?_eq_some_iff.1 h).1; simpa [c6, hl] using this
 rw [Array.getElem?_toList, c6_get (by omega)] at h
 rw [c6_get (by omega), ← h]
 unfold rowF
 rw [shutV_eq]
 match i, hi with
 | 0, _ => rfl
 | 1, _ => rfl
 | 2, _ => rfl
 | 3, _ => rfl
 | 4, _ => rfl
theorem size5L (a b c d e : Int) : (Tryz.prog.info? 73).map (·.size) = some ([Value.int .u64 a, .int .u64 b, .int .u64 c, .int .u64 d, .int .u64 e].length) := by kernel_rfl
theorem store5 (x0 x1 x2 x3 x4 : Int) {ops : Array Oper} {rest : List Oper} {o : Oper} {a : Act} {w : World} {Q : Exit → Act → World → Prop}
  (hgd : o.guard = none) (x y : Operand) (ho : o.op = .store 73 x y) (hx : a.eval x = .pointer (some ⟨w.heap.size, 0, none⟩)) (hy : a.eval y = .agg #[.int .u64 x0, .int .u64 x1, .int .u64 x2, .int .u64 x3, .int .u64 x4])
  (h : wpList Tryz.prog ops Q rest (a.put o.dst undef) (w.alloc (.cells #[.int .u64 x0, .int .u64 x1, .int .u64 x2, .int .u64 x3, .int .u64 x4] 73))) :
  wpList Tryz.prog ops Q (o :: rest) a (w.alloc (.cells #[.int .u64 0, .int .u64 0, .int .u64 0, .int .u64 0, .int .u64 0] 73)) :=
 wpList_store_new hgd x y ho hx hy rfl (by kernel_rfl) (by simp [Value.oneCell']) h
theorem list5 {R : List Int} (h : R.length = 5) : ∃ a b c d e, R = [a, b, c, d, e] := by
 match R, h with
 | [a, b, c, d, e], _ => exact ⟨a, b, c, d, e, rfl⟩
theorem slice5 (b y : Nat) (hy : y + 5 ≤ 25) (w : World) : (Instr.sliceAt 44 (.pointer (some ⟨b, 0, none⟩)) (some (.int .i64 (y : Int))) (some (.int .i64 ((y : Int) + 5))) none).run Tryz.prog w = .ok (.slice (some ⟨b, y, none⟩) 5 (25 - y)) w := by
 have hl : Tryz.prog.arrayLen 44 = 25 := by kernel_rfl
 have he : Tryz.prog.elem 44 = 23 := by kernel_rfl
 have hz : (sizeOf 23).run Tryz.prog w = .ok 1 w := by kernel_rfl
 have h1 := Go.run_sliceAt_array_lh (P := Tryz.prog) w 44 ⟨b, 0, none⟩ (by rw [hl, he]; kernel_rfl) .i64 .i64 (y : Int) ((y : Int) + 5) (by omega) (by omega) (by rw [hl]; omega)
 rw [h1, he, hz, hl]
 simp only [Result.andThen_ok, slicedAt]
 have e1 : ((y : Int) + 5).toNat = y + 5 := by omega
 have e2 : (y : Int).toNat = y := by omega
 rw [e1, e2, if_neg (by omega), Addr.add_mid]
 have e3 : y + 5 - y = 5 := by omega
 rw [e3, Nat.zero_add, Nat.mul_one]
theorem array5 (b y c : Nat) (w : World) : (Instr.arrayAt 73 (.slice (some ⟨b, y, none⟩) 5 c)).run Tryz.prog w = .ok (.pointer (some ⟨b, y, none⟩)) w :=
 by simp [Instr.arrayAt, run_underlying (show Tryz.prog.underlying 73 = some (.array 5 23) by kernel_rfl)]
set_option maxRecDepth 100000 in
set_option maxHeartbeats 16000000 in
theorem permute_calls (b : Nat) (L : List Int) (hL : L.length = 25) (w : World) (hT : HasT w) (hb : Blk w b 44 (c6 L)) (h1 : b ≠ 0) (h2 : b ≠ 1) (h3 : b ≠ 2) :
  Calls Tryz.prog 12 #[.pointer (some ⟨b, 0, none⟩)] w (Wrote w b 44 (c6 (perK L 24))) := by
 have hbl := hb.lt
 replace hT := Lib.hid hT
 go_enter Tryz.func12, Tryz.ntmps12
 go_wp2_with fail
 go_loopw [13] (fun i wr => ∃ k : Nat, k ≤ 24 ∧ i = .int .i64 k ∧ Blk wr b 44 (c6 (perK L k)) ∧ w.grownBy wr (some b)) (fun i _ => (24 - intOf i).toNat)
 case atStart => exact ⟨0, Nat.zero_le _, rfl, hb, World.grownBy.refl _ _⟩
 case round =>
  obtain ⟨k, hk, rfl, K1, G⟩ := hrel
  by_cases hlt : k < 24
  ·have hM := (perK_len L k).trans hL
   obtain ⟨M, hM0⟩ : ∃ M, perK L k = M := ⟨_, rfl⟩
   rw [hM0] at hM K1
   replace hM0 := Lib.hid hM0
   clear hb
   have hwr : w.heap.size ≤ wr.heap.size := G.size
   replace K1 := Lib.hid K1
   go_wp2_with fail
   have KN := Blk.new0 wr 73 (c6 (colK M 0))
   obtain ⟨g, hg⟩ : ∃ g, wr.heap.size = g := ⟨_, rfl⟩
   rw [hg] at hwr KN ⊢
   clear hg
   go_loopw [17] (fun i wr2 => ∃ n : Nat, n ≤ 25 ∧ i = .int .i64 n ∧ Blk wr2 b 44 (c6 M) ∧ Blk wr2 g 73 (c6 (colK M n)) ∧ w.grownBy wr2 (some b)) (fun i _ => (25 - intOf i).toNat)
   case atStart => exact ⟨0, Nat.zero_le _, rfl, K1.out.alloc _, KN, grown_on G ((Below.refl _ _).alloc (Nat.le_refl _) _)⟩
   case round =>
    clear K1 G KN
    obtain ⟨n, hn, rfl, K1, K0, G⟩ := hrel
    by_cases hnt : n < 25
    ·have hc := (show colK M (n + 1) = (colK M n).set (n % 5) (bits .xor .u64 ((colK M n).getD (n % 5) 0) (M.getD n 0)) from rfl)
     have hcl := colK_len M n
     have g0 := c6_get (L := colK M n) (i := n % 5) (by omega)
     have g1 := c6_get (L := M) (i := n) (by omega)
     generalize (colK M n).getD (n % 5) 0 = x0 at *
     generalize M.getD n 0 = x1 at *
     generalize colK M n = C at *
     replace hc := Lib.hid hc
     replace K0 := Lib.hid K0
     replace K1 := Lib.hid K1
     (obtain ⟨k0, f0, l0, m0⟩ := K0.out.rl; obtain ⟨k1, f1, l1, m1⟩ := K1.out.rl)
     go_wp2_with fail
     (refine wp_region_later (by kernel_rfl) (by kernel_rfl) ?_; (repeat (go_big_quiet_step (fail))); refine wpQuiet_nil ?_; intro w' hB)
     clear k0 f0 l0 m0 k1 f1 l1 m1
     replace K0 := Lib.hid (K0.out.below hB)
     replace K1 := Lib.hid (K1.out.below hB)
     replace G := grown_on G hB
     clear hB
     (obtain ⟨k0, f0, l0, m0⟩ := K0.out.rl; obtain ⟨k1, f1, l1, m1⟩ := K1.out.rl)
     go_wp2_with fail
     go_roundw
     case rel => exact ⟨n + 1, by omega, by go_num, K1.out.over2 (by omega), by rw [hc.out, ← c6_set]; exact K0.out.set_ _ _, grown_far G hwr⟩
     case measure => simp [intOf]; omega
    ·obtain rfl : n = 25 := by omega
     have hC := colF_len M
     rw [← shutV_eq (colK M 25)] at K0
     change Blk _ _ _ (c6 (colF M)) at K0
     simp only [show ((25 : Nat) : Int) = 25 from rfl]
     replace K0 := Lib.hid K0
     replace K1 := Lib.hid K1
     (obtain ⟨k0, f0, l0, m0⟩ := K0.out.rl; obtain ⟨k1, f1, l1, m1⟩ := K1.out.rl)
     have hnum : (0 : Nat) ≤ 25 := by decide
     go_wp2_with fail
     clear k0 f0 l0 m0 k1 f1 l1 m1
     go_loopw [31] (fun i wr3 => ∃ n : Nat, n ≤ 25 ∧ i = .int .i64 n ∧ Blk wr3 b 44 (c6 (theK (colF M) M n)) ∧ Blk wr3 g 73 (c6 (colF M)) ∧ w.grownBy wr3 (some b)) (fun i _ => (25 - intOf i).toNat)
     case atStart => exact ⟨0, Nat.zero_le _, rfl, K1.out, K0.out, G⟩
     case round =>
      clear K1 K0 G
      obtain ⟨n, hn, rfl, K1, K0, G⟩ := hrel
      by_cases hnt : n < 25
      ·have hc := (show theK (colF M) M (n + 1) = (theK (colF M) M n).set n (bits .xor .u64 ((theK (colF M) M n).getD n 0) (bits .xor .u64 ((colF M).getD ((n + 4) % 5) 0) (rotI ((colF M).getD ((n + 1) % 5) 0) 1))) from rfl)
       have hcl := (theK_len (colF M) M n).trans hM
       have g0 := c6_get (L := theK (colF M) M n) (i := n) (by omega)
       have g1 := c6_get (L := colF M) (i := (n + 4) % 5) (by omega)
       have g2 := c6_get (L := colF M) (i := (n + 1) % 5) (by omega)
       generalize (theK (colF M) M n).getD n 0 = x0 at *
       generalize (colF M).getD ((n + 4) % 5) 0 = x1 at *
       generalize (colF M).getD ((n + 1) % 5) 0 = x2 at *
       generalize theK (colF M) M n = D at *
       replace hc := Lib.hid hc
       replace K0 := Lib.hid K0
       replace K1 := Lib.hid K1
       (obtain ⟨k0, f0, l0, m0⟩ := K0.out.rl; obtain ⟨k1, f1, l1, m1⟩ := K1.out.rl)
       go_wp2_with fail
       (refine wp_region_later_tail 20 (by kernel_rfl) (by kernel_rfl) ?_; simp only [List.take_succ_cons, List.take_zero, List.drop_succ_cons, List.drop_zero]; (repeat (go_big_quiet_step ((go_at_call 25; with_reducible exact lw (rot1_calls _ _))))); refine wpQuiet_nil ?_; intro w' hB)
       clear k0 f0 l0 m0 k1 f1 l1 m1
       replace K0 := Lib.hid (K0.out.below hB)
       replace K1 := Lib.hid (K1.out.below hB)
       replace G := grown_on G hB
       clear hB
       (obtain ⟨k0, f0, l0, m0⟩ := K0.out.rl; obtain ⟨k1, f1, l1, m1⟩ := K1.out.rl)
       go_wp2_with fail
       go_roundw
       case rel => exact ⟨n + 1, by omega, by go_num, by rw [hc.out, ← c6_set]; exact K1.out.set_ _ _, K0.out.over2 (by omega), grown_set G⟩
       case measure => simp [intOf]; omega
      ·obtain rfl : n = 25 := by omega
       have hC := theF_len M
       rw [← shutV_eq (theK (colF M) M 25)] at K1
       change Blk _ _ _ (c6 (theF M)) at K1
       simp only [show ((25 : Nat) : Int) = 25 from rfl]
       have hT2 := Lib.hid (hT.out.grown G h1 h2 h3)
       obtain ⟨PA, hPA⟩ : ∃ PA : List Value, plT.map (fun x : Nat => Value.int .i64 (x : Int)) = PA := ⟨_, rfl⟩
       have hrg : World.rangeAt wr 0 0 PA := fun j v hv => by
        have hj : j < 24 := by rw [← hPA] at hv; have := (List.getElem?_eq_some_iff.1 hv).1; simpa [plT] using this
        rw [Nat.zero_add, hT2.out.1 j hj, ← hv, ← hPA, List.getElem?_map, List.getElem?_eq_getElem (by simpa [plT] using hj), List.getD, List.getElem?_eq_getElem (by simpa [plT] using hj)]
        rfl
       have hix : ∀ n : Nat, n < 24 → ∀ w, (Instr.index 75 (.agg PA.toArray) (.int .i64 (n : Int))).run Tryz.prog w = .ok (.int .i64 (plT.getD n 0 : Nat)) w := fun n hn w => by
        rw [← hPA]
        exact index_pl n hn w
       have hPl : (Tryz.prog.info? 75).map (·.size) = some PA.length := by rw [← hPA]; kernel_rfl
       have e1 := c6_get (L := theF M) (i := 1) (by omega)
       obtain ⟨v0, hv0⟩ : ∃ v0, (theF M).getD 1 0 = v0 := ⟨_, rfl⟩
       rw [hv0] at e1
       replace hv0 := Lib.hid hv0
       clear hPA K0
       replace K1 := Lib.hid K1
       replace hrg := Lib.hid hrg
       replace hPl := Lib.hid hPl
       replace hix := Lib.hid hix
       (obtain ⟨k1, f1, l1, m1⟩ := K1.out.rl)
       go_wp2_with (with_reducible refine wpList_load_mid rfl 75 _ rfl 0 0 rfl PA _ hrg.out Tryz.underlying75 rfl hPl.out ?_)
       clear k1 f1 l1 m1 e1 hrg hPl
       go_loopw [7, 60] (fun v i wr4 => ∃ n : Nat, n ≤ 24 ∧ v = .int .u64 (rhoK (theF M) n).1 ∧ i = .int .i64 n ∧ Blk wr4 b 44 (c6 (rhoK (theF M) n).2) ∧ w.grownBy wr4 (some b)) (fun _ i _ => (24 - intOf i).toNat)
       case atStart => exact ⟨0, Nat.zero_le _, by rw [rhoK, hv0.out], rfl, K1.out, G⟩
       case round =>
        clear K1 G hT2
        obtain ⟨n, hn, rfl, rfl, K1, G⟩ := hrel
        have hT2 := hT.out.grown G h1 h2 h3
        by_cases hnt : n < 24
        ·have hc := (show (rhoK (theF M) (n + 1)).2 = (rhoK (theF M) n).2.set (plT.getD n 0) (rotI (rhoK (theF M) n).1 (tnT.getD n 0)) from rfl)
         have hv := (show (rhoK (theF M) (n + 1)).1 = (rhoK (theF M) n).2.getD (plT.getD n 0) 0 from rfl)
         have hcl := (rhoK_len (theF M) n).trans (hC.trans hM)
         have hpl := plT_lt n hnt
         have htn := tnT_lt n hnt
         have hxn := hix.out n hnt
         have ht1 := hT2.2.1 n hnt
         have hg1 := hT2.2.2.2.2.1
         have g0 := c6_get (L := (rhoK (theF M) n).2) (i := plT.getD n 0) (by omega)
         generalize (rhoK (theF M) n).2.getD (plT.getD n 0) 0 = x0 at *
         generalize plT.getD n 0 = p at *
         generalize tnT.getD n 0 = t at *
         generalize (rhoK (theF M) n).2 = D at *
         generalize (rhoK (theF M) n).1 = u at *
         replace hc := Lib.hid hc
         replace hv := Lib.hid hv
         replace K1 := Lib.hid K1
         clear hT2 hix
         (obtain ⟨k1, f1, l1, m1⟩ := K1.out.rl)
         have hp2 : (p : Int) < 25 := by omega
         have hp0 : (0 : Int) ≤ (p : Int) := by omega
         go_wp2_with fail
         (refine wp_region_later_tail 15 (by kernel_rfl) (by kernel_rfl) ?_; simp only [List.take_succ_cons, List.take_zero, List.drop_succ_cons, List.drop_zero]; (repeat (go_big_quiet_step ((go_at_call 25; with_reducible exact lw (rot_calls _ _ htn _))))); refine wpQuiet_nil ?_; intro w' hB)
         clear k1 f1 l1 m1
         replace K1 := Lib.hid (K1.out.below hB)
         replace G := grown_on G hB
         clear hB
         (obtain ⟨k1, f1, l1, m1⟩ := K1.out.rl)
         go_wp2_with fail
         go_roundw
         case rel => exact ⟨n + 1, by omega, by rw [hv.out], by go_num, by rw [hc.out, ← c6_set]; exact K1.out.set_ _ _, grown_set G⟩
         case measure => simp [intOf]; omega
        ·obtain rfl : n = 24 := by omega
         have hR := (rhoF_len M).trans hM
         rw [← shutV_eq (rhoK (theF M) 24).2] at K1
         change Blk _ _ _ (c6 (rhoF M)) at K1
         generalize (rhoK (theF M) 24).1 = u at *
         simp only [show ((24 : Nat) : Int) = 24 from rfl]
         clear hix hT2 hC
         replace K1 := Lib.hid K1
         go_wp2_with fail
         go_loopw [10] (fun i wr5 => ∃ j : Nat, j ≤ 5 ∧ i = .int .i64 ((5 * j : Nat) : Int) ∧ Blk wr5 b 44 (c6 (chiR (rhoF M) j)) ∧ w.grownBy wr5 (some b)) (fun i _ => (25 - intOf i).toNat)
         case atStart => exact ⟨0, Nat.zero_le _, rfl, K1.out, G⟩
         case round =>
          clear K1 G
          obtain ⟨j, hj, rfl, K1, G⟩ := hrel
          have hDl := (chiR_len (rhoF M) j).trans hR
          have hc5 := (show chiR (rhoF M) (j + 1) = chiG (chiR (rhoF M) j) (5 * j) from rfl)
          by_cases hjt : j < 5
          ·generalize chiR (rhoF M) j = D at *
           obtain ⟨y, hy⟩ : ∃ y, 5 * j = y := ⟨_, rfl⟩
           rw [hy] at hc5 ⊢
           have hyt : (y : Int) < 25 := by omega
           have hyl : y + 5 ≤ 25 := by omega
           have hy2 : (y : Int) + 5 ≤ 25 := by omega
           have hy0 : (0 : Int) ≤ (y : Int) := by omega
           have hRl := rowF_len D y
           have hrow : World.rangeAt wr b y (c6 (rowF D y)).toList := fun i v hv => by
            rw [K1.cell]
            exact row_at D y (by omega) i v hv
           have hgw : w.heap.size ≤ wr.heap.size := G.size
           replace hc5 := Lib.hid hc5
           replace hy := Lib.hid hy
           replace K1 := Lib.hid K1
           replace hrow := Lib.hid hrow
           (obtain ⟨k1, f1, l1, m1⟩ := K1.out.rl)
           have hs1 := slice5 b y hyl
           have hs2 := array5 b y (25 - y)
           obtain ⟨r0, r1, r2, r3, r4, hr⟩ := list5 hRl
           have hrow : World.rangeAt wr b y [.int .u64 r0, .int .u64 r1, .int .u64 r2, .int .u64 r3, .int .u64 r4] := fun i v hv => hrow.out i v (by rw [hr]; simpa [c6] using hv)
           replace hrow := Lib.hid hrow
           have KR := Blk.new0 wr 73 (c6 (rowF D y))
           obtain ⟨gr, hgr⟩ : ∃ gr, wr.heap.size = gr := ⟨_, rfl⟩
           have hbgr : b < gr := by rw [← hgr]; exact K1.out.lt
           have hwgr : w.heap.size ≤ gr := by rw [← hgr]; exact hgw
           rw [hgr] at KR
           rw [hr] at KR
           replace KR := Lib.hid KR
           replace hr := Lib.hid hr
           replace hgr := Lib.hid hgr
           go_wp2_with (first | (with_reducible refine wpList_load_mid rfl 73 _ rfl b y rfl [.int .u64 r0, .int .u64 r1, .int .u64 r2, .int .u64 r3, .int .u64 r4] _ hrow.out Tryz.underlying73 rfl (size5L r0 r1 r2 r3 r4) ?_) | (with_reducible refine store5 r0 r1 r2 r3 r4 rfl _ _ rfl rfl rfl ?_))
           rw [hgr.out]
           have hR2 := rowF_len D y
           go_loopw [91] (fun i wr6 => ∃ x : Nat, x ≤ 5 ∧ i = .int .i64 x ∧ Blk wr6 b 44 (c6 (chiK (rowF D y) D y x)) ∧ Blk wr6 gr 73 (c6 (rowF D y)) ∧ w.grownBy wr6 (some b)) (fun i _ => (5 - intOf i).toNat)
           case atStart => exact ⟨0, Nat.zero_le _, rfl, K1.out.alloc _, by rw [hr.out]; exact KR.out, grown_on G ((Below.refl _ _).alloc (Nat.le_refl _) _)⟩
           case round =>
            clear K1 G k1 f1 l1 m1 KR hr hgr hrow hs1 hs2 hRl
            obtain ⟨x, hx, rfl, K1, K0, G⟩ := hrel
            by_cases hxt : x < 5
            ·have hc := (show chiK (rowF D y) D y (x + 1) = (chiK (rowF D y) D y x).set (y + x) (bits .xor .u64 ((rowF D y).getD x 0) (bits .and .u64 (notI ((rowF D y).getD ((x + 1) % 5) 0)) ((rowF D y).getD ((x + 2) % 5) 0))) from rfl)
             have hcl := (chiK_len (rowF D y) D y x).trans hDl
             have g0 := c6_get (L := rowF D y) (i := x) (by omega)
             have g1 := c6_get (L := rowF D y) (i := (x + 1) % 5) (by omega)
             have g2 := c6_get (L := rowF D y) (i := (x + 2) % 5) (by omega)
             have g3 := c6_get (L := chiK (rowF D y) D y x) (i := y + x) (by omega)
             generalize (rowF D y).getD x 0 = x0 at *
             generalize (rowF D y).getD ((x + 1) % 5) 0 = x1 at *
             generalize (rowF D y).getD ((x + 2) % 5) 0 = x2 at *
             generalize (chiK (rowF D y) D y x).getD (y + x) 0 = x3 at *
             generalize chiK (rowF D y) D y x = E at *
             generalize rowF D y = R at *
             replace hc := Lib.hid hc
             replace K0 := Lib.hid K0
             replace K1 := Lib.hid K1
             have hyx : (y : Int) + (x : Int) < 25 := by omega
             have hyx0 : (0 : Int) ≤ (y : Int) + (x : Int) := by omega
             (obtain ⟨k0, f0, l0, m0⟩ := K0.out.rl; obtain ⟨k1, f1, l1, m1⟩ := K1.out.rl)
             go_wp2_with fail
             (refine wp_region_later_tail 22 (by kernel_rfl) (by kernel_rfl) ?_; simp only [List.take_succ_cons, List.take_zero, List.drop_succ_cons, List.drop_zero]; (repeat (go_big_quiet_step (fail))); refine wpQuiet_nil ?_; intro w' hB)
             clear k0 f0 l0 m0 k1 f1 l1 m1
             replace K0 := Lib.hid (K0.out.below hB)
             replace K1 := Lib.hid (K1.out.below hB)
             replace G := grown_on G hB
             clear hB
             (obtain ⟨k0, f0, l0, m0⟩ := K0.out.rl; obtain ⟨k1, f1, l1, m1⟩ := K1.out.rl)
             go_wp2_with fail
             go_roundw
             case rel => exact ⟨x + 1, by omega, by go_num, by rw [hc.out, ← c6_set]; exact K1.out.set_ _ _, K0.out.over2 (by omega), grown_set G⟩
             case measure => simp [intOf]; omega
            ·obtain rfl : x = 5 := by omega
             rw [← shutV_eq (chiK (rowF D y) D y 5)] at K1
             change Blk _ _ _ (c6 (chiG D y)) at K1
             replace K1 := Lib.hid K1
             simp only [show ((5 : Nat) : Int) = 5 from rfl]
             clear K0
             go_wp2_with fail
             go_roundw
             case rel => exact ⟨j + 1, by omega, by congr 1; have := hy.out; omega, by rw [hc5.out]; exact K1.out, G⟩
             case measure => have := hy.out; simp [intOf]; omega
          ·obtain rfl : j = 5 := by omega
           have hX := chiF_len M
           rw [← shutV_eq (chiR (rhoF M) 5)] at K1
           change Blk _ _ _ (c6 (chiF M)) at K1
           have hT3 := hT.out.grown G h1 h2 h3
           have hrc := hT3.2.2.1 k hlt
           have hg2 := hT3.2.2.2.2.2
           have hc := (show rndK M k = shutV ((chiF M).set 0 (bits .xor .u64 ((chiF M).getD 0 0) (rcT.getD k 0))) from rfl)
           rw [shutV_eq] at hc
           have g0 := c6_get (L := chiF M) (i := 0) (by omega)
           generalize (chiF M).getD 0 0 = x0 at *
           generalize rcT.getD k 0 = x1 at *
           clear hT3 hR hDl hc5
           generalize chiF M = E at *
           replace hc := Lib.hid hc
           replace K1 := Lib.hid K1
           simp only [show ((5 * 5 : Nat) : Int) = 25 from rfl]
           (obtain ⟨k1, f1, l1, m1⟩ := K1.out.rl)
           go_wp2_with fail
           (refine wp_region_later_tail 10 (by kernel_rfl) (by kernel_rfl) ?_; simp only [List.take_succ_cons, List.take_zero, List.drop_succ_cons, List.drop_zero]; (repeat (go_big_quiet_step (fail))); refine wpQuiet_nil ?_; intro w' hB)
           clear k1 f1 l1 m1
           replace K1 := Lib.hid (K1.out.below hB)
           replace G := grown_on G hB
           clear hB
           (obtain ⟨k1, f1, l1, m1⟩ := K1.out.rl)
           go_wp2_with fail
           go_roundw
           case rel => exact ⟨k + 1, by omega, by go_num, by rw [perK, hM0.out, hc.out, ← c6_set]; exact K1.out.set_ _ _, grown_set G⟩
           case measure => simp [intOf]; omega
  ·obtain rfl : k = 24 := by omega
   simp only [show ((24 : Nat) : Int) = 24 from rfl]
   rw [← shutV_eq (perK L 24)] at K1 ⊢
   replace K1 := Lib.hid K1
   go_wp2_with fail
   go_end0
   exact ⟨rfl, G, K1.out⟩
end Go.Proofs.YthhlbdgladhdkaaGreatDoor
end
