/- What the later texts stand on (Par2, RunQ, Bri): plain laws and walks, each by its own conditions. -/
import Derived.Test.YthhlbdgladhdkaaGreatDoorUs16
import Derived.Test.YthhlbdgladhdkaaGreatDoorUs14
import Derived.Test.YthhlbdgladhdkaaGreatDoorUs13
import Derived.Test.YthhlbdgladhdkaaGreatDoorUs5
import Derived.Test.YthhlbdgladhdkaaGreatDoorUs15
import Derived.Test.YthhlbdgladhdkaaGreatDoorUs9
set_option linter.unusedSimpArgs false
set_option linter.unusedVariables false
section
namespace Go.Proofs.YthhlbdgladhdkaaGreatDoor
open BigFrame Go.RowKit Go.Phx Go.Shelf
attribute [local go_sem] Oper.semAt_some

structure Pt where
 h : UInt8
 m : List Pr
 A : Option Addr
 c : Nat
def Pt.run (y : Pt) : UInt8 × List Pr := (y.h, behindP 1 y.m)
def PtAt (N : Nat) (l : List Pr) (pre : List Pt) (y : Pt) (W : World) : Prop :=
 (∃ rest, pre.map Pt.run ++ y.run :: rest = runsP l) ∧ y.m ≠ [] ∧ (∀ z ∈ y.m, z ∈ l ∧ z.1.take 1 = [y.h]) ∧ y.m.length ≤ y.c ∧ CsS (fun b => b < N) W y.A (PrL y.m)
def slcLen (q : Nat) (w : World) : Nat := match w.cell? ⟨q, 0, none⟩ with
 | some (.slice _ n _) => n
 | _ => 0
theorem slcLen_blk {q : Nat} {w : World} {t : TypeId} {A : Option Addr} {n c : Nat} (h : Blk w q t #[.slice A n c]) : slcLen q w = n := by
 have := h.cell 0
 unfold slcLen
 rw [this]
 rfl
theorem PrL_split (s : List Pr) (k : Nat) : PrL s = PrL (s.take k) ++ PrL (s.drop k) := by rw [← PrL_app, List.take_append_drop]
theorem CsS.prTake {S : Nat → Prop} {w : World} {A : Option Addr} {s : List Pr} (h : CsS S w A (PrL s)) (k : Nat) : CsS S w A (PrL (s.take k)) := fun h0 => by
 have e := PrL_split s k
 obtain ⟨b, o, ha, hb, hl, hc⟩ := h (by rw [e, List.length_append]; omega)
 refine ⟨b, o, ha, hb, hl, fun i x hx => hc i x ?_⟩
 rw [e, List.getElem?_append_left (List.getElem?_eq_some_iff.1 hx).1]
 exact hx
theorem CsS.prDrop {S : Nat → Prop} {w : World} {b o : Nat} {s : List Pr} (h : CsS S w (some ⟨b, o, none⟩) (PrL s)) (k : Nat) (hk : k ≤ s.length) : CsS S w (some ⟨b, o + k * 2, none⟩) (PrL (s.drop k)) := fun h0 => by
 have e := PrL_split s k
 obtain ⟨b', o', ha, hb, hl, hc⟩ := h (by rw [e, List.length_append]; omega)
 injection ha with ha
 injection ha with e1 e2
 subst e1 e2
 have hl2 : (PrL (s.take k)).length = k * 2 := by rw [PrL_len, List.length_take]; omega
 refine ⟨b, _, rfl, hb, hl, fun i x hx => ?_⟩
 rw [Nat.add_assoc]
 refine hc _ _ ?_
 rw [e, List.getElem?_append_right (by omega), hl2, Nat.add_sub_cancel_left]
 exact hx
theorem runLen_is (h : UInt8) : ∀ (r : List Pr) (j : Nat), (∀ x ∈ r.take j, x.1.take 1 = [h]) → j ≤ r.length → (j = r.length ∨ ∃ x, r[j]? = some x ∧ x.1.take 1 ≠ [h]) → runLen h r = j
 | [], j, _, hj, _ => by simp at hj; subst hj; rfl
 | y :: r, 0, _, _, hx => by
  rcases hx with hx | ⟨x, hx, hn⟩
  ·simp at hx
  ·simp at hx
   subst hx
   rw [runLen, if_neg hn]
 | y :: r, j + 1, ha, hj, hx => by
  rw [runLen, if_pos (ha y (by simp)), runLen_is h r j (fun x hx => ha x (by simp [hx])) (by simpa using hj) (by
   rcases hx with hx | ⟨x, hx, hn⟩
   ·left; simpa using hx
   ·exact .inr ⟨x, by simpa using hx, hn⟩)]
theorem index0 (h : UInt8) (p : Bytes) (hl : (h :: p).length ≤ 1000000) (W : World) : (Instr.index 9 (.string (bs (h :: p))) (.int .i64 0)).run Tryz.prog W = .ok (.int .u8 (h.toNat : Int)) W := index_bs (h :: p) 0 (by simp) (by omega) W
theorem wrap_byte (h : UInt8) : wrap64 (h.toNat : Int) = (h.toNat : Int) := by have := h.toNat_lt; unfold wrap64; omega
set_option maxRecDepth 100000 in
set_option maxHeartbeats 16000000 in
theorem parts1_in (n9 : Nat) (hn9 : 1 ≤ n9) (lp q N : Nat) (hqN : N ≤ q) (l : List Pr) (hl : l.length ≤ 1000000) (hne : ∀ x ∈ l, x.1 ≠ []) (hle : ∀ x ∈ l, x.1.length ≤ 1000000) (A : Option Addr) (c : Nat) (hc : l.length ≤ c)
  (J Jx : List Pt → Unit → World → Prop) (hJ : ∀ s x A y B, J s x A → A.grownBy B (some q) → J s y B)
  (hY : ∀ pre y x A, J pre x A → PtAt N l pre y A → YieldAt Fence.wide (n9 - 1) Tryz.prog lp #[.int .i64 (y.h.toNat : Int), .slice y.A y.m.length y.c] A fun e B =>
   (e = .returned (.bool true) ∧ J (pre ++ [y]) x B ∧ KpN N q A B) ∨ (e = .returned (.bool false) ∧ Jx (pre ++ [y]) x B))
  (W : World) (K0 : Blk W q 109 #[.slice A l.length c]) (R : CsS (fun b => b < N) W A (PrL l)) (h0 : J [] () W) :
  CallsIn Fence.wide n9 Tryz.prog 93 #[.func (.yield lp) #[] #[], .pointer (some ⟨q, 0, none⟩)] W fun e B => (∃ v, e = .returned v) ∧
   ((∃ xs x, xs.map Pt.run = runsP l ∧ J xs x B) ∨ (∃ pre x, True ∧ Jx pre x B)) := by
 have hwf : ∀ f, Fence.wide.fn f := fun _ => trivial
 replace hY := Lib.hid hY
 replace hJ := Lib.hid hJ
 replace hne := Lib.hid hne
 replace hle := Lib.hid hle
 refine callsIn_of_wp Tryz.func93 rfl trivial ?_ rfl
 simp only [Tryz.ntmps93, List.size_toArray, List.length_cons, List.length_nil, Nat.reduceAdd, Nat.reduceSub, Array.replicate_succ, Array.replicate_zero, List.push_toArray, List.append_toArray, List.nil_append, List.cons_append]
 gi_wp2_with fail
 gi_loopw [5] (fun _ wr => ∃ (pre : List Pt) (s : List Pr) (A' : Option Addr) (c' : Nat), s.length ≤ l.length ∧ s.length ≤ c' ∧ (∀ z ∈ s, z ∈ l) ∧ pre.map Pt.run ++ runsP s = runsP l ∧ CsS (fun b => b < N) wr A' (PrL s) ∧ Blk wr q 109 #[.slice A' s.length c'] ∧ J pre () wr) (fun _ wr => slcLen q wr)
 case atStart => exact ⟨[], l, A, c, Nat.le_refl _, hc, fun _ h => h, rfl, R, K0, h0⟩
 case round =>
  clear K0 h0 R
  obtain ⟨pre, s, A', c', hsl, hsc, hsub, hrun, R, K0, hj⟩ := hrel
  have hm0 := Lib.hid (slcLen_blk K0)
  obtain ⟨n, hn⟩ : ∃ n, s.length = n := ⟨_, rfl⟩
  rw [hn] at hsl hsc K0 hm0
  replace hn := Lib.hid hn
  replace K0 := Lib.hid K0
  match hs0 : s with
  | [] =>
   obtain rfl : 0 = n := hn.out
   rw [runsP, List.append_nil] at hrun
   replace hj := Lib.hid hj
   (obtain ⟨k0, f0, l0, m0⟩ := K0.out.rl)
   clear R hm0
   gi_wp2_with fail
   go_end0
   exact ⟨⟨_, rfl⟩, .inl ⟨pre, (), hrun, hj.out⟩⟩
  | ([], v0) :: r => exact absurd rfl (hne.out _ (hsub _ List.mem_cons_self))
  | (h :: p, v0) :: r =>
   rw [← hs0] at hn hsub hrun R
   have hn1 : n = r.length + 1 := by have := hn.out; rw [hs0] at this; simpa using this.symm
   have hl1 : s[0]? = some (h :: p, v0) := by rw [hs0]; rfl
   obtain ⟨b, o, rfl, hb, c0, c1⟩ := PrL_cells (R.keep (S' := fun _ => True) (Nat.le_refl _) fun _ _ _ => ⟨trivial, rfl⟩) hl1
   simp only [Nat.zero_mul, Nat.add_zero] at c0 c1
   have hpl : (h :: p).length ≤ 1000000 := hle.out (h :: p, v0) (hsub _ (by rw [hs0]; exact List.mem_cons_self))
   have hix := fun W => index0 h p hpl W
   have hpe : ¬ (h :: p) = [] := by simp
   have hpe2 : (h :: p).isEmpty = false := rfl
   have hs1 : ∀ k : Nat, k < n → ∃ x a y, s[k]? = some x ∧ x.1 = a :: y := fun k hk => by
    have hk' : k < s.length := by rw [hn.out]; exact hk
    obtain ⟨x, hx⟩ : ∃ x, s[k]? = some x := ⟨_, List.getElem?_eq_getElem hk'⟩
    cases e : x.1 with
    | nil => exact absurd e (hne.out x (hsub x (List.mem_of_getElem? hx)))
    | cons a y => exact ⟨x, a, y, hx, e⟩
   replace hs1 := Lib.hid hs1
   generalize hhp : h :: p = hp at *
   have hn0 : (0 : Int) < (n : Int) := by omega
   have hnl : n ≤ 1000000 := by omega
   have hwp : wrap64 (h.toNat : Int) = (h.toNat : Int) := wrap_byte h
   replace hn1 := Lib.hid hn1
   have hT := Lib.hid (show ∀ k : Nat, 1 ≤ k → s.take k = (hp, v0) :: r.take (k - 1) from fun k hk => by
    obtain ⟨j, rfl⟩ : ∃ j, k = j + 1 := ⟨k - 1, by omega⟩
    rw [hs0]; rfl)
   have hD := Lib.hid (show ∀ k : Nat, 1 ≤ k → s.drop k = r.drop (k - 1) from fun k hk => by
    obtain ⟨j, rfl⟩ : ∃ j, k = j + 1 := ⟨k - 1, by omega⟩
    rw [hs0]; rfl)
   (obtain ⟨k0, f0, l0, m0⟩ := K0.out.rl)
   gi_wp2_with fail
   gi_loop [4] (fun v => ∃ k : Nat, v = .int .i64 k ∧ 1 ≤ k ∧ k ≤ n ∧ ∀ x ∈ s.take k, x.1.take 1 = [h]) (fun v => n - (intOf v).toNat)
   case atStart =>
    refine ⟨1, rfl, Nat.le_refl _, by omega, fun x hx => ?_⟩
    rw [hs0, ← hhp] at hx
    simp at hx
    rw [hx]
    rfl
   case round =>
    obtain ⟨k, rfl, hk1, hkn, hall⟩ := hrel
    by_cases hlt : k < n
    ·obtain ⟨x, a, y, hx, hxa⟩ := hs1.out k hlt
     obtain ⟨b', o', hA, hb', d0, d1⟩ := PrL_cells (R.keep (S' := fun _ => True) (Nat.le_refl _) fun _ _ _ => ⟨trivial, rfl⟩) hx
     injection hA with hA
     injection hA with e1 e2
     subst e1 e2
     rw [hxa] at d0
     have hix2 := fun W => index0 a y (by rw [← hxa]; exact hle.out x (hsub x (List.mem_of_getElem? hx))) W
     have hwa : wrap64 (a.toNat : Int) = (a.toNat : Int) := wrap_byte a
     generalize hay : a :: y = ay at *
     have hay' := Lib.hid hay
     clear hay
     have hlt2 : (k : Int) < (n : Int) := by omega
     by_cases hah : a = h
     ·subst hah
      gi_wp2_with fail
      go_round
      case rel => exact ⟨k + 1, by go_num, by omega, by omega, fun z hz => by
       rw [List.take_add_one, hx] at hz
       rcases List.mem_append.1 hz with hz | hz
       ·exact hall z hz
       ·simp at hz
        rw [hz, hxa, ← hay'.out]
        rfl⟩
      case measure => simp [intOf]; omega
     ·have hah2 : ((a.toNat : Int) == (h.toNat : Int)) = false := by
       rw [beq_eq_false_iff_ne]
       intro e
       exact hah (UInt8.toNat_inj.1 (by omega))
      have hah3 : ¬ (a.toNat : Int) = (h.toNat : Int) := fun e => hah (UInt8.toNat_inj.1 (by omega))
      have hstop : k - 1 = r.length ∨ ∃ x, r[k - 1]? = some x ∧ x.1.take 1 ≠ [h] := .inr ⟨x, by rw [hs0, show k = k - 1 + 1 by omega] at hx; simpa using hx, fun e => by rw [hxa, ← hay'.out] at e; simp at e; exact hah e⟩
      have hkr : runLen h r = k - 1 := runLen_is h r (k - 1) (fun x hx => hall x (by rw [hT.out k hk1]; simp [hx])) (by have := hn1.out; omega) hstop
      have hcut := runs_cut r h p v0 fun x hx => hne.out x (hsub x (by rw [hs0]; simp [hx]))
      rw [hkr, show k - 1 + 1 = k by omega, ← hD.out k hk1, hhp, ← hs0] at hcut
      rw [hcut] at hrun
      have hkn2 : (k : Int) ≤ (n : Int) := by omega
      have hkc2 : (k : Int) ≤ (c' : Int) := by omega
      have hnc2 : (n : Int) ≤ (c' : Int) := by omega
      have hkn3 : ¬ (n : Int) < (k : Int) := by omega
      have htl : (s.take k).length = k := by have := hn.out; rw [List.length_take]; omega
      have hy0 := hY.out pre ⟨h, s.take k, some ⟨b, o, none⟩, c'⟩ () wr hj ⟨⟨_, hrun⟩, fun e => by have e : s.take k = [] := e; rw [e] at htl; simp at htl; omega, fun z hz => ⟨hsub z (List.mem_of_mem_take hz), hall z hz⟩, by show (s.take k).length ≤ c'; rw [htl]; omega, R.prTake k⟩
      simp only [htl] at hy0
      obtain ⟨fn, tmps, assign, body, hy, hYR⟩ := hy0
      have R9 := Lib.hid R
      replace hj := Lib.hid hj
      replace hrun := Lib.hid hrun
      replace hsub := Lib.hid hsub
      clear hstop hcut hall hkr c0 c1 R
      gi_wp2_with fail
      refine hYR.mono ?_
      rintro e W3 (⟨rfl, hJ3, hk3⟩ | ⟨rfl, hJx3⟩)
      ·have K3 : Blk W3 q 109 #[.slice (some ⟨b, o, none⟩) n c'] := (hk3.2 q (.inr rfl) K0.out.lt).trans K0.out
       have hm3 := slcLen_blk K3
       have R3 := Lib.hid (show CsS (fun b => b < N) W3 (if c' = k then some ⟨b, o, none⟩ else some ⟨b, o + k * 2, none⟩) (PrL (s.drop k)) from by
        by_cases hck : c' = k
        ·rw [List.drop_of_length_le (by have := hn.out; omega)]
         exact CsS.nil _ _ _
        ·rw [if_neg hck]
         exact (R9.out.kpN hk3).prDrop k (by have := hn.out; omega))
       generalize hA9 : (if c' = k then some (⟨b, o, none⟩ : Addr) else some ⟨b, o + k * 2, none⟩) = A9 at *
       replace hA9 := Lib.hid hA9
       have hg3 : W3.grownBy (W3.setCell ⟨q, 0, none⟩ (.slice A9 (n - k) (c' - k))) (some q) := grown_set (World.grownBy.refl _ _)
       have hj3 := Lib.hid (hJ.out _ _ _ () _ hJ3 hg3)
       clear k0 f0 l0 m0 K0 hk3 hJ3 hy hYR R9 hj
       have K0 := Lib.hid K3
       clear K3
       (obtain ⟨k0, f0, l0, m0⟩ := K0.out.rl)
       gi_wp2_with fail
       first | rw [hA9.out] | rw [show some (⟨b, o + k * 2, none⟩ : Addr) = A9 by rw [← hA9.out, if_neg (by omega)]]
       go_roundw
       case rel => exact ⟨pre ++ [⟨h, s.take k, some ⟨b, o, none⟩, c'⟩], s.drop k, A9, c' - k, by rw [List.length_drop, hn.out]; omega, by rw [List.length_drop, hn.out]; omega, fun z hz => hsub.out z (List.mem_of_mem_drop hz), by rw [List.map_append, List.append_assoc]; exact hrun.out, R3.out.keep (by simp) (fun b2 hb2 _ => ⟨hb2, Below.heap_setCell _ _ _ _ (by simp; omega)⟩), by rw [List.length_drop, hn.out]; exact Blk.to (Blk.set_ K0.out 0 _) rfl, hj3.out⟩
       case measure => rw [slcLen_blk (Blk.to (Blk.set_ K0.out 0 (.slice A9 (n - k) (c' - k))) rfl), hm0.out]; omega
      ·replace hJx3 := Lib.hid hJx3
       clear k0 f0 l0 m0 K0 hy hYR R9 hj
       gi_wp2_with fail
       refine bodyPost_ret (results_none rfl _ _ _) rfl ?_
       exact ⟨⟨_, rfl⟩, .inr ⟨_, (), trivial, hJx3.out⟩⟩
    ·have hlt2 : ¬ (k : Int) < (n : Int) := by omega
     have hstop : k - 1 = r.length ∨ ∃ x, r[k - 1]? = some x ∧ x.1.take 1 ≠ [h] := .inl (by have := hn1.out; omega)
     have hkr : runLen h r = k - 1 := runLen_is h r (k - 1) (fun x hx => hall x (by rw [hT.out k hk1]; simp [hx])) (by have := hn1.out; omega) hstop
     have hcut := runs_cut r h p v0 fun x hx => hne.out x (hsub x (by rw [hs0]; simp [hx]))
     rw [hkr, show k - 1 + 1 = k by omega, ← hD.out k hk1, hhp, ← hs0] at hcut
     rw [hcut] at hrun
     have hkn2 : (k : Int) ≤ (n : Int) := by omega
     have hkc2 : (k : Int) ≤ (c' : Int) := by omega
     have hnc2 : (n : Int) ≤ (c' : Int) := by omega
     have hkn3 : ¬ (n : Int) < (k : Int) := by omega
     have htl : (s.take k).length = k := by have := hn.out; rw [List.length_take]; omega
     have hy0 := hY.out pre ⟨h, s.take k, some ⟨b, o, none⟩, c'⟩ () wr hj ⟨⟨_, hrun⟩, fun e => by have e : s.take k = [] := e; rw [e] at htl; simp at htl; omega, fun z hz => ⟨hsub z (List.mem_of_mem_take hz), hall z hz⟩, by show (s.take k).length ≤ c'; rw [htl]; omega, R.prTake k⟩
     simp only [htl] at hy0
     obtain ⟨fn, tmps, assign, body, hy, hYR⟩ := hy0
     have R9 := Lib.hid R
     replace hj := Lib.hid hj
     replace hrun := Lib.hid hrun
     replace hsub := Lib.hid hsub
     clear hstop hcut hall hkr c0 c1 R
     gi_wp2_with fail
     refine hYR.mono ?_
     rintro e W3 (⟨rfl, hJ3, hk3⟩ | ⟨rfl, hJx3⟩)
     ·have K3 : Blk W3 q 109 #[.slice (some ⟨b, o, none⟩) n c'] := (hk3.2 q (.inr rfl) K0.out.lt).trans K0.out
      have hm3 := slcLen_blk K3
      have R3 := Lib.hid (show CsS (fun b => b < N) W3 (if c' = k then some ⟨b, o, none⟩ else some ⟨b, o + k * 2, none⟩) (PrL (s.drop k)) from by
       by_cases hck : c' = k
       ·rw [List.drop_of_length_le (by have := hn.out; omega)]
        exact CsS.nil _ _ _
       ·rw [if_neg hck]
        exact (R9.out.kpN hk3).prDrop k (by have := hn.out; omega))
      generalize hA9 : (if c' = k then some (⟨b, o, none⟩ : Addr) else some ⟨b, o + k * 2, none⟩) = A9 at *
      replace hA9 := Lib.hid hA9
      have hg3 : W3.grownBy (W3.setCell ⟨q, 0, none⟩ (.slice A9 (n - k) (c' - k))) (some q) := grown_set (World.grownBy.refl _ _)
      have hj3 := Lib.hid (hJ.out _ _ _ () _ hJ3 hg3)
      clear k0 f0 l0 m0 K0 hk3 hJ3 hy hYR R9 hj
      have K0 := Lib.hid K3
      clear K3
      (obtain ⟨k0, f0, l0, m0⟩ := K0.out.rl)
      gi_wp2_with fail
      first | rw [hA9.out] | rw [show some (⟨b, o + k * 2, none⟩ : Addr) = A9 by rw [← hA9.out, if_neg (by omega)]]
      go_roundw
      case rel => exact ⟨pre ++ [⟨h, s.take k, some ⟨b, o, none⟩, c'⟩], s.drop k, A9, c' - k, by rw [List.length_drop, hn.out]; omega, by rw [List.length_drop, hn.out]; omega, fun z hz => hsub.out z (List.mem_of_mem_drop hz), by rw [List.map_append, List.append_assoc]; exact hrun.out, R3.out.keep (by simp) (fun b2 hb2 _ => ⟨hb2, Below.heap_setCell _ _ _ _ (by simp; omega)⟩), by rw [List.length_drop, hn.out]; exact Blk.to (Blk.set_ K0.out 0 _) rfl, hj3.out⟩
      case measure => rw [slcLen_blk (Blk.to (Blk.set_ K0.out 0 (.slice A9 (n - k) (c' - k))) rfl), hm0.out]; omega
     ·replace hJx3 := Lib.hid hJx3
      clear k0 f0 l0 m0 K0 hy hYR R9 hj
      gi_wp2_with fail
      refine bodyPost_ret (results_none rfl _ _ _) rfl ?_
      exact ⟨⟨_, rfl⟩, .inr ⟨_, (), trivial, hJx3.out⟩⟩
end Go.Proofs.YthhlbdgladhdkaaGreatDoor
end
section
namespace Go.Phx

theorem runs_lt : ∀ (l : List Pr), SortP l → (∀ x ∈ l, x.1 ≠ []) → (runsP l).Pairwise (fun a b => a.1.toNat < b.1.toNat)
 | [], _, _ => by simp [runsP]
 | ([], v) :: r, _, hn => absurd rfl (hn _ List.mem_cons_self)
 | (h0 :: p, v) :: r, hs, hn => by
  have ih := runs_lt r (List.Pairwise.of_cons hs) (fun x hx => hn x (List.mem_cons_of_mem _ hx))
  rw [runsP]
  cases e : runsP r with
  | nil => exact List.pairwise_singleton _ _
  | cons y s =>
   obtain ⟨k2, m2⟩ := y
   rw [e] at ih
   dsimp only
   by_cases hk : h0 = k2
   ·rw [if_pos hk]
    rw [List.pairwise_cons] at ih ⊢
    exact ⟨fun b hb => by rw [hk]; exact ih.1 b hb, ih.2⟩
   ·rw [if_neg hk]
    refine List.Pairwise.cons (fun b hb => ?_) ih
    obtain ⟨k, m⟩ := b
    rw [← e] at hb
    have hm := runs_some r k m hb
    obtain ⟨z, hz⟩ := List.exists_mem_of_ne_nil m hm
    have hzr := runs_all r k m hb z hz
    -- the first of the rest stands ahead of the second run's half byte or is its
    match r, hzr, e, hs, hn with
    | (k3 :: p3, v3) :: r2, hzr, e, hs, hn =>
     obtain ⟨m3, s3, e3, _⟩ := runs_head k3 p3 v3 r2
     rw [e3] at e
     have hk3 : k3 = k2 := by injection e with e _; injection e
     subst hk3
     have h03 : h0.toNat < k3.toNat := by
      have := (List.pairwise_cons.1 hs).1 _ (List.mem_cons_self)
      dsimp only at this
      rw [ltB_cons] at this
      rcases this with h | h
      ·exact h
      ·exact absurd h.1 hk
     rcases List.mem_cons.1 hzr with hz2 | hz2
     ·injection hz2 with hz2 _
      injection hz2 with hz2 _
      dsimp only
      rw [hz2]; exact h03
     ·have := (List.pairwise_cons.1 (List.Pairwise.of_cons hs)).1 _ hz2
      dsimp only at this ⊢
      rw [ltB_cons] at this
      rcases this with h | h
      ·omega
      ·rw [← h.1]; exact h03
    | ([], v3) :: r2, hzr, e, hs, hn => exact absurd rfl (hn ([], v3) (by simp))
theorem atC_snoc (K : Bytes → Bytes) (f : List Pr → Nd) (k : UInt8) (m : List Pr) (h : Nat) : ∀ (L : List (UInt8 × List Pr)), (∀ x ∈ L, x.1.toNat < k.toNat) →
  atC K (chOf f (L ++ [(k, m)])) h = if k.toNat = h then refI K (itemN K (f m)) else atC K (chOf f L) h
 | [], _ => by
  have e : atC K (chOf f []) h = It.text [] := by rw [chOf, atC]
  rw [List.nil_append, e, chOf, atC, e]
 | (k2, m2) :: L, hl => by
  have h2 := hl _ List.mem_cons_self
  dsimp only at h2
  rw [List.cons_append, chOf, atC, atC_snoc K f k m h L fun x hx => hl x (List.mem_cons_of_mem _ hx)]
  conv => rhs; rw [chOf, atC]
  by_cases e : k.toNat = h
  ·rw [if_pos e, if_pos e, if_neg (by omega)]
  ·rw [if_neg e, if_neg e]
theorem kids_chOf (f : List Pr → Nd) : ∀ (L : List (UInt8 × List Pr)), kidsC (chOf f L) = L.map fun x => ([x.1], f x.2)
 | [] => rfl
 | (k, m) :: L => by rw [chOf, kidsC, kids_chOf f L]; rfl
end Go.Phx
end
section
namespace Go.Proofs.YthhlbdgladhdkaaGreatDoor
open BigFrame Go.RowKit Go.Phx Go.Shelf
attribute [local go_sem] Oper.semAt_some

theorem own_of_block {base : Nat} {e : TypeId} {k m n cap g : Nat} {W W' : World} {xs : List Value} (h : W.ownsRow base e k (.slice (some ⟨g, 0, none⟩) n cap) m xs) (hh : W'.heap[g]? = W.heap[g]?) : W'.ownsRow base e k (.slice (some ⟨g, 0, none⟩) n cap) m xs := by
 refine ⟨h.1, ?_⟩
 rcases h.2 with ⟨e1, h0⟩ | ⟨g', cap', cur, e1, hb, hg, r⟩
 ·cases e1
 ·refine .inr ⟨g', cap', cur, e1, hb, ?_, r⟩
  injection e1 with e1 _ _
  injection e1 with e1
  injection e1 with e1
  subst e1
  exact hh.trans hg
theorem own_there {base : Nat} {e : TypeId} {k m n cap g : Nat} {W : World} {xs : List Value} (h : W.ownsRow base e k (.slice (some ⟨g, 0, none⟩) n cap) m xs) (i c : Nat) (hc : i + c ≤ m * k) : W.there g i c := by
 rcases h.2 with ⟨e1, h0⟩ | ⟨g', cap', cur, e1, hb, hg, hn, hm, hs, ht⟩
 ·cases e1
 ·injection e1 with e1 _ _
  injection e1 with e1
  injection e1 with e1
  subst e1
  intro j hj
  have hle : m * k ≤ cap' * k := Nat.mul_le_mul_right k hn
  have hlt : i + j < cur.size := by rw [hs]; omega
  exact ⟨by rw [cell_of_row W g _ cur _ (0, 0) hg, Array.getElem?_eq_getElem hlt]; rfl, by simp [World.frozen?, hg]⟩
theorem own_lift {base b2 : Nat} {e : TypeId} {k n : Nat} {W : World} {v : Value} {xs : List Value} (h : W.ownsRow base e k v n xs) (hj : ∀ j, v.ownBlock = some j → b2 ≤ j) : W.ownsRow b2 e k v n xs := by
 refine ⟨h.1, ?_⟩
 rcases h.2 with ⟨e1, h0⟩ | ⟨g', cap', cur, e1, hb, r⟩
 ·exact .inl ⟨e1, h0⟩
 ·exact .inr ⟨g', cap', cur, e1, hj g' (by rw [e1]; rfl), r⟩
noncomputable def brL (k : Nat) (L : List (UInt8 × List Pr)) : List It := (List.range 16).map (fun h => atC kecc (chOf (growP k) L) h) ++ [It.text []]
theorem brL_item (k : Nat) (L : List (UInt8 × List Pr)) : itemN kecc (.br (chOf (growP k) L)) = .list (brL k L) := by rw [itemN]; rfl
theorem brL_len (k : Nat) (L : List (UInt8 × List Pr)) : (brL k L).length = 17 := by simp [brL]
theorem brL_at (k : Nat) (L : List (UInt8 × List Pr)) (h : Nat) (x : It) (hx : (brL k L)[h]? = some x) : (h < 16 ∧ x = atC kecc (chOf (growP k) L) h) ∨ (h = 16 ∧ x = .text []) := by
 have hl := (List.getElem?_eq_some_iff.1 hx).1
 rw [brL_len] at hl
 unfold brL at hx
 by_cases h16 : h < 16
 ·rw [List.getElem?_append_left (by simpa using h16)] at hx
  simp [h16] at hx
  exact .inl ⟨h16, hx.symm⟩
 ·obtain rfl : h = 16 := by omega
  simp at hx
  exact .inr ⟨rfl, hx.symm⟩
def BrS (q : Nat) (va vb : Value) (b : Nat) : Prop := q + 1 ≤ b ∧ va.ownBlock ≠ some b ∧ vb.ownBlock ≠ some b
structure BrV (w : World) (g gi bx q k : Nat) (pre : List Pt) (va vb : Value) (ps : List Nat) (vs : List Iv) (W : World) : Prop where
 node : Blk W g 86 #[.bool false, .string ⟨#[]⟩, .slice none 0 0, .string ⟨#[]⟩, va, vb]
 box : Blk W (g + 1) 82 #[.pointer (some ⟨g, 0, none⟩)]
 row : IRow 0 W (.slice (some ⟨gi, 0, none⟩) 17 17) vs
 ibox : Blk W bx 50 #[.slice (some ⟨gi, 0, none⟩) 17 17]
 ra : LRow (q + 1) W va (pre.map fun y => [y.h])
 rb : PRow (q + 1) W vb ps
 len : ps.length = pre.length
 lenv : vs.length = 17
 kids : ∀ (i : Nat) y p, pre[i]? = some y → ps[i]? = some p → TrS (BrS q va vb) W (growP k (behindP 1 y.m)) p
 items : ∀ (h : Nat) x v, (brL k (pre.map Pt.run))[h]? = some x → vs[h]? = some v → RepS (BrS q va vb) W x v
 below : Below w.heap.size w W
 size : q + 1 ≤ W.heap.size
theorem BrV.grown {w A B : World} {g gi bx q k : Nat} {pre : List Pt} {va vb : Value} {ps : List Nat} {vs : List Iv} {row : Option Nat} (h : BrV w g gi bx q k pre va vb ps vs A) (h1 : g + 1 < gi) (h2 : gi < bx) (h3 : bx < q) (hw : w.heap.size ≤ q)
  (hg : A.grownBy B row) (hr : ∀ j, row = some j → j = q ∨ (q + 1 ≤ j ∧ ∃ o : Obj, A.heap[j]? = some o ∧ o.isCells = false)) : BrV w g gi bx q k pre va vb ps vs B := by
 have hne : ∀ b, b < q → some b ≠ row := fun b hb e => by rcases hr b e.symm with h | ⟨h, _⟩ <;> omega
 have hnc : ∀ b, q + 1 ≤ b → (∃ cs t fz, A.heap[b]? = some (.cells cs t fz)) → some b ≠ row := fun b hb ⟨cs, t, fz, hcs⟩ e => by
  rcases hr b e.symm with h | ⟨_, o, ho, hc⟩
  ·omega
  ·rw [hcs] at ho
   injection ho with ho
   subst ho
   cases hc
 refine ⟨h.node.grown hg (hne _ (by omega)), h.box.grown hg (hne _ (by omega)), h.row.keep hg (fun j hj e => ?_), h.ibox.grown hg (hne _ (by omega)), ?_, ?_, h.len, h.lenv, fun i y p hy hp => ?_, fun i x v hx hv => ?_, h.below.grown hg h.below.size (fun j e => ?_), Nat.le_trans h.size hg.size⟩
 ·injection hj with hj
  subst hj
  exact hne gi (by omega) e.symm
 ·refine h.ra.keep hg fun j hj e => ?_
  obtain ⟨hb, cs, t, fz, hcs⟩ := h.ra.cells j hj
  exact hnc j hb ⟨cs, t, fz, hcs⟩ e.symm
 ·refine World.ownsRow.kept h.rb hg ?_
  obtain ⟨_, _, _, _, _, _, hc⟩ := own_shape h.rb
  cases e : vb.ownBlock with
  | none => exact .inl rfl
  | some j =>
   obtain ⟨hb, cs, hcs⟩ := hc j e
   exact .inr (hnc j hb ⟨cs, _, _, hcs⟩)
 ·exact (h.kids i y p hy hp).keep2 hg.size fun b hb hlt hcs => ⟨hb, hg.block b hlt (hnc b hb.1 hcs)⟩
 ·exact (h.items i x v hx hv).keep2 hg.size fun b hb hlt hcs => ⟨hb, hg.block b hlt (hnc b hb.1 hcs)⟩
 ·rcases hr j e with h | ⟨h, _⟩ <;> omega
theorem BrV.next {w W w3 w4 : World} {g gi bx q k : Nat} {pre : List Pt} {va vb va' vb' : Value} {ps : List Nat} {vs : List Iv} (h : BrV w g gi bx q k pre va vb ps vs W) (hgw : w.heap.size = g) (h1 : g + 1 < gi) (h2 : gi < bx) (h3 : bx < q) (y : Pt) (p : Nat) (u : Iv)
  (hB : Below W.heap.size W w3) (ht : TrS (fun b => W.heap.size ≤ b) w3 (growP k (behindP 1 y.m)) p) (RU : RepS (fun b => W.heap.size ≤ b) w3 (refI kecc (itemN kecc (growP k (behindP 1 y.m)))) u)
  (HR : RfS w3 w.heap.size g va.ownBlock vb.ownBlock #[.bool false, .string ⟨#[]⟩, .slice none 0 0, .string ⟨#[]⟩, va', vb'] va' vb' ((pre.map fun y => [y.h]) ++ [[y.h]]) (ps ++ [p]) w4)
  (hlt : ∀ x ∈ pre.map Pt.run, x.1.toNat < y.h.toNat) (h16 : y.h.toNat < 16) :
  w4.there gi (y.h.toNat * 3) 3 ∧ KeepsOthers W (w4.setCells gi (y.h.toNat * 3) u.cells) ∧ KpN g q W (w4.setCells gi (y.h.toNat * 3) u.cells) ∧ BrV w g gi bx q k (pre ++ [y]) va' vb' (ps ++ [p]) (vs.set y.h.toNat u) (w4.setCells gi (y.h.toNat * 3) u.cells) := by
 obtain ⟨A, c, ea, _, _, _, ha⟩ := own_shape h.ra
 obtain ⟨B, d, eb, _, _, _, hb⟩ := own_shape h.rb
 have hz3 := hB.size
 have hz4 := HR.size
 have ha' : ∀ j, va.ownBlock = some j → q + 1 ≤ j ∧ j < W.heap.size := fun j e => ⟨(ha j e).1, by obtain ⟨_, cs, hcs⟩ := ha j e; exact (Array.getElem?_eq_some_iff.1 hcs).1⟩
 have hb' : ∀ j, vb.ownBlock = some j → q + 1 ≤ j ∧ j < W.heap.size := fun j e => ⟨(hb j e).1, by obtain ⟨_, cs, hcs⟩ := hb j e; exact (Array.getElem?_eq_some_iff.1 hcs).1⟩
 have hsz := h.size
 have hK3 : ∀ b, b < w3.heap.size → b ≠ g → va.ownBlock ≠ some b → vb.ownBlock ≠ some b → w4.heap[b]? = w3.heap[b]? := HR.kept
 have hK : ∀ b, b < W.heap.size → b ≠ g → va.ownBlock ≠ some b → vb.ownBlock ≠ some b → w4.heap[b]? = W.heap[b]? := fun b h1 h2 h3 h4 => (hK3 b (by omega) h2 h3 h4).trans (hB.block b h1)
 have hlow : ∀ b, b ≤ q → b ≠ g → w4.heap[b]? = W.heap[b]? := fun b hb1 hb2 => hK b (by omega) hb2 (fun e => by have := (ha' b e).1; omega) (fun e => by have := (hb' b e).1; omega)
 have hrow4 : IRow 0 w4 (.slice (some ⟨gi, 0, none⟩) 17 17) vs := own_of_block h.row (hlow gi (by omega) (by omega))
 have hva' : ∀ j, va'.ownBlock = some j → q + 1 ≤ j ∧ (j < W.heap.size → va.ownBlock = some j) ∧ (j < w3.heap.size → j < W.heap.size) := fun j e => by
  rcases HR.na with e2 | ⟨g2, h2, e2⟩
  ·have := ha' j (e2.symm.trans e)
   exact ⟨this.1, fun _ => e2.symm.trans e, fun _ => this.2⟩
  ·rw [e2] at e
   injection e with e
   exact ⟨by omega, fun _ => by omega, fun _ => by omega⟩
 have hvb' : ∀ j, vb'.ownBlock = some j → q + 1 ≤ j ∧ (j < W.heap.size → vb.ownBlock = some j) ∧ (j < w3.heap.size → j < W.heap.size) := fun j e => by
  rcases HR.nb with e2 | ⟨g2, h2, e2⟩
  ·have := hb' j (e2.symm.trans e)
   exact ⟨this.1, fun _ => e2.symm.trans e, fun _ => this.2⟩
  ·rw [e2] at e
   injection e with e
   exact ⟨by omega, fun _ => by omega, fun _ => by omega⟩
 have hvl := h.lenv
 have hsplit : vs = vs.take y.h.toNat ++ [vs[y.h.toNat]'(by omega)] ++ vs.drop (y.h.toNat + 1) := by
  rw [List.append_assoc, List.singleton_append, List.getElem_cons_drop, List.take_append_drop]
 have hset : vs.set y.h.toNat u = vs.take y.h.toNat ++ [u] ++ vs.drop (y.h.toNat + 1) := by
  rw [List.set_eq_take_append_cons_drop, if_pos (by omega), List.append_assoc, List.singleton_append]
 have hput := own_put (vs := u.cells) (olds := (vs[y.h.toNat]'(by omega)).cells) (show w4.ownsRow 0 52 3 (.slice (some ⟨gi, 0, none⟩) 17 17) 17 (IvL vs) by have := hrow4; unfold IRow at this; rw [hvl] at this; exact this) (IvL (vs.take y.h.toNat)) (IvL (vs.drop (y.h.toNat + 1)))
  (by have := congrArg IvL hsplit; rw [IvL_app, IvL_app] at this; simpa [IvL] using this) rfl
 rw [IvL_len, show 3 * (vs.take y.h.toNat).length = y.h.toNat * 3 by rw [List.length_take]; omega] at hput
 obtain ⟨hrow5, hg5⟩ := hput
 have hth : w4.there gi (y.h.toNat * 3) 3 := own_there hrow4 _ _ (by omega)
 generalize hw5 : w4.setCells gi (y.h.toNat * 3) u.cells = w5 at *
 have hz5 := hg5.size
 have hK5 : ∀ b, b < w4.heap.size → b ≠ gi → w5.heap[b]? = w4.heap[b]? := fun b hb hn => hg5.block b hb (fun e => hn (by injection e))
 refine ⟨hth, ⟨by omega, fun b o ho hc => ?_⟩, ⟨by omega, fun j hj hjl => ?_⟩, ?_⟩
 ·have hbl := (Array.getElem?_eq_some_iff.1 ho).1
  have hcell : ∀ cs t fz, W.heap[b]? ≠ some (.cells cs t fz) := fun cs t fz e => by rw [ho] at e; injection e with e; subst e; cases hc
  have n1 : b ≠ g := fun e => by subst e; exact hcell _ _ _ h.node
  have n2 : b ≠ gi := fun e => by
   subst e
   obtain ⟨cs, t, fz, hcs⟩ := h.row.cells b rfl
   exact hcell _ _ _ hcs
  have n3 : va.ownBlock ≠ some b := fun e => by obtain ⟨_, cs, hcs⟩ := ha b e; exact hcell _ _ _ hcs
  have n4 : vb.ownBlock ≠ some b := fun e => by obtain ⟨_, cs, hcs⟩ := hb b e; exact hcell _ _ _ hcs
  exact (hK5 b (by omega) n2).trans ((hK b hbl n1 n3 n4).trans ho)
 ·exact (hK5 j (by omega) (by omega)).trans (hlow j (by omega) (by omega))
 ·refine ⟨HR.node.grown hg5 (fun e => by injection e with e; omega), ?_, ?_, ?_, ?_, ?_, by simp [h.len], by simpa using hvl, fun i z r hz hr => ?_, fun i x v hx hv => ?_, (((h.below.trans (hB.mono h.below.size)).trans HR.below).grown hg5 (by omega) fun j e => by injection e with e; omega), by omega⟩
  ·exact (show Blk w4 (g + 1) _ _ from (hlow (g + 1) (by omega) (by omega)).trans h.box).grown hg5 (fun e => by injection e with e; omega)
  ·unfold IRow
   rw [List.length_set, hvl, hset, IvL_app, IvL_app]
   simpa [IvL] using hrow5
  ·exact (show Blk w4 bx _ _ from (hlow bx (by omega) (by omega)).trans h.ibox).grown hg5 (fun e => by injection e with e; omega)
  ·have : LRow (q + 1) w4 va' ((pre.map fun y => [y.h]) ++ [[y.h]]) := own_lift HR.ra fun j e => (hva' j e).1
   rw [List.map_append]
   exact this.keep hg5 fun j hj e => by injection e with e; have := (hva' j hj).1; omega
  ·have : PRow (q + 1) w4 vb' (ps ++ [p]) := own_lift HR.rb fun j e => (hvb' j e).1
   exact World.ownsRow.kept this hg5 (by
    cases e : vb'.ownBlock with
    | none => exact .inl rfl
    | some j => exact .inr fun e2 => by injection e2 with e2; have := (hvb' j e).1; omega)
  ·by_cases hi : i < pre.length
   ·rw [List.getElem?_append_left hi] at hz
    rw [List.getElem?_append_left (by rw [h.len]; exact hi)] at hr
    exact (h.kids i z r hz hr).keep (by omega) fun b hb hl => ⟨⟨hb.1, fun e => hb.2.1 ((hva' b e).2.1 hl), fun e => hb.2.2 ((hvb' b e).2.1 hl)⟩, (hK5 b (by omega) (by have := hb.1; omega)).trans (hK b hl (by have := hb.1; omega) hb.2.1 hb.2.2)⟩
   ·have hi2 : i = pre.length := by
     have := (List.getElem?_eq_some_iff.1 hz).1
     simp at this
     omega
    subst hi2
    rw [List.getElem?_append_right (Nat.le_refl _), Nat.sub_self] at hz
    rw [← h.len, List.getElem?_append_right (Nat.le_refl _), Nat.sub_self] at hr
    simp at hz hr
    subst hz hr
    exact ht.keep (by omega) fun b hb hl => ⟨⟨by omega, fun e => by have := (hva' b e).2.2 hl; omega, fun e => by have := (hvb' b e).2.2 hl; omega⟩, (hK5 b (by omega) (by omega)).trans (hK3 b hl (by omega) (fun e => by have := (ha' b e).2; omega) (fun e => by have := (hb' b e).2; omega))⟩
  ·have hold : ∀ (x' : It), (brL k (pre.map Pt.run))[i]? = some x' → vs[i]? = some v → RepS (BrS q va' vb') w5 x' v := fun x' h1 h2 =>
    (h.items i x' v h1 h2).keep (by omega) fun b hb hl => ⟨⟨hb.1, fun e => hb.2.1 ((hva' b e).2.1 hl), fun e => hb.2.2 ((hvb' b e).2.1 hl)⟩, (hK5 b (by omega) (by have := hb.1; omega)).trans (hK b hl (by have := hb.1; omega) hb.2.1 hb.2.2)⟩
   by_cases he : y.h.toNat = i
   ·subst he
    rw [List.getElem?_set_self (by omega)] at hv
    injection hv with hv
    subst hv
    rcases brL_at _ _ _ _ hx with ⟨_, e⟩ | ⟨e, _⟩
    ·rw [List.map_append, List.map_singleton] at e
     rw [show Pt.run y = (y.h, behindP 1 y.m) from rfl, atC_snoc kecc (growP k) y.h (behindP 1 y.m) y.h.toNat (pre.map Pt.run) hlt, if_pos rfl] at e
     rw [e]
     exact RU.keep (by omega) fun b hb hl => ⟨⟨by omega, fun e => by have := (hva' b e).2.2 hl; omega, fun e => by have := (hvb' b e).2.2 hl; omega⟩, (hK5 b (by omega) (by omega)).trans (hK3 b hl (by omega) (fun e => by have := (ha' b e).2; omega) (fun e => by have := (hb' b e).2; omega))⟩
    ·omega
   ·rw [List.getElem?_set_ne he] at hv
    rcases brL_at _ _ _ _ hx with ⟨hi, e⟩ | ⟨hi, e⟩
    ·rw [List.map_append, List.map_singleton] at e
     rw [show Pt.run y = (y.h, behindP 1 y.m) from rfl, atC_snoc kecc (growP k) y.h (behindP 1 y.m) i (pre.map Pt.run) hlt, if_neg he] at e
     refine hold x ?_ hv
     unfold brL
     rw [List.getElem?_append_left (by simpa using hi)]
     simp [hi, e]
    ·refine hold x ?_ hv
     subst hi e
     unfold brL
     simp
end Go.Proofs.YthhlbdgladhdkaaGreatDoor
end
