/- Plain laws and walks, each by its own conditions. -/
import Derived.Test.YtegaaccioppfjaaGreatDoorFt21
import Derived.Test.YtegaaccioppfjaaGreatDoorFt15
import Derived.Test.YtegaaccioppfjaaGreatDoorFt9
import Derived.Test.YtegaaccioppfjaaGreatDoorFt18
import Derived.Test.YtegaaccioppfjaaGreatDoorFt20
import Derived.Deep.CutBlock
import Derived.Deep.DeepCutAuto
import Derived.Laws.Tables
set_option linter.unusedSimpArgs false
set_option linter.unusedVariables false
set_option maxRecDepth 100000
set_option maxHeartbeats 16000000
section
namespace Go.Proofs.YtegaaccioppfjaaGreatDoor
open BigFrame Go.RowKit Go.Phx Go.Shelf
attribute [local go_sem] Oper.semAt_some

theorem equal_calls (A B : Option Addr) (c d : Nat) (L M : List Bytes) (hL : L.length ≤ 9223372036854775807) (hM : M.length ≤ 9223372036854775807) (w : World) (h1 : Txts w A L) (h2 : Txts w B M) :
  Calls Tryz.prog 162 #[.slice A L.length c, .slice B M.length d] w (Ret w (.bool (L == M))) := by
 rw [show (L == M) = decide (L = M) by rw [Bool.eq_iff_iff]; simp]
 by_cases hlen : L.length = M.length
 ·have e1 : (L.length : Int) = M.length := by omega
  go_enter Tryz.func162, Tryz.ntmps162
  go_wp2_with fail
  go_loopw [13] (fun i wr => Below w.heap.size w wr ∧ ∃ k : Nat, k ≤ L.length ∧ i = .int .i64 k ∧ L.take k = M.take k) (fun i _ => (L.length - intOf i).toNat)
  case atStart => exact ⟨Below.refl _ _, 0, by omega, rfl, rfl⟩
  case round =>
   obtain ⟨HB, k, hk, rfl, heq⟩ := hrel
   replace h1 : Txts wr A L := Strs.below h1 HB
   replace h2 : Txts wr B M := Strs.below h2 HB
   by_cases hlt : k < L.length
   ·obtain ⟨b1, o1, rfl, hb1, hc1⟩ := h1.at k hlt
    obtain ⟨b2, o2, rfl, hb2, hc2⟩ := h2.at k (by omega)
    have hst : L.getD k [] = M.getD k [] → L.take (k + 1) = M.take (k + 1) := fun h => by
     rw [List.take_add_one (l := L), List.take_add_one (l := M), heq, List.getElem?_eq_getElem hlt, List.getElem?_eq_getElem (show k < M.length by omega)]
     rw [List.getD, List.getD, List.getElem?_eq_getElem hlt, List.getElem?_eq_getElem (show k < M.length by omega)] at h
     have h' : L[k] = M[k] := by simpa using h
     rw [h']
    have hno : L.getD k [] ≠ M.getD k [] → L ≠ M := fun h e => h (by rw [e])
    generalize L.getD k [] = x at *
    generalize M.getD k [] = y at *
    clear h1 h2 heq
    by_cases hxy : x = y
    ·subst hxy
     have HS := Lib.hid (hst rfl)
     clear hst hno
     go_wp2_with fail
     go_region
     go_wp2_with fail
     go_roundw
     case rel => exact ⟨HB.drew, k + 1, by omega, by go_num, HS.out⟩
     case measure => simp [intOf]; omega
    ·have HN := Lib.hid (hno hxy)
     have hne : (x == y) = false := by simpa using hxy
     clear hst hno
     go_wp2_with fail
     go_region
     go_wp2_with fail
     go_ret
     exact ⟨by simp [HN.out], HB.drew⟩
   ·obtain rfl : k = L.length := by omega
    rw [List.take_of_length_le (Nat.le_refl _), List.take_of_length_le (by omega)] at heq
    subst heq
    go_wp2_with fail
    go_ret
    exact ⟨by simp, HB⟩
 ·have e1 : ¬ (L.length : Int) = M.length := by omega
  have e2 : L ≠ M := fun h => hlen (by rw [h])
  go_enter Tryz.func162, Tryz.ntmps162
  go_wp2_with fail
  go_ret
  exact ⟨by simp [e2], Below.refl _ _⟩
theorem lsame_calls (a b : Cm) (w : World) (ha : CmIn w a) (hb : CmIn w b) : Calls Tryz.prog 118 #[cmV a, cmV b] w (Ret w (.bool (sameCm a b))) := by
 have n1 := fun W (hB : Below w.heap.size w W) => equal_calls a.ks.addr b.ks.addr a.ks.cap b.ks.cap a.ks.l b.ks.l (by have := ha.1.2.2.1; omega) (by have := hb.1.2.2.1; omega) W (Txts.below ha.1.1 hB) (Txts.below hb.1.1 hB)
 have K0 := Lib.hid ((Blk.new0 w 31 (cmA a)).alloc (.cells (cmA b) 31))
 have K1 := Lib.hid (Blk.new1 w (.cells (cmA a) 31) 31 (cmA b))
 unfold sameCm
 generalize (a.ks.l == b.ks.l) = r at *
 replace n1 := Lib.hid n1
 clear ha hb
 by_cases he : a.sum = b.sum
 ·have e1 : (a.sum == b.sum) = true := by simpa using he
  rw [e1]
  go_enter Tryz.func118, Tryz.ntmps118
  go_wp2_with fail
  refine (n1.out _ bel).mono ?_
  rintro e w1 ⟨rfl, h1⟩
  go_wp2_with fail
  go_ret
  exact ⟨rfl, Below.on h1 bel⟩
 ·have e1 : (a.sum == b.sum) = false := by simpa using he
  rw [e1]
  go_enter Tryz.func118, Tryz.ntmps118
  go_wp2_with fail
  go_ret
  exact ⟨rfl, bel⟩
theorem text_calls (h : Hd) (slot : Nat) (w : World) (hk : HasK w) (hh : HdIn w h) (hs : slot < 18446744073709551616) : Calls Tryz.prog 123 #[hdV h, .int .u64 slot] w (Ret w (.string (bs (textP h slot)))) := by
 have n1 := fun W (hB : Below w.heap.size w W) => hroot_calls h W (hk.on hB) (hh.below hB)
 obtain ⟨m, hm⟩ : ∃ m, max slot 1 = m := ⟨_, rfl⟩
 have e1 : max (slot : Int) 1 = (m : Int) := by omega
 have hm1 : 1 ≤ m := by omega
 have hm2 : m < 18446744073709551616 := by omega
 obtain ⟨q, hq⟩ : ∃ q, (m - 1) / 128 = q := ⟨_, rfl⟩
 have e2 : ((m : Int) - 1) / 128 = (q : Int) := by omega
 have hq2 : q < 18446744073709551616 := by omega
 obtain ⟨f, hf⟩ : ∃ f, min 2 q = f := ⟨_, rfl⟩
 have e3 : min 2 (q : Int) = (f : Int) := by omega
 have hf2 : f ≤ 2 := by omega
 have ht : textP h slot = sha (hdRoot h ++ numP (7 + f)) := by
  unfold textP forkP
  rw [hm, hq, hf]
 rw [ht]
 have n2 : ∀ W, Calls Tryz.prog 100 #[.int .u64 (7 + (f : Int))] W (Ret W (.string (bs (numP (7 + f))))) := fun W => by
  have := number_calls (7 + f) (by omega) W
  simpa using this
 have hl1 := hdRoot_len h
 have hl2 := numP_len (7 + f)
 have n3 := fun W (hB : Below w.heap.size w W) => sum2_calls (hdRoot h) (numP (7 + f)) (by omega) (by omega) W.heap.size (W.alloc (.cells #[.string (bs (hdRoot h)), .string (bs (numP (7 + f)))] 9)) (hk.on (hB.alloc hB.size _)) (strs2 W _ _)
 generalize hdRoot h = r at *
 generalize hdE h = z at *
 generalize numP (7 + f) = y at *
 have K0 := Lib.hid (Blk.new0 w 24 (hdA h))
 replace n1 := Lib.hid n1
 replace n2 := Lib.hid n2
 replace n3 := Lib.hid n3
 clear ht hm hq hf hk hh hs hl1 hl2
 go_enter Tryz.func123, Tryz.ntmps123
 go_wp2_with fail
 refine (n1.out _ bel).mono ?_
 rintro e w1 ⟨rfl, h1⟩
 have hB1 : Below w.heap.size w w1 := Below.on h1 bel
 clear h1
 go_wp2_with fail
 refine (n2.out _).mono ?_
 rintro e w2 ⟨rfl, h2⟩
 have hB2 := Below.on h2 hB1
 clear h2 hB1
 go_wp2_with fail
 refine (n3.out _ hB2).mono ?_
 rintro e w3 ⟨rfl, h3⟩
 go_wp2_with fail
 go_ret
 exact ⟨rfl, Below.on h3 (hB2.alloc hB2.size _)⟩
theorem under_calls (root : Bytes) (br : Rw) (leaf : Nat) (state : Bytes) (w : World) (hk : HasK w) (hr : root.length ≤ 1048576) (hs : state.length ≤ 1048576) (hl : leaf < 18446744073709551616) (hb : RwIn w br) :
  Calls Tryz.prog 69 #[.string (bs root), rwV br, .int .u64 leaf, .string (bs state)] w (Ret w (.bool (underP root br.l leaf state))) := by
 have n1 := check_calls root br.addr br.cap br.l leaf state (by omega) (by omega) (by have := hb.2.2.1; omega) hl (fun y hy => by have := hb.2.2.2 y hy; omega) w hk hb.1
 unfold underP
 unfold rwV
 generalize decide (CheckP root br.l leaf state) = r at *
 by_cases he : br.l.length = 3
 ·have e1 : ((br.l.length : Int) == 3) = true := by rw [he]; rfl
  rw [decide_eq_true he]
  replace n1 := Lib.hid n1
  clear he hb hk
  go_enter Tryz.func69, Tryz.ntmps69
  go_wp2_with fail
  refine n1.out.mono ?_
  rintro e w1 ⟨rfl, h1⟩
  go_wp2_with fail
  go_ret
  exact ⟨rfl, h1⟩
 ·have e1 : ((br.l.length : Int) == 3) = false := by simp; omega
  rw [decide_eq_false he]
  replace n1 := Lib.hid n1
  clear he hb hk
  go_enter Tryz.func69, Tryz.ntmps69
  go_wp2_with fail
  go_ret
  exact ⟨rfl, Below.refl _ _⟩
def orE (a b c : Int) : Int := if a ≠ 0 then a else if b ≠ 0 then b else c
theorem or_calls (a b c : Int) (w : World) (g : Nat) (t : TypeId) (K : Blk w g t #[.int .i64 a, .int .i64 b, .int .i64 c]) : Calls Tryz.prog 57 #[.slice (some ⟨g, 0, none⟩) 3 3] w (fun e w' => e = .returned (.int .i64 (orE a b c)) ∧ w' = w) := by
 have k0 := K.cell 0
 have k1 := K.cell 1
 have k2 := K.cell 2
 replace k0 : w.cell? ⟨g, 0, none⟩ = some (.int .i64 a) := k0
 replace k1 : w.cell? ⟨g, 1, none⟩ = some (.int .i64 b) := k1
 replace k2 : w.cell? ⟨g, 2, none⟩ = some (.int .i64 c) := k2
 clear K
 unfold orE
 have key : ∀ r1 r2 r3 : Bool, (a == 0) = r1 → (b == 0) = r2 → (c == 0) = r3 → Calls Tryz.prog 57 #[.slice (some ⟨g, 0, none⟩) 3 3] w (fun e w' => e = .returned (.int .i64 (if r1 = false then a else if r2 = false then b else c)) ∧ w' = w) := fun r1 r2 r3 e1 e2 e3 => by
  cases r1 <;> cases r2 <;> cases r3
  all_goals
   go_enter Tryz.func57, Tryz.ntmps57
   go_wp2_with fail
   refine wp_loop_rounds 4 ?_
   iterate 4 (try (rw [rounds_succ]; go_wp2_with fail))
   go_ret
   simp_all
 have := key _ _ _ rfl rfl rfl
 simpa using this
theorem period_q (n : Nat) (hn : n < 18446744073709551616) (w : World) : Calls Tryz.prog 82 #[.int .u64 n] w (fun e w' => e = .returned (.int .u64 (period n : Nat)) ∧ w = w') :=
 (period_calls n hn w).mono fun e w' h => ⟨h.1, h.2.symm⟩
def TkW (w : World) (g : Nat) (s : Sr) (u : Up) (wx : World) : Prop := Blk wx g 35 (srA s) ∧ Blk wx (g + 1) 33 (upA u) ∧ Blk wx (g + 1 + 1) 35 (srA Sr.zero) ∧ Below w.heap.size w wx
theorem TkW.mk {w wx : World} {g : Nat} {s s' : Sr} {u : Up} (e : s' = s) (h0 : Blk wx g 35 (srA s')) (h1 : Blk wx (g + 1) 33 (upA u)) (h2 : Blk wx (g + 1 + 1) 35 (srA Sr.zero)) (hB : Below w.heap.size w wx) : TkW w g s u wx := by
 subst e
 exact ⟨h0, h1, h2, hB⟩
theorem lgtake_calls (s : Sr) (u : Up) (h1 : s.fin.b.slot < 18446744073709551616) (h2 : u.fin.b.slot < 18446744073709551616) (w : World) : Calls Tryz.prog 67 #[srV s, upV u] w (Ret w (srV (clearP (takeP s u)))) := by
 have ht1 : ∀ r b : Bool, knownP s.next = r → decide (period s.fin.b.slot = period u.fin.b.slot) = b → r = false → takeP1 s u = if b then { s with next := u.next } else s := fun r b e1 e2 e3 => by
  unfold takeP1
  rw [e1, e3, ← e2]
  simp
 have ht2 : ∀ r b : Bool, knownP s.next = r → decide (period s.fin.b.slot + 1 = period u.fin.b.slot) = b → r = true → takeP1 s u = if b then { s with now := s.next, next := u.next, last := s.this, this := 0 } else s := fun r b e1 e2 e3 => by
  unfold takeP1
  rw [e1, e3, ← e2]
  simp
 have hpl : period s.fin.b.slot < 18446744073709551615 := by unfold period; omega
 have hfin := take1_fin s u
 have hnew := take1_new s u
 obtain ⟨t, ht⟩ : ∃ t, takeP1 s u = t := ⟨_, rfl⟩
 have hfinal : takeP s u = takeP2 t u := by unfold takeP; rw [ht]
 rw [ht] at ht1 ht2 hfin hnew
 replace hfinal := Lib.hid hfinal
 replace ht := Lib.hid ht
 replace hfin := Lib.hid hfin
 replace hnew := Lib.hid hnew
 go_enter Tryz.func67, Tryz.ntmps67
 go_wp2_with fail
 have HB : Below w.heap.size w (((w.alloc (.cells (srA s) 35)).alloc (.cells (upA u) 33)).alloc (.cells (srA Sr.zero) 35)) := bel
 have K0 := ((Blk.new0 w 35 (srA s)).alloc (.cells (upA u) 33)).alloc (.cells (srA Sr.zero) 35)
 have K1 := (Blk.new1 w (.cells (srA s) 35) 33 (upA u)).alloc (.cells (srA Sr.zero) 35)
 have K2 := Blk.new2 w (.cells (srA s) 35) (.cells (upA u) 33) 35 (srA Sr.zero)
 obtain ⟨W, hW⟩ : ∃ W, (((w.alloc (.cells (srA s) 35)).alloc (.cells (upA u) 33)).alloc (.cells (srA Sr.zero) 35)) = W := ⟨_, rfl⟩
 rw [hW] at HB K0 K1 K2 ⊢
 clear hW
 have hgl : w.heap.size ≤ w.heap.size := Nat.le_refl _
 obtain ⟨g, hg⟩ : ∃ g, w.heap.size = g := ⟨_, rfl⟩
 rw [hg] at K0 K1 K2 ⊢
 replace hgl : w.heap.size ≤ g := by omega
 replace K0 := Lib.hid K0
 replace K1 := Lib.hid K1
 replace K2 := Lib.hid K2
 clear hg
 have n1 := fun W => period_q s.fin.b.slot h1 W
 have n2 := fun W => period_q u.fin.b.slot h2 W
 (obtain ⟨k0, f0, l0, m0⟩ := rl_ K0; obtain ⟨k1, f1, l1, m1⟩ := rl_ K1; obtain ⟨k2, f2, l2, m2⟩ := rl_ K2)
 generalize period s.fin.b.slot = p1 at *
 generalize period u.fin.b.slot = p2 at *
 replace n1 := Lib.hid n1
 replace n2 := Lib.hid n2
 replace ht1 := Lib.hid ht1
 replace ht2 := Lib.hid ht2
 go_quiet ((first | (go_at_call 82; exact qs (n1.out _)) | (go_at_call 82; exact qs (n2.out _))))
 generalize hWN : W.drewN nq = W1
 have N0 := Lib.hid (show Blk W1 g _ _ by rw [← hWN]; exact K0.out.drewN _)
 have N1 := Lib.hid (show Blk W1 (g + 1) _ _ by rw [← hWN]; exact K1.out.drewN _)
 have N2 := Lib.hid (show Blk W1 (g + 1 + 1) _ _ by rw [← hWN]; exact K2.out.drewN _)
 have HBn : Below w.heap.size w W1 := by rw [← hWN]; exact bel
 clear hWN k0 f0 l0 m0 k1 f1 l1 m1 k2 f2 l2 m2 K0 K1 K2 HB n1 n2
 have K0 := N0; have K1 := N1; have K2 := N2; have HB := HBn
 clear N0 N1 N2 HBn
 (obtain ⟨k0, f0, l0, m0⟩ := rl_ K0; obtain ⟨k1, f1, l1, m1⟩ := rl_ K1; obtain ⟨k2, f2, l2, m2⟩ := rl_ K2)
 have n3 := fun W => known_calls s.next W
 obtain ⟨r, hr⟩ : ∃ r, knownP s.next = r := ⟨_, rfl⟩
 have ht3 := Lib.hid (ht1.out r _ hr rfl)
 have ht4 := Lib.hid (ht2.out r _ hr rfl)
 rw [hr] at n3
 clear ht1 ht2 hr
 replace n3 := Lib.hid n3
 have hu := h2
 clear h1 h2
 go_upto_block 0 with fail
 go_cut [] (fun wx => TkW w g t u wx)
 case first =>
  go_wp2_with fail
  (refine (n3.out _).mono ?_; rintro e w2 ⟨rfl, hN⟩; replace K0 := hn_ K0 hN; replace K1 := hn_ K1 hN; replace K2 := hn_ K2 hN; replace HB : Below w.heap.size w w2 := Below.on hN HB; clear hN k0 f0 l0 m0 k1 f1 l1 m1 k2 f2 l2 m2; obtain ⟨k0, f0, l0, m0⟩ := rl_ K0; obtain ⟨k1, f1, l1, m1⟩ := rl_ K1; obtain ⟨k2, f2, l2, m2⟩ := rl_ K2)
  cases r with
  | false =>
   have ht5 := ht3.out rfl
   clear ht3 ht4
   by_cases he : p1 = p2
   ·subst he
    rw [decide_eq_true rfl, if_pos rfl] at ht5
    replace ht5 := Lib.hid ht5
    (go_wp2_with (first | (with_reducible refine wsh (stSr_next _ K0.out (u.next)) rfl rfl ?_)); generalize hWN : setRow _ _ _ _ = WN; replace K0 := Lib.hid (show Blk WN _ _ _ by rw [← hWN]; exact Blk.row K0.out.lt); replace K1 := Lib.hid (show Blk WN _ _ _ by rw [← hWN]; exact Blk.rowOver (by omega) K1.out); replace K2 := Lib.hid (show Blk WN _ _ _ by rw [← hWN]; exact Blk.rowOver (by omega) K2.out); replace HB : Below w.heap.size w WN := (by rw [← hWN]; exact Below.row HB (by omega) HB.size); clear hWN k0 f0 l0 m0 k1 f1 l1 m1 k2 f2 l2 m2; obtain ⟨k0, f0, l0, m0⟩ := rl_ K0; obtain ⟨k1, f1, l1, m1⟩ := rl_ K1; obtain ⟨k2, f2, l2, m2⟩ := rl_ K2; unfold Halted)
    go_wp2_with fail
    go_meet
    case rel => exact TkW.mk ht5.out.symm K0.out K1.out K2.out HB
   ·rw [decide_eq_false he, if_neg (by simp)] at ht5
    replace ht5 := Lib.hid ht5
    have he2 : ((p1 : Int) == (p2 : Int)) = false := by simp; omega
    clear he
    go_wp2_with fail
    (refine (n3.out _).mono ?_; rintro e w3 ⟨rfl, hN⟩; replace K0 := hn_ K0 hN; replace K1 := hn_ K1 hN; replace K2 := hn_ K2 hN; replace HB : Below w.heap.size w w3 := Below.on hN HB; clear hN k0 f0 l0 m0 k1 f1 l1 m1 k2 f2 l2 m2; obtain ⟨k0, f0, l0, m0⟩ := rl_ K0; obtain ⟨k1, f1, l1, m1⟩ := rl_ K1; obtain ⟨k2, f2, l2, m2⟩ := rl_ K2)
    go_wp2_with fail
    go_meet
    case rel => exact TkW.mk ht5.out.symm K0.out K1.out K2.out HB
  | true =>
   have ht5 := ht4.out rfl
   clear ht3 ht4
   go_wp2_with fail
   (refine (n3.out _).mono ?_; rintro e w3 ⟨rfl, hN⟩; replace K0 := hn_ K0 hN; replace K1 := hn_ K1 hN; replace K2 := hn_ K2 hN; replace HB : Below w.heap.size w w3 := Below.on hN HB; clear hN k0 f0 l0 m0 k1 f1 l1 m1 k2 f2 l2 m2; obtain ⟨k0, f0, l0, m0⟩ := rl_ K0; obtain ⟨k1, f1, l1, m1⟩ := rl_ K1; obtain ⟨k2, f2, l2, m2⟩ := rl_ K2)
   by_cases he : p1 + 1 = p2
   ·subst he
    rw [decide_eq_true rfl, if_pos rfl] at ht5
    replace ht5 := Lib.hid ht5
    go_wp2_with fail
    have hwf : ∀ f, Fence.wide.fn f := fun _ => trivial
    refine (wpIn_wide (n := 9)).1 ?_
    refine wpIn_round_held (fun w' => Blk w' (g + 1) 33 (upA u) ∧ w'.rangeAt g 20 (cmC s.next)) (fun j => !decide (j ∈ [7])) (by kernel_rfl) ?_
    have hS0 : (fun w' => Blk w' (g + 1) 33 (upA u) ∧ w'.rangeAt g 20 (cmC s.next)) w3.drew := ⟨K1.out.drew, Blk.part (K0.out.drew) (pre := ltC s.fin ++ ltC s.new ++ cmC s.now) (mid := cmC s.next) (post := upC s.best ++ [.bool s.has] ++ [.int .i64 s.last] ++ [.int .i64 s.this] ++ [.bool s.forced]) (by kernel_rfl) (by kernel_rfl)⟩
    refine S_tg 0 (.pointer (some ⟨g, 20, none⟩)) rfl hS0 ?_
    refine S_tk 1 (cmV s.next) rfl hS0 (fun w' hw => by exact exec_load rfl (by kernel_rfl) (run_loadAt_mid _ g 20 _ _ _ hw.2 Tryz.underlying31 rfl sizeCm)) ?_
    refine S_tg 2 (.pointer (some ⟨(g + 1), 9, none⟩)) rfl hS0 ?_
    refine S_tk 3 (cmV u.next) rfl hS0 (fun w' hw => by exact exec_load rfl (by kernel_rfl) (ldUp_next u hw.1)) ?_
    refine S_tg 4 (.pointer (some ⟨g, 18, none⟩)) rfl hS0 ?_
    have hS1 : (fun w' => Blk w' (g + 1) 33 (upA u) ∧ w'.rangeAt g 20 (cmC s.next)) (setRow w3.drew g 35 (srA { s with now := s.next })) := ⟨Blk.rowOver (by omega) K1.out.drew, Blk.part (Blk.row (w := w3.drew) K0.out.lt) (pre := ltC s.fin ++ ltC s.new ++ cmC s.next) (mid := cmC s.next) (post := upC s.best ++ [.bool s.has] ++ [.int .i64 s.last] ++ [.int .i64 s.this] ++ [.bool s.forced]) (by kernel_rfl) (by kernel_rfl)⟩
    clear hS0
    have hS0 := hS1
    clear hS1
    refine S_store 5 (fun _ => trivial) (by kernel_rfl) (by kernel_rfl) rfl (by kernel_rfl) (setRow w3.drew g 35 (srA { s with now := s.next })) (exec_store _ _ rfl (by kernel_rfl) (by kernel_rfl) (stSr_now s K0.out.drew s.next)) (fun _ => hS0) ?_
    refine S_tg 6 (.pointer (some ⟨g, 20, none⟩)) rfl hS0 ?_
    refine S_store 7 (fun _ => trivial) (by kernel_rfl) (by kernel_rfl) rfl (by kernel_rfl) (setRow (setRow w3.drew g 35 (srA { s with now := s.next })) g 35 (srA { s with now := s.next, next := u.next })) (exec_store _ _ rfl (by kernel_rfl) (by kernel_rfl) (stSr_next { s with now := s.next } (Blk.row (w := w3.drew) K0.out.lt) u.next)) (fun h => absurd h (by decide)) ?_
    refine ⟨by kernel_rfl, rfl, ?_⟩
    generalize hWN : setRow (setRow w3.drew _ _ _) _ _ _ = WN
    have N0 := Lib.hid (show Blk WN g 35 (srA { s with now := s.next, next := u.next }) by rw [← hWN]; exact Blk.row (by rw [size_row]; exact l0))
    have N1 := Lib.hid (show Blk WN (g + 1) _ _ by rw [← hWN]; exact Blk.rowOver (by omega) (Blk.rowOver (by omega) K1.out.drew))
    have N2 := Lib.hid (show Blk WN (g + 1 + 1) _ _ by rw [← hWN]; exact Blk.rowOver (by omega) (Blk.rowOver (by omega) K2.out.drew))
    have HBn : Below w.heap.size w WN := by rw [← hWN]; exact Below.row (Below.row HB.drew hgl HB.size) hgl (by rw [size_row]; exact HB.size)
    clear hS0 hWN hwf k0 f0 l0 m0 k1 f1 l1 m1 k2 f2 l2 m2 K0 K1 K2 HB
    have K0 := N0; have K1 := N1; have K2 := N2; have HB := HBn
    clear N0 N1 N2 HBn
    (obtain ⟨k0, f0, l0, m0⟩ := rl_ K0; obtain ⟨k1, f1, l1, m1⟩ := rl_ K1; obtain ⟨k2, f2, l2, m2⟩ := rl_ K2)
    (go_wp2_with (first | (with_reducible refine wsh (stcSr_last _ K0.out (s.this)) rfl rfl ?_)); generalize hWN : setRow _ _ _ _ = WN; replace K0 := Lib.hid (show Blk WN _ _ _ by rw [← hWN]; exact Blk.row K0.out.lt); replace K1 := Lib.hid (show Blk WN _ _ _ by rw [← hWN]; exact Blk.rowOver (by omega) K1.out); replace K2 := Lib.hid (show Blk WN _ _ _ by rw [← hWN]; exact Blk.rowOver (by omega) K2.out); replace HB : Below w.heap.size w WN := (by rw [← hWN]; exact Below.row HB (by omega) HB.size); clear hWN k0 f0 l0 m0 k1 f1 l1 m1 k2 f2 l2 m2; obtain ⟨k0, f0, l0, m0⟩ := rl_ K0; obtain ⟨k1, f1, l1, m1⟩ := rl_ K1; obtain ⟨k2, f2, l2, m2⟩ := rl_ K2; unfold Halted)
    (go_wp2_with (first | (with_reducible refine wsh (stcSr_this _ K0.out (0)) rfl rfl ?_)); generalize hWN : setRow _ _ _ _ = WN; replace K0 := Lib.hid (show Blk WN _ _ _ by rw [← hWN]; exact Blk.row K0.out.lt); replace K1 := Lib.hid (show Blk WN _ _ _ by rw [← hWN]; exact Blk.rowOver (by omega) K1.out); replace K2 := Lib.hid (show Blk WN _ _ _ by rw [← hWN]; exact Blk.rowOver (by omega) K2.out); replace HB : Below w.heap.size w WN := (by rw [← hWN]; exact Below.row HB (by omega) HB.size); clear hWN k0 f0 l0 m0 k1 f1 l1 m1 k2 f2 l2 m2; obtain ⟨k0, f0, l0, m0⟩ := rl_ K0; obtain ⟨k1, f1, l1, m1⟩ := rl_ K1; obtain ⟨k2, f2, l2, m2⟩ := rl_ K2; unfold Halted)
    go_wp2_with fail
    go_meet
    case rel => exact TkW.mk ht5.out.symm K0.out K1.out K2.out HB
   ·rw [decide_eq_false he, if_neg (by simp)] at ht5
    replace ht5 := Lib.hid ht5
    have he2 : ((p1 : Int) + 1 == (p2 : Int)) = false := by simp; omega
    clear he
    go_wp2_with fail
    go_meet
    case rel => exact TkW.mk ht5.out.symm K0.out K1.out K2.out HB
 case rest =>
  obtain ⟨j0, j1, j2, HBn⟩ := hcut
  replace j0 := Lib.hid j0
  replace j1 := Lib.hid j1
  replace j2 := Lib.hid j2
  clear k0 f0 l0 m0 k1 f1 l1 m1 k2 f2 l2 m2 K0 K1 K2 HB n3 ht3 ht4
  have K0 := j0; have K1 := j1; have K2 := j2; have HB := HBn
  clear j0 j1 j2 HBn
  (obtain ⟨k0, f0, l0, m0⟩ := rl_ K0; obtain ⟨k1, f1, l1, m1⟩ := rl_ K1; obtain ⟨k2, f2, l2, m2⟩ := rl_ K2)
  by_cases hf : t.fin.b.slot < u.fin.b.slot
  ·have hf2 : (t.fin.b.slot : Int) < (u.fin.b.slot : Int) := by omega
   by_cases hn : t.new.b.slot < u.fin.b.slot
   ·have e2 := Lib.hid (show takeP2 t u = { t with fin := u.fin, new := u.fin } by unfold takeP2; rw [if_pos hf, if_pos hn])
    have hn2 : (t.new.b.slot : Int) < (u.fin.b.slot : Int) := by omega
    clear hf hn
    (go_wp2_with (first | (with_reducible refine wsh (stSr_fin _ K0.out (u.fin)) rfl rfl ?_)); generalize hWN : setRow _ _ _ _ = WN; replace K0 := Lib.hid (show Blk WN _ _ _ by rw [← hWN]; exact Blk.row K0.out.lt); replace K1 := Lib.hid (show Blk WN _ _ _ by rw [← hWN]; exact Blk.rowOver (by omega) K1.out); replace K2 := Lib.hid (show Blk WN _ _ _ by rw [← hWN]; exact Blk.rowOver (by omega) K2.out); replace HB : Below w.heap.size w WN := (by rw [← hWN]; exact Below.row HB (by omega) HB.size); clear hWN k0 f0 l0 m0 k1 f1 l1 m1 k2 f2 l2 m2; obtain ⟨k0, f0, l0, m0⟩ := rl_ K0; obtain ⟨k1, f1, l1, m1⟩ := rl_ K1; obtain ⟨k2, f2, l2, m2⟩ := rl_ K2; unfold Halted)
    (go_wp2_with (first | (with_reducible refine wsh (stSr_new _ K0.out (u.fin)) rfl rfl ?_)); generalize hWN : setRow _ _ _ _ = WN; replace K0 := Lib.hid (show Blk WN _ _ _ by rw [← hWN]; exact Blk.row K0.out.lt); replace K1 := Lib.hid (show Blk WN _ _ _ by rw [← hWN]; exact Blk.rowOver (by omega) K1.out); replace K2 := Lib.hid (show Blk WN _ _ _ by rw [← hWN]; exact Blk.rowOver (by omega) K2.out); replace HB : Below w.heap.size w WN := (by rw [← hWN]; exact Below.row HB (by omega) HB.size); clear hWN k0 f0 l0 m0 k1 f1 l1 m1 k2 f2 l2 m2; obtain ⟨k0, f0, l0, m0⟩ := rl_ K0; obtain ⟨k1, f1, l1, m1⟩ := rl_ K1; obtain ⟨k2, f2, l2, m2⟩ := rl_ K2; unfold Halted)
    (go_wp2_with (first | (with_reducible refine wsh (stSr_best _ K0.out (Up.zero)) rfl rfl ?_)); generalize hWN : setRow _ _ _ _ = WN; replace K0 := Lib.hid (show Blk WN _ _ _ by rw [← hWN]; exact Blk.row K0.out.lt); replace K1 := Lib.hid (show Blk WN _ _ _ by rw [← hWN]; exact Blk.rowOver (by omega) K1.out); replace K2 := Lib.hid (show Blk WN _ _ _ by rw [← hWN]; exact Blk.rowOver (by omega) K2.out); replace HB : Below w.heap.size w WN := (by rw [← hWN]; exact Below.row HB (by omega) HB.size); clear hWN k0 f0 l0 m0 k1 f1 l1 m1 k2 f2 l2 m2; obtain ⟨k0, f0, l0, m0⟩ := rl_ K0; obtain ⟨k1, f1, l1, m1⟩ := rl_ K1; obtain ⟨k2, f2, l2, m2⟩ := rl_ K2; unfold Halted)
    (go_wp2_with (first | (with_reducible refine wsh (stcSr_has _ K0.out (false)) rfl rfl ?_)); generalize hWN : setRow _ _ _ _ = WN; replace K0 := Lib.hid (show Blk WN _ _ _ by rw [← hWN]; exact Blk.row K0.out.lt); replace K1 := Lib.hid (show Blk WN _ _ _ by rw [← hWN]; exact Blk.rowOver (by omega) K1.out); replace K2 := Lib.hid (show Blk WN _ _ _ by rw [← hWN]; exact Blk.rowOver (by omega) K2.out); replace HB : Below w.heap.size w WN := (by rw [← hWN]; exact Below.row HB (by omega) HB.size); clear hWN k0 f0 l0 m0 k1 f1 l1 m1 k2 f2 l2 m2; obtain ⟨k0, f0, l0, m0⟩ := rl_ K0; obtain ⟨k1, f1, l1, m1⟩ := rl_ K1; obtain ⟨k2, f2, l2, m2⟩ := rl_ K2; unfold Halted)
    (go_wp2_with (first | (with_reducible refine wlr (ldSr _ K0.out) rfl ?_) | (with_reducible refine wlg (ldSr _ K0.out) (by with_unfolding_all rfl) rfl ?_) | (with_reducible refine wsh (stSr _ K2.out (clearP { t with fin := u.fin, new := u.fin })) rfl rfl ?_)); generalize hWN : setRow _ _ _ _ = WN; replace K2 := Lib.hid (show Blk WN _ _ _ by rw [← hWN]; exact Blk.row K2.out.lt); replace K0 := Lib.hid (show Blk WN _ _ _ by rw [← hWN]; exact Blk.rowOver (by omega) K0.out); replace K1 := Lib.hid (show Blk WN _ _ _ by rw [← hWN]; exact Blk.rowOver (by omega) K1.out); replace HB : Below w.heap.size w WN := (by rw [← hWN]; exact Below.row HB (by omega) HB.size); clear hWN k2 f2 l2 m2 k0 f0 l0 m0 k1 f1 l1 m1; obtain ⟨k2, f2, l2, m2⟩ := rl_ K2; obtain ⟨k0, f0, l0, m0⟩ := rl_ K0; obtain ⟨k1, f1, l1, m1⟩ := rl_ K1; unfold Halted)
    go_wp2_with fail
    exact bodyPost_ret (results_cell rfl rfl (ldSr _ K2.out)) rfl ⟨by rw [hfinal.out, e2.out], HB⟩
   ·have e2 := Lib.hid (show takeP2 t u = { t with fin := u.fin } by unfold takeP2; rw [if_pos hf, if_neg hn])
    have hn2 : ¬ (t.new.b.slot : Int) < (u.fin.b.slot : Int) := by omega
    clear hf hn
    (go_wp2_with (first | (with_reducible refine wsh (stSr_fin _ K0.out (u.fin)) rfl rfl ?_)); generalize hWN : setRow _ _ _ _ = WN; replace K0 := Lib.hid (show Blk WN _ _ _ by rw [← hWN]; exact Blk.row K0.out.lt); replace K1 := Lib.hid (show Blk WN _ _ _ by rw [← hWN]; exact Blk.rowOver (by omega) K1.out); replace K2 := Lib.hid (show Blk WN _ _ _ by rw [← hWN]; exact Blk.rowOver (by omega) K2.out); replace HB : Below w.heap.size w WN := (by rw [← hWN]; exact Below.row HB (by omega) HB.size); clear hWN k0 f0 l0 m0 k1 f1 l1 m1 k2 f2 l2 m2; obtain ⟨k0, f0, l0, m0⟩ := rl_ K0; obtain ⟨k1, f1, l1, m1⟩ := rl_ K1; obtain ⟨k2, f2, l2, m2⟩ := rl_ K2; unfold Halted)
    (go_wp2_with (first | (with_reducible refine wsh (stSr_best _ K0.out (Up.zero)) rfl rfl ?_)); generalize hWN : setRow _ _ _ _ = WN; replace K0 := Lib.hid (show Blk WN _ _ _ by rw [← hWN]; exact Blk.row K0.out.lt); replace K1 := Lib.hid (show Blk WN _ _ _ by rw [← hWN]; exact Blk.rowOver (by omega) K1.out); replace K2 := Lib.hid (show Blk WN _ _ _ by rw [← hWN]; exact Blk.rowOver (by omega) K2.out); replace HB : Below w.heap.size w WN := (by rw [← hWN]; exact Below.row HB (by omega) HB.size); clear hWN k0 f0 l0 m0 k1 f1 l1 m1 k2 f2 l2 m2; obtain ⟨k0, f0, l0, m0⟩ := rl_ K0; obtain ⟨k1, f1, l1, m1⟩ := rl_ K1; obtain ⟨k2, f2, l2, m2⟩ := rl_ K2; unfold Halted)
    (go_wp2_with (first | (with_reducible refine wsh (stcSr_has _ K0.out (false)) rfl rfl ?_)); generalize hWN : setRow _ _ _ _ = WN; replace K0 := Lib.hid (show Blk WN _ _ _ by rw [← hWN]; exact Blk.row K0.out.lt); replace K1 := Lib.hid (show Blk WN _ _ _ by rw [← hWN]; exact Blk.rowOver (by omega) K1.out); replace K2 := Lib.hid (show Blk WN _ _ _ by rw [← hWN]; exact Blk.rowOver (by omega) K2.out); replace HB : Below w.heap.size w WN := (by rw [← hWN]; exact Below.row HB (by omega) HB.size); clear hWN k0 f0 l0 m0 k1 f1 l1 m1 k2 f2 l2 m2; obtain ⟨k0, f0, l0, m0⟩ := rl_ K0; obtain ⟨k1, f1, l1, m1⟩ := rl_ K1; obtain ⟨k2, f2, l2, m2⟩ := rl_ K2; unfold Halted)
    (go_wp2_with (first | (with_reducible refine wlr (ldSr _ K0.out) rfl ?_) | (with_reducible refine wlg (ldSr _ K0.out) (by with_unfolding_all rfl) rfl ?_) | (with_reducible refine wsh (stSr _ K2.out (clearP { t with fin := u.fin })) rfl rfl ?_)); generalize hWN : setRow _ _ _ _ = WN; replace K2 := Lib.hid (show Blk WN _ _ _ by rw [← hWN]; exact Blk.row K2.out.lt); replace K0 := Lib.hid (show Blk WN _ _ _ by rw [← hWN]; exact Blk.rowOver (by omega) K0.out); replace K1 := Lib.hid (show Blk WN _ _ _ by rw [← hWN]; exact Blk.rowOver (by omega) K1.out); replace HB : Below w.heap.size w WN := (by rw [← hWN]; exact Below.row HB (by omega) HB.size); clear hWN k2 f2 l2 m2 k0 f0 l0 m0 k1 f1 l1 m1; obtain ⟨k2, f2, l2, m2⟩ := rl_ K2; obtain ⟨k0, f0, l0, m0⟩ := rl_ K0; obtain ⟨k1, f1, l1, m1⟩ := rl_ K1; unfold Halted)
    go_wp2_with fail
    exact bodyPost_ret (results_cell rfl rfl (ldSr _ K2.out)) rfl ⟨by rw [hfinal.out, e2.out], HB⟩
  ·have hf2 : ¬ (t.fin.b.slot : Int) < (u.fin.b.slot : Int) := by omega
   have e2 := Lib.hid (show takeP2 t u = t by unfold takeP2; rw [if_neg hf])
   clear hf
   (go_wp2_with (first | (with_reducible refine wsh (stSr_best _ K0.out (Up.zero)) rfl rfl ?_)); generalize hWN : setRow _ _ _ _ = WN; replace K0 := Lib.hid (show Blk WN _ _ _ by rw [← hWN]; exact Blk.row K0.out.lt); replace K1 := Lib.hid (show Blk WN _ _ _ by rw [← hWN]; exact Blk.rowOver (by omega) K1.out); replace K2 := Lib.hid (show Blk WN _ _ _ by rw [← hWN]; exact Blk.rowOver (by omega) K2.out); replace HB : Below w.heap.size w WN := (by rw [← hWN]; exact Below.row HB (by omega) HB.size); clear hWN k0 f0 l0 m0 k1 f1 l1 m1 k2 f2 l2 m2; obtain ⟨k0, f0, l0, m0⟩ := rl_ K0; obtain ⟨k1, f1, l1, m1⟩ := rl_ K1; obtain ⟨k2, f2, l2, m2⟩ := rl_ K2; unfold Halted)
   (go_wp2_with (first | (with_reducible refine wsh (stcSr_has _ K0.out (false)) rfl rfl ?_)); generalize hWN : setRow _ _ _ _ = WN; replace K0 := Lib.hid (show Blk WN _ _ _ by rw [← hWN]; exact Blk.row K0.out.lt); replace K1 := Lib.hid (show Blk WN _ _ _ by rw [← hWN]; exact Blk.rowOver (by omega) K1.out); replace K2 := Lib.hid (show Blk WN _ _ _ by rw [← hWN]; exact Blk.rowOver (by omega) K2.out); replace HB : Below w.heap.size w WN := (by rw [← hWN]; exact Below.row HB (by omega) HB.size); clear hWN k0 f0 l0 m0 k1 f1 l1 m1 k2 f2 l2 m2; obtain ⟨k0, f0, l0, m0⟩ := rl_ K0; obtain ⟨k1, f1, l1, m1⟩ := rl_ K1; obtain ⟨k2, f2, l2, m2⟩ := rl_ K2; unfold Halted)
   (go_wp2_with (first | (with_reducible refine wlr (ldSr _ K0.out) rfl ?_) | (with_reducible refine wlg (ldSr _ K0.out) (by with_unfolding_all rfl) rfl ?_) | (with_reducible refine wsh (stSr _ K2.out (clearP t)) rfl rfl ?_)); generalize hWN : setRow _ _ _ _ = WN; replace K2 := Lib.hid (show Blk WN _ _ _ by rw [← hWN]; exact Blk.row K2.out.lt); replace K0 := Lib.hid (show Blk WN _ _ _ by rw [← hWN]; exact Blk.rowOver (by omega) K0.out); replace K1 := Lib.hid (show Blk WN _ _ _ by rw [← hWN]; exact Blk.rowOver (by omega) K1.out); replace HB : Below w.heap.size w WN := (by rw [← hWN]; exact Below.row HB (by omega) HB.size); clear hWN k2 f2 l2 m2 k0 f0 l0 m0 k1 f1 l1 m1; obtain ⟨k2, f2, l2, m2⟩ := rl_ K2; obtain ⟨k0, f0, l0, m0⟩ := rl_ K0; obtain ⟨k1, f1, l1, m1⟩ := rl_ K1; unfold Halted)
   go_wp2_with fail
   exact bodyPost_ret (results_cell rfl rfl (ldSr _ K2.out)) rfl ⟨by rw [hfinal.out, e2.out], HB⟩
def SuW (w : World) (g : Nat) (s : Sr) (u : Up) (wx : World) : Prop := Blk wx g 35 (srA s) ∧ Blk wx (g + 1) 33 (upA u) ∧ Below w.heap.size w wx
theorem lgslots_calls (s : Sr) (u : Up) (now : Nat) (hs : s.fin.b.slot < 18446744073709551616) (hu1 : u.seen.b.slot < 18446744073709551616) (hu2 : u.slot < 18446744073709551616) (hn : now < 18446744073709551616) (w : World) : Calls Tryz.prog 58 #[srV s, upV u, .int .u64 now] w (Ret w (.int .i64 (slotsE s u now))) := by
 have n1 := fun W => isFinal_calls u W
 have hz := @not_final u
 have n3 := fun W => known_calls s.next W
 have n4 := fun W => hasNext_calls u W
 have n5 := fun W => period_q s.fin.b.slot hs W
 have n6 := fun W => period_q u.seen.b.slot hu1 W
 have n7 := fun W => period_q u.slot hu2 W
 have hE : slotsE s u now = if now < u.slot ∨ u.slot ≤ u.seen.b.slot ∨ u.seen.b.slot < finSlot u then 142 else if period u.slot ≠ period s.fin.b.slot ∧ laterP s u = false then 143 else if u.seen.b.slot ≤ s.fin.b.slot ∧ firstP s u = false then 144 else 0 := rfl
 have hF : firstP s u = (!knownP s.next && (hasNextP u && decide (period u.seen.b.slot = period s.fin.b.slot))) := rfl
 have hL : laterP s u = (knownP s.next && decide (period u.slot = period s.fin.b.slot + 1)) := rfl
 have hpl : period s.fin.b.slot < 18446744073709551615 := by unfold period; omega
 rw [fin_slot] at hE
 generalize slotsE s u now = E at *
 generalize firstP s u = F at *
 generalize laterP s u = L at *
 generalize isFinalP u = r1 at *
 generalize knownP s.next = kn at *
 generalize hasNextP u = hn' at *
 generalize period s.fin.b.slot = pf at *
 generalize period u.seen.b.slot = ps at *
 generalize period u.slot = pu at *
 have e1 : ((ps : Int) == (pf : Int)) = decide (ps = pf) := by rw [Bool.eq_iff_iff]; simp; omega
 have e2 : ((pu : Int) == (pf : Int) + 1) = decide (pu = pf + 1) := by rw [Bool.eq_iff_iff]; simp; omega
 generalize decide (ps = pf) = b1 at *
 generalize decide (pu = pf + 1) = b2 at *
 replace hE := Lib.hid hE
 replace hF := Lib.hid hF
 replace hL := Lib.hid hL
 replace n3 := Lib.hid n3
 replace n4 := Lib.hid n4
 replace n5 := Lib.hid n5
 replace n6 := Lib.hid n6
 replace n7 := Lib.hid n7
 replace n1 := Lib.hid n1
 replace hz := Lib.hid hz
 go_enter Tryz.func58, Tryz.ntmps58
 go_upto_region 1 with fail
 have HB : Below w.heap.size w ((w.alloc (.cells (srA s) 35)).alloc (.cells (upA u) 33)) := bel
 have K0 := (Blk.new0 w 35 (srA s)).alloc (.cells (upA u) 33)
 have K1 := Blk.new1 w (.cells (srA s) 35) 33 (upA u)
 obtain ⟨W, hW⟩ : ∃ W, ((w.alloc (.cells (srA s) 35)).alloc (.cells (upA u) 33)) = W := ⟨_, rfl⟩
 rw [hW] at HB K0 K1 ⊢
 clear hW
 have hgl : w.heap.size ≤ w.heap.size := Nat.le_refl _
 obtain ⟨g, hg⟩ : ∃ g, w.heap.size = g := ⟨_, rfl⟩
 rw [hg] at K0 K1 ⊢
 replace hgl : w.heap.size ≤ g := by omega
 replace K0 := Lib.hid K0
 replace K1 := Lib.hid K1
 clear hg
 (obtain ⟨k0, f0, l0, m0⟩ := rl_ K0; obtain ⟨k1, f1, l1, m1⟩ := rl_ K1)
 go_wp2_with (first | (with_reducible refine wlr (ldUp _ K1.out) rfl ?_) | (with_reducible refine wlg (ldUp _ K1.out) (by with_unfolding_all rfl) rfl ?_))
 (refine (n1.out _).mono ?_; rintro e w1 ⟨rfl, hN⟩; replace K0 := hn_ K0 hN; replace K1 := hn_ K1 hN; replace HB : Below w.heap.size w w1 := Below.on hN HB; clear hN k0 f0 l0 m0 k1 f1 l1 m1; obtain ⟨k0, f0, l0, m0⟩ := rl_ K0; obtain ⟨k1, f1, l1, m1⟩ := rl_ K1)
 go_upto_if 13 with fail
 go_cut [7] (fun s7 wx => s7 = .int .u64 (u.fin.b.slot : Int) ∧ SuW w g s u wx)
 case first =>
  cases r1 with
  | false =>
   have hz2 := hz.out rfl
   go_wp2_with fail
   go_meet
   case rel => exact ⟨by rw [hz2]; rfl, K0.out, K1.out, HB⟩
  | true =>
   go_wp2_with fail
   go_meet
   case rel => exact ⟨rfl, K0.out, K1.out, HB⟩
 case rest =>
  obtain ⟨rfl, hW⟩ := hcut
  have j0 := Lib.hid hW.1
  have j1 := Lib.hid hW.2.1
  have HBn := hW.2.2
  clear hW k0 f0 l0 m0 k1 f1 l1 m1 K0 K1 HB
  have K0 := j0; have K1 := j1; have HB := HBn
  clear j0 j1 HBn
  (obtain ⟨k0, f0, l0, m0⟩ := rl_ K0; obtain ⟨k1, f1, l1, m1⟩ := rl_ K1)
  clear n1 hz
  go_wp2_with fail
  go_quiet ((go_at_call 82; exact qs (n5.out _)))
  (generalize hWN : World.drewN wc _ = w2; replace K0 := Lib.hid (show Blk w2 _ _ _ by rw [← hWN]; exact K0.out.drewN _); replace K1 := Lib.hid (show Blk w2 _ _ _ by rw [← hWN]; exact K1.out.drewN _); replace HB : Below w.heap.size w w2 := (by rw [← hWN]; exact below_drewN HB _); clear hWN k0 f0 l0 m0 k1 f1 l1 m1; obtain ⟨k0, f0, l0, m0⟩ := rl_ K0; obtain ⟨k1, f1, l1, m1⟩ := rl_ K1)
  clear n5
  go_upto_region 5 with fail
  go_cut [10] (fun s10 wx => s10 = .bool F ∧ SuW w g s u wx)
  case first =>
   go_wp2_with fail
   (refine (n3.out _).mono ?_; rintro e w3 ⟨rfl, hN⟩; replace K0 := hn_ K0 hN; replace K1 := hn_ K1 hN; replace HB : Below w.heap.size w w3 := Below.on hN HB; clear hN k0 f0 l0 m0 k1 f1 l1 m1; obtain ⟨k0, f0, l0, m0⟩ := rl_ K0; obtain ⟨k1, f1, l1, m1⟩ := rl_ K1)
   cases kn with
   | true =>
    go_wp2_with fail
    go_meet
    case rel => exact ⟨by rw [hF.out]; rfl, K0.out, K1.out, HB⟩
   | false =>
    go_wp2_with (first | (with_reducible refine wlr (ldUp _ K1.out) rfl ?_) | (with_reducible refine wlg (ldUp _ K1.out) (by with_unfolding_all rfl) rfl ?_))
    (refine (n4.out _).mono ?_; rintro e w4 ⟨rfl, hN⟩; replace K0 := hn_ K0 hN; replace K1 := hn_ K1 hN; replace HB : Below w.heap.size w w4 := Below.on hN HB; clear hN k0 f0 l0 m0 k1 f1 l1 m1; obtain ⟨k0, f0, l0, m0⟩ := rl_ K0; obtain ⟨k1, f1, l1, m1⟩ := rl_ K1)
    cases hn' with
    | false =>
     go_wp2_with fail
     go_meet
     case rel => exact ⟨by rw [hF.out]; rfl, K0.out, K1.out, HB⟩
    | true =>
     go_wp2_with fail
     refine (n6.out _).mono ?_
     rintro e w5 ⟨rfl, rfl⟩
     go_wp2_with fail
     go_meet
     case rel => exact ⟨by rw [hF.out]; rfl, K0.out, K1.out, HB⟩
  case rest =>
   obtain ⟨rfl, hW⟩ := hcut
   have j0 := Lib.hid hW.1
   have j1 := Lib.hid hW.2.1
   have HBn := hW.2.2
   clear hW k0 f0 l0 m0 k1 f1 l1 m1 K0 K1 HB
   have K0 := j0; have K1 := j1; have HB := HBn
   clear j0 j1 HBn
   (obtain ⟨k0, f0, l0, m0⟩ := rl_ K0; obtain ⟨k1, f1, l1, m1⟩ := rl_ K1)
   go_upto_region 6 with fail
   go_cut [11] (fun s11 wx => s11 = .bool L ∧ SuW w g s u wx)
   case first =>
    go_wp2_with fail
    (refine (n3.out _).mono ?_; rintro e w3 ⟨rfl, hN⟩; replace K0 := hn_ K0 hN; replace K1 := hn_ K1 hN; replace HB : Below w.heap.size w w3 := Below.on hN HB; clear hN k0 f0 l0 m0 k1 f1 l1 m1; obtain ⟨k0, f0, l0, m0⟩ := rl_ K0; obtain ⟨k1, f1, l1, m1⟩ := rl_ K1)
    cases kn with
    | false =>
     go_wp2_with fail
     go_meet
     case rel => exact ⟨by rw [hL.out]; rfl, K0.out, K1.out, HB⟩
    | true =>
     go_wp2_with fail
     refine (n7.out _).mono ?_
     rintro e w5 ⟨rfl, rfl⟩
     go_wp2_with fail
     go_meet
     case rel => exact ⟨by rw [hL.out]; rfl, K0.out, K1.out, HB⟩
   case rest =>
    obtain ⟨rfl, hW⟩ := hcut
    have j0 := Lib.hid hW.1
    have j1 := Lib.hid hW.2.1
    have HBn := hW.2.2
    clear hW k0 f0 l0 m0 k1 f1 l1 m1 K0 K1 HB
    have K0 := j0; have K1 := j1; have HB := HBn
    clear j0 j1 HBn
    (obtain ⟨k0, f0, l0, m0⟩ := rl_ K0; obtain ⟨k1, f1, l1, m1⟩ := rl_ K1)
    clear n3 n4 n6 hF hL e1 e2
    by_cases h1 : now < u.slot
    ·have h1i : (now : Int) < (u.slot : Int) := by omega
     have hv : E = 142 := by rw [hE.out, if_pos (by omega)]
     replace hv := Lib.hid hv
     clear h1 hE
     go_wp2_with fail
     go_ret
     exact ⟨by rw [hv.out]; rfl, HB⟩
    ·have h1i : ¬ (now : Int) < (u.slot : Int) := by omega
     by_cases h2 : u.slot ≤ u.seen.b.slot
     ·have h2i : (u.slot : Int) ≤ (u.seen.b.slot : Int) := by omega
      have hv : E = 142 := by rw [hE.out, if_pos (by omega)]
      replace hv := Lib.hid hv
      clear h1 h2 hE
      go_wp2_with fail
      go_ret
      exact ⟨by rw [hv.out]; rfl, HB⟩
     ·have h2i : ¬ (u.slot : Int) ≤ (u.seen.b.slot : Int) := by omega
      by_cases h3 : u.seen.b.slot < u.fin.b.slot
      ·have h3i : (u.seen.b.slot : Int) < (u.fin.b.slot : Int) := by omega
       have hv : E = 142 := by rw [hE.out, if_pos (by omega)]
       replace hv := Lib.hid hv
       clear h1 h2 h3 hE
       go_wp2_with fail
       go_ret
       exact ⟨by rw [hv.out]; rfl, HB⟩
      ·have h3i : ¬ (u.seen.b.slot : Int) < (u.fin.b.slot : Int) := by omega
       have hE2 := hE.out
       rw [if_neg (by omega)] at hE2
       replace hE2 := Lib.hid hE2
       clear h1 h2 h3 hE
       by_cases h4 : pu = pf
       ·have h4i : ((pu : Int) != (pf : Int)) = false := by simp; omega
        have hE3 := hE2.out
        rw [if_neg (fun h => h.1 h4)] at hE3
        replace hE3 := Lib.hid hE3
        clear hE2 h4
        go_wp2_with fail
        refine (n7.out _).mono ?_
        rintro e w5 ⟨rfl, rfl⟩
        clear n7
        by_cases h5 : u.seen.b.slot ≤ s.fin.b.slot
        ·have h5i : (u.seen.b.slot : Int) ≤ (s.fin.b.slot : Int) := by omega
         cases F with
         | false =>
          have hv : E = 144 := by rw [hE3.out, if_pos ⟨h5, rfl⟩]
          replace hv := Lib.hid hv
          clear hE3 h5
          go_wp2_with fail
          go_ret
          exact ⟨by rw [hv.out]; rfl, HB⟩
         | true =>
          have hv : E = 0 := by rw [hE3.out, if_neg (fun h => by cases h.2)]
          replace hv := Lib.hid hv
          clear hE3 h5
          go_wp2_with fail
          go_ret
          exact ⟨by rw [hv.out]; rfl, HB⟩
        ·have h5i : ¬ (u.seen.b.slot : Int) ≤ (s.fin.b.slot : Int) := by omega
         have hv : E = 0 := by rw [hE3.out, if_neg (fun h => h5 h.1)]
         replace hv := Lib.hid hv
         clear hE3 h5
         go_wp2_with fail
         go_ret
         exact ⟨by rw [hv.out]; rfl, HB⟩
       ·have h4i : ((pu : Int) != (pf : Int)) = true := by simp; omega
        cases L with
        | false =>
         have hv : E = 143 := by rw [hE2.out, if_pos ⟨h4, rfl⟩]
         replace hv := Lib.hid hv
         clear hE2 h4
         go_wp2_with fail
         refine (n7.out _).mono ?_
         rintro e w5 ⟨rfl, rfl⟩
         go_wp2_with fail
         go_ret
         exact ⟨by rw [hv.out]; rfl, HB⟩
        | true =>
         have hE3 := hE2.out
         rw [if_neg (fun h => by cases h.2)] at hE3
         replace hE3 := Lib.hid hE3
         clear hE2 h4
         go_wp2_with fail
         refine (n7.out _).mono ?_
         rintro e w5 ⟨rfl, rfl⟩
         clear n7
         by_cases h5 : u.seen.b.slot ≤ s.fin.b.slot
         ·have h5i : (u.seen.b.slot : Int) ≤ (s.fin.b.slot : Int) := by omega
          cases F with
          | false =>
           have hv : E = 144 := by rw [hE3.out, if_pos ⟨h5, rfl⟩]
           replace hv := Lib.hid hv
           clear hE3 h5
           go_wp2_with fail
           go_ret
           exact ⟨by rw [hv.out]; rfl, HB⟩
          | true =>
           have hv : E = 0 := by rw [hE3.out, if_neg (fun h => by cases h.2)]
           replace hv := Lib.hid hv
           clear hE3 h5
           go_wp2_with fail
           go_ret
           exact ⟨by rw [hv.out]; rfl, HB⟩
         ·have h5i : ¬ (u.seen.b.slot : Int) ≤ (s.fin.b.slot : Int) := by omega
          have hv : E = 0 := by rw [hE3.out, if_neg (fun h => h5 h.1)]
          replace hv := Lib.hid hv
          clear hE3 h5
          go_wp2_with fail
          go_ret
          exact ⟨by rw [hv.out]; rfl, HB⟩
theorem check_few (s : Sr) (u : Up) (now : Nat) (h0 : onesP u.bits = 0) (w : World) : Calls Tryz.prog 20 #[srV s, upV u, .int .u64 now] w (Ret w (.int .i64 141)) := by
 have n1 := fun W => signers_calls u W
 rw [h0] at n1
 replace n1 : ∀ W, Calls Tryz.prog 56 #[upV u] W (Ret W (.int .i64 0)) := n1
 replace n1 := Lib.hid n1
 clear h0
 go_enter Tryz.func20, Tryz.ntmps20
 go_upto_region 1 with fail
 have HB : Below w.heap.size w ((w.alloc (.cells (srA s) 35)).alloc (.cells (upA u) 33)) := bel
 have K0 := (Blk.new0 w 35 (srA s)).alloc (.cells (upA u) 33)
 have K1 := Blk.new1 w (.cells (srA s) 35) 33 (upA u)
 obtain ⟨W, hW⟩ : ∃ W, ((w.alloc (.cells (srA s) 35)).alloc (.cells (upA u) 33)) = W := ⟨_, rfl⟩
 rw [hW] at HB K0 K1 ⊢
 clear hW
 have hgl : w.heap.size ≤ w.heap.size := Nat.le_refl _
 obtain ⟨g, hg⟩ : ∃ g, w.heap.size = g := ⟨_, rfl⟩
 rw [hg] at K0 K1 ⊢
 replace hgl : w.heap.size ≤ g := by omega
 replace K0 := Lib.hid K0
 replace K1 := Lib.hid K1
 clear hg
 (obtain ⟨k0, f0, l0, m0⟩ := rl_ K0; obtain ⟨k1, f1, l1, m1⟩ := rl_ K1)
 go_wp2_with (first | (with_reducible refine wlr (ldUp _ K1.out) rfl ?_) | (with_reducible refine wlg (ldUp _ K1.out) (by with_unfolding_all rfl) rfl ?_))
 (refine (n1.out _).mono ?_; rintro e w1 ⟨rfl, hN⟩; replace K0 := hn_ K0 hN; replace K1 := hn_ K1 hN; replace HB : Below w.heap.size w w1 := Below.on hN HB; clear hN k0 f0 l0 m0 k1 f1 l1 m1; obtain ⟨k0, f0, l0, m0⟩ := rl_ K0; obtain ⟨k1, f1, l1, m1⟩ := rl_ K1)
 go_wp2_with fail
 go_ret
 exact ⟨rfl, HB⟩
theorem check_head (s : Sr) (u : Up) (now : Nat) (h0 : onesP u.bits ≠ 0) (hh : holdsP u.seen = false) (w : World) (hk : HasK w) (hu : LtIn w u.seen) : Calls Tryz.prog 20 #[srV s, upV u, .int .u64 now] w (Ret w (.int .i64 130)) := by
 have n1 := fun W => signers_calls u W
 have n2 := fun W (hB : Below w.heap.size w W) => lholds_calls u.seen W (hk.on hB) (hu.below hB)
 rw [hh] at n2
 have e1 : (((onesP u.bits : Nat) : Int) == 0) = false := by simp; exact h0
 generalize onesP u.bits = k at *
 replace n1 := Lib.hid n1
 replace n2 := Lib.hid n2
 clear h0 hh hu hk
 go_enter Tryz.func20, Tryz.ntmps20
 go_upto_region 1 with fail
 have HB : Below w.heap.size w ((w.alloc (.cells (srA s) 35)).alloc (.cells (upA u) 33)) := bel
 have K0 := (Blk.new0 w 35 (srA s)).alloc (.cells (upA u) 33)
 have K1 := Blk.new1 w (.cells (srA s) 35) 33 (upA u)
 obtain ⟨W, hW⟩ : ∃ W, ((w.alloc (.cells (srA s) 35)).alloc (.cells (upA u) 33)) = W := ⟨_, rfl⟩
 rw [hW] at HB K0 K1 ⊢
 clear hW
 have hgl : w.heap.size ≤ w.heap.size := Nat.le_refl _
 obtain ⟨g, hg⟩ : ∃ g, w.heap.size = g := ⟨_, rfl⟩
 rw [hg] at K0 K1 ⊢
 replace hgl : w.heap.size ≤ g := by omega
 replace K0 := Lib.hid K0
 replace K1 := Lib.hid K1
 clear hg
 (obtain ⟨k0, f0, l0, m0⟩ := rl_ K0; obtain ⟨k1, f1, l1, m1⟩ := rl_ K1)
 go_wp2_with (first | (with_reducible refine wlr (ldUp _ K1.out) rfl ?_) | (with_reducible refine wlg (ldUp _ K1.out) (by with_unfolding_all rfl) rfl ?_))
 (refine (n1.out _).mono ?_; rintro e w1 ⟨rfl, hN⟩; replace K0 := hn_ K0 hN; replace K1 := hn_ K1 hN; replace HB : Below w.heap.size w w1 := Below.on hN HB; clear hN k0 f0 l0 m0 k1 f1 l1 m1; obtain ⟨k0, f0, l0, m0⟩ := rl_ K0; obtain ⟨k1, f1, l1, m1⟩ := rl_ K1)
 go_wp2_with fail
 (refine (n2.out _ HB).mono ?_; rintro e w2 ⟨rfl, hN⟩; replace K0 := hn_ K0 hN; replace K1 := hn_ K1 hN; replace HB : Below w.heap.size w w2 := Below.on hN HB; clear hN k0 f0 l0 m0 k1 f1 l1 m1; obtain ⟨k0, f0, l0, m0⟩ := rl_ K0; obtain ⟨k1, f1, l1, m1⟩ := rl_ K1)
 go_wp2_with fail
 go_ret
 exact ⟨rfl, HB⟩
theorem force_no (s : Sr) (now : Nat) (h : noForce s now = true) (hs : s.fin.b.slot < 18446744073709551616) (hn : now < 18446744073709551616) (w : World) : Calls Tryz.prog 22 #[srV s, .int .u64 now] w (Ret w (.tuple #[srV s, .int .i64 148])) := by
 unfold noForce at h
 cases hh : s.has with
 | false =>
  clear h
  go_enter Tryz.func22, Tryz.ntmps22
  go_upto_region 1 with fail
  have HB : Below w.heap.size w ((w.alloc (.cells (srA s) 35)).alloc (.cells (srA Sr.zero) 35)) := bel
  have K0 := (Blk.new0 w 35 (srA s)).alloc (.cells (srA Sr.zero) 35)
  have K1 := Blk.new1 w (.cells (srA s) 35) 35 (srA Sr.zero)
  obtain ⟨W, hW⟩ : ∃ W, ((w.alloc (.cells (srA s) 35)).alloc (.cells (srA Sr.zero) 35)) = W := ⟨_, rfl⟩
  rw [hW] at HB K0 K1 ⊢
  clear hW
  have hgl : w.heap.size ≤ w.heap.size := Nat.le_refl _
  obtain ⟨g, hg⟩ : ∃ g, w.heap.size = g := ⟨_, rfl⟩
  rw [hg] at K0 K1 ⊢
  replace hgl : w.heap.size ≤ g := by omega
  replace K0 := Lib.hid K0
  replace K1 := Lib.hid K1
  clear hg
  (obtain ⟨k0, f0, l0, m0⟩ := rl_ K0; obtain ⟨k1, f1, l1, m1⟩ := rl_ K1)
  go_upto_region 3 with fail
  (go_wp2_with (first | (with_reducible refine wlr (ldSr _ K0.out) rfl ?_) | (with_reducible refine wlg (ldSr _ K0.out) (by with_unfolding_all rfl) rfl ?_) | (with_reducible refine wsh (stSr _ K1.out (s)) rfl rfl ?_)); generalize hWN : setRow _ _ _ _ = WN; replace K1 := Lib.hid (show Blk WN _ _ _ by rw [← hWN]; exact Blk.row K1.out.lt); replace K0 := Lib.hid (show Blk WN _ _ _ by rw [← hWN]; exact Blk.rowOver (by omega) K0.out); replace HB : Below w.heap.size w WN := (by rw [← hWN]; exact Below.row HB (by omega) HB.size); clear hWN k1 f1 l1 m1 k0 f0 l0 m0; obtain ⟨k1, f1, l1, m1⟩ := rl_ K1; obtain ⟨k0, f0, l0, m0⟩ := rl_ K0; unfold Halted)
  go_wp2_with fail
  exact bodyPost_ret (results_cell2 rfl rfl (ldSr _ K1.out)) rfl ⟨rfl, HB⟩
 | true =>
  rw [hh] at h
  replace h : now < s.fin.b.slot + 65 := by simpa using h
  by_cases h1 : now < s.fin.b.slot
  ·have h1i : (now : Int) < (s.fin.b.slot : Int) := by omega
   clear h h1
   go_enter Tryz.func22, Tryz.ntmps22
   go_upto_region 1 with fail
   have HB : Below w.heap.size w ((w.alloc (.cells (srA s) 35)).alloc (.cells (srA Sr.zero) 35)) := bel
   have K0 := (Blk.new0 w 35 (srA s)).alloc (.cells (srA Sr.zero) 35)
   have K1 := Blk.new1 w (.cells (srA s) 35) 35 (srA Sr.zero)
   obtain ⟨W, hW⟩ : ∃ W, ((w.alloc (.cells (srA s) 35)).alloc (.cells (srA Sr.zero) 35)) = W := ⟨_, rfl⟩
   rw [hW] at HB K0 K1 ⊢
   clear hW
   have hgl : w.heap.size ≤ w.heap.size := Nat.le_refl _
   obtain ⟨g, hg⟩ : ∃ g, w.heap.size = g := ⟨_, rfl⟩
   rw [hg] at K0 K1 ⊢
   replace hgl : w.heap.size ≤ g := by omega
   replace K0 := Lib.hid K0
   replace K1 := Lib.hid K1
   clear hg
   (obtain ⟨k0, f0, l0, m0⟩ := rl_ K0; obtain ⟨k1, f1, l1, m1⟩ := rl_ K1)
   go_upto_region 3 with fail
   (go_wp2_with (first | (with_reducible refine wlr (ldSr _ K0.out) rfl ?_) | (with_reducible refine wlg (ldSr _ K0.out) (by with_unfolding_all rfl) rfl ?_) | (with_reducible refine wsh (stSr _ K1.out (s)) rfl rfl ?_)); generalize hWN : setRow _ _ _ _ = WN; replace K1 := Lib.hid (show Blk WN _ _ _ by rw [← hWN]; exact Blk.row K1.out.lt); replace K0 := Lib.hid (show Blk WN _ _ _ by rw [← hWN]; exact Blk.rowOver (by omega) K0.out); replace HB : Below w.heap.size w WN := (by rw [← hWN]; exact Below.row HB (by omega) HB.size); clear hWN k1 f1 l1 m1 k0 f0 l0 m0; obtain ⟨k1, f1, l1, m1⟩ := rl_ K1; obtain ⟨k0, f0, l0, m0⟩ := rl_ K0; unfold Halted)
   go_wp2_with fail
   exact bodyPost_ret (results_cell2 rfl rfl (ldSr _ K1.out)) rfl ⟨rfl, HB⟩
  ·have h1i : ¬ (now : Int) < (s.fin.b.slot : Int) := by omega
   have h2 : IntKind.u64.wrap ((now : Int) - (s.fin.b.slot : Int)) = ((now - s.fin.b.slot : Nat) : Int) := by
    rw [show ((now : Int) - (s.fin.b.slot : Int)) = ((now - s.fin.b.slot : Nat) : Int) by omega]
    exact IntWalk.u64_in _ (by omega)
   have h3 : ((now - s.fin.b.slot : Nat) : Int) ≤ 64 := by omega
   clear h h1
   go_enter Tryz.func22, Tryz.ntmps22
   go_upto_region 1 with fail
   have HB : Below w.heap.size w ((w.alloc (.cells (srA s) 35)).alloc (.cells (srA Sr.zero) 35)) := bel
   have K0 := (Blk.new0 w 35 (srA s)).alloc (.cells (srA Sr.zero) 35)
   have K1 := Blk.new1 w (.cells (srA s) 35) 35 (srA Sr.zero)
   obtain ⟨W, hW⟩ : ∃ W, ((w.alloc (.cells (srA s) 35)).alloc (.cells (srA Sr.zero) 35)) = W := ⟨_, rfl⟩
   rw [hW] at HB K0 K1 ⊢
   clear hW
   have hgl : w.heap.size ≤ w.heap.size := Nat.le_refl _
   obtain ⟨g, hg⟩ : ∃ g, w.heap.size = g := ⟨_, rfl⟩
   rw [hg] at K0 K1 ⊢
   replace hgl : w.heap.size ≤ g := by omega
   replace K0 := Lib.hid K0
   replace K1 := Lib.hid K1
   clear hg
   (obtain ⟨k0, f0, l0, m0⟩ := rl_ K0; obtain ⟨k1, f1, l1, m1⟩ := rl_ K1)
   go_upto_region 3 with fail
   (go_wp2_with (first | (with_reducible refine wlr (ldSr _ K0.out) rfl ?_) | (with_reducible refine wlg (ldSr _ K0.out) (by with_unfolding_all rfl) rfl ?_) | (with_reducible refine wsh (stSr _ K1.out (s)) rfl rfl ?_)); generalize hWN : setRow _ _ _ _ = WN; replace K1 := Lib.hid (show Blk WN _ _ _ by rw [← hWN]; exact Blk.row K1.out.lt); replace K0 := Lib.hid (show Blk WN _ _ _ by rw [← hWN]; exact Blk.rowOver (by omega) K0.out); replace HB : Below w.heap.size w WN := (by rw [← hWN]; exact Below.row HB (by omega) HB.size); clear hWN k1 f1 l1 m1 k0 f0 l0 m0; obtain ⟨k1, f1, l1, m1⟩ := rl_ K1; obtain ⟨k0, f0, l0, m0⟩ := rl_ K0; unfold Halted)
   go_wp2_with fail
   exact bodyPost_ret (results_cell2 rfl rfl (ldSr _ K1.out)) rfl ⟨rfl, HB⟩
theorem zero_head : holdsP Lt.zero = false := by
 have : hdOk Hd.zero = false := by decide +kernel
 unfold holdsP
 rw [show Lt.zero.b = Hd.zero from rfl, this]
 rfl
theorem zero_few : onesP Up.zero.bits = 0 := by decide +kernel
theorem shown14_calls (w : World) (hk : HasK w) : Calls Tryz.prog 19 #[] w (Ret w (.bool true)) := by
 have n1 := fun W => check_few Sr.zero Up.zero 0 zero_few W
 have n2 := fun W => force_no Sr.zero 1000 rfl (by decide) (by decide) W
 have n3 : ∀ W, Below w.heap.size w W → Calls Tryz.prog 20 #[srV Sr.zero, upV { Up.zero with bits := 1 }, .int .u64 0] W (Ret W (.int .i64 130)) := fun W hB => check_head Sr.zero { Up.zero with bits := 1 } 0 (by decide +kernel) zero_head W (hk.on hB) (LtIn.zero W)
 replace n1 := Lib.hid n1
 replace n2 := Lib.hid n2
 replace n3 := Lib.hid n3
 clear hk
 go_enter Tryz.func19, Tryz.ntmps19
 go_wp2_with fail
 refine (n1.out _).mono ?_
 rintro e w1 ⟨rfl, h1⟩
 go_wp2_with fail
 refine (n2.out _).mono ?_
 rintro e w2 ⟨rfl, h2⟩
 have HB := Below.on h2 h1
 clear h1 h2
 go_wp2_with (with_reducible refine wsh (stSr Sr.zero (Blk.new0 w2 35 (srA Sr.zero)) Sr.zero) rfl rfl ?_)
 generalize hWN : setRow _ _ _ _ = WN
 have HBn : Below w.heap.size w WN := by rw [← hWN]; exact Below.row (HB.alloc HB.size _) HB.size (by have := HB.size; simp; omega)
 clear hWN
 unfold Halted
 go_wp2_with fail
 refine (n3.out _ HBn).mono ?_
 rintro e w3 ⟨rfl, h3⟩
 go_wp2_with fail
 go_ret
 exact ⟨rfl, Below.on h3 HBn⟩
theorem cmRoot_len (c : Cm) : (cmRoot c).length ≤ 1048576 := by
 unfold cmRoot
 split
 ·rw [sha_len]; decide
 ·simp
end Go.Proofs.YtegaaccioppfjaaGreatDoor
end
section
namespace Go.Proofs.YtegaaccioppfjaaGreatDoor
open BigFrame Go.RowKit Go.Phx Go.Shelf
attribute [local go_sem] Oper.semAt_some

structure Mk where
 many : Int
 few : Int
 next : Int
 final : Int
 own : Int
 all : Int
def mkA (m : Mk) : Array Value := #[.int .i64 m.many, .int .i64 m.few, .int .i64 m.next, .int .i64 m.final, .int .i64 m.own, .int .i64 m.all]
abbrev mkV (m : Mk) : Value := .agg (mkA m)
def Mk.zero : Mk := ⟨0, 0, 0, 0, 0, 0⟩
def marksM (u : Up) : Mk := ⟨numB (twoP u), if twoP u then 0 else (onesP u.bits : Int), numB (ownNextP u), numB (isFinalP u), numB (ownFinP u), (onesP u.bits : Int)⟩
theorem sizeMk : (Tryz.prog.info? 87).map (·.size) = some 6 := by kernel_rfl
theorem stMk {W : World} {b : Nat} {cs : Array Value} (h : Blk W b 87 cs) (hc : cs.size = 6) (v : Mk) : (Instr.storeAt 87 (.pointer (some ⟨b, 0, none⟩)) (mkV v)).run Tryz.prog W = .ok () (setRow W b 87 (mkA v)) := by
 have := run_store_part h [] cs.toList [] (by simp) rfl (mkA v) (by simpa [mkA] using hc.symm) sizeMk (by simp [mkA, Value.oneCell'])
 rw [List.append_nil] at this
 exact this
theorem stMk2 {W : World} {b : Nat} (m : Mk) (h : Blk W b 87 (mkA m)) (v : Mk) : (Instr.storeAt 87 (.pointer (some ⟨b, 0, none⟩)) (mkV v)).run Tryz.prog W = .ok () (setRow W b 87 (mkA v)) := stMk h rfl v
theorem ldMk {W : World} {b : Nat} (m : Mk) (h : Blk W b 87 (mkA m)) : (Instr.loadAt 87 (.pointer (some ⟨b, 0, none⟩))).run Tryz.prog W = .ok (mkV m) W :=
 run_load_part h [] (mkA m).toList [] (by simp) rfl Tryz.underlying87 rfl sizeMk
section
variable {W : World} {b : Nat} (m : Mk) (h : Blk W b 87 (mkA m)) (v : Int)
include h
theorem stcMk_few : (Instr.storeAt 3 (.pointer (some ⟨b, 1, none⟩)) (.int .i64 v)).run Tryz.prog W = .ok () (setRow W b 87 (mkA { m with few := v })) := by
 rw [← show W.setCell ⟨b, 1, none⟩ (.int .i64 v) = setRow W b 87 (mkA { m with few := v }) from set_row h _ _]
 exact run_store_cell h (by kernel_rfl) (by kernel_rfl) (.inl ⟨_, _, rfl⟩)
theorem stcMk_next : (Instr.storeAt 3 (.pointer (some ⟨b, 2, none⟩)) (.int .i64 v)).run Tryz.prog W = .ok () (setRow W b 87 (mkA { m with next := v })) := by
 rw [← show W.setCell ⟨b, 2, none⟩ (.int .i64 v) = setRow W b 87 (mkA { m with next := v }) from set_row h _ _]
 exact run_store_cell h (by kernel_rfl) (by kernel_rfl) (.inl ⟨_, _, rfl⟩)
theorem stcMk_final : (Instr.storeAt 3 (.pointer (some ⟨b, 3, none⟩)) (.int .i64 v)).run Tryz.prog W = .ok () (setRow W b 87 (mkA { m with final := v })) := by
 rw [← show W.setCell ⟨b, 3, none⟩ (.int .i64 v) = setRow W b 87 (mkA { m with final := v }) from set_row h _ _]
 exact run_store_cell h (by kernel_rfl) (by kernel_rfl) (.inl ⟨_, _, rfl⟩)
theorem stcMk_own : (Instr.storeAt 3 (.pointer (some ⟨b, 4, none⟩)) (.int .i64 v)).run Tryz.prog W = .ok () (setRow W b 87 (mkA { m with own := v })) := by
 rw [← show W.setCell ⟨b, 4, none⟩ (.int .i64 v) = setRow W b 87 (mkA { m with own := v }) from set_row h _ _]
 exact run_store_cell h (by kernel_rfl) (by kernel_rfl) (.inl ⟨_, _, rfl⟩)
end
def MrW (w : World) (g b : Nat) (u : Up) (m : Mk) (wx : World) : Prop := Blk wx g 33 (upA u) ∧ Blk wx (g + 1) 87 (mkA Mk.zero) ∧ Blk wx b 87 (mkA m) ∧ g + 1 < b ∧ Below w.heap.size w wx
theorem marked_calls (u : Up) (h1 : u.seen.b.slot < 18446744073709551616) (h2 : u.slot < 18446744073709551616) (h3 : u.fin.b.slot < 18446744073709551616) (w : World) : Calls Tryz.prog 72 #[upV u] w (Ret w (mkV (marksM u))) := by
 have n1 := fun W => two_calls u W
 have n2 := fun W => signers_calls u W
 have n3 := fun W => hasNext_calls u W
 have n4 := fun W => isFinal_calls u W
 have n5 := fun W => period_q u.seen.b.slot h1 W
 have n6 := fun W => period_q u.slot h2 W
 have n7 := fun W => period_q u.fin.b.slot h3 W
 have n8 : ∀ (b : Bool) (W : World), Calls Tryz.prog 125 #[.bool b] W (fun e w' => e = .returned (.int .i64 (numB b)) ∧ W = w') := fun b W => (number_of b W).mono fun _ _ h => ⟨h.1, h.2.symm⟩
 have hM : marksM u = ⟨numB (twoP u), if twoP u then 0 else (onesP u.bits : Int), numB (hasNextP u && decide (period u.seen.b.slot = period u.slot)), numB (isFinalP u), numB (isFinalP u && decide (period u.fin.b.slot = period u.seen.b.slot)), (onesP u.bits : Int)⟩ := rfl
 generalize marksM u = M at *
 generalize twoP u = r1 at *
 generalize onesP u.bits = k at *
 generalize hasNextP u = r3 at *
 generalize isFinalP u = r4 at *
 generalize period u.seen.b.slot = ps at *
 generalize period u.slot = pu at *
 generalize period u.fin.b.slot = pf at *
 have e1 : ((ps : Int) == (pu : Int)) = decide (ps = pu) := by rw [Bool.eq_iff_iff]; simp; omega
 have e2 : ((pf : Int) == (ps : Int)) = decide (pf = ps) := by rw [Bool.eq_iff_iff]; simp; omega
 generalize decide (ps = pu) = b1 at *
 generalize decide (pf = ps) = b2 at *
 obtain ⟨kI, hkI⟩ : ∃ kI : Int, (k : Int) = kI := ⟨_, rfl⟩
 rw [hkI] at n2 hM
 clear hkI
 replace hM := Lib.hid hM
 replace n1 := Lib.hid n1
 replace n2 := Lib.hid n2
 replace n3 := Lib.hid n3
 replace n4 := Lib.hid n4
 replace n5 := Lib.hid n5
 replace n6 := Lib.hid n6
 replace n7 := Lib.hid n7
 replace n8 := Lib.hid n8
 go_enter Tryz.func72, Tryz.ntmps72
 go_upto_region 1 with fail
 have HB : Below w.heap.size w ((w.alloc (.cells (upA u) 33)).alloc (.cells (mkA Mk.zero) 87)) := bel
 have K0 := (Blk.new0 w 33 (upA u)).alloc (.cells (mkA Mk.zero) 87)
 have K1 := Blk.new1 w (.cells (upA u) 33) 87 (mkA Mk.zero)
 obtain ⟨W, hW⟩ : ∃ W, ((w.alloc (.cells (upA u) 33)).alloc (.cells (mkA Mk.zero) 87)) = W := ⟨_, rfl⟩
 replace hW : (w.alloc (.cells (upA u) 33)).alloc (.cells #[.int .i64 0, .int .i64 0, .int .i64 0, .int .i64 0, .int .i64 0, .int .i64 0] 87) = W := hW
 rw [hW]
 replace HB : Below w.heap.size w W := by rw [← hW]; exact HB
 replace K0 : Blk W w.heap.size 33 (upA u) := by rw [← hW]; exact K0
 replace K1 : Blk W (w.heap.size + 1) 87 (mkA Mk.zero) := by rw [← hW]; exact K1
 clear hW
 have hgl : w.heap.size ≤ w.heap.size := Nat.le_refl _
 obtain ⟨g, hg⟩ : ∃ g, w.heap.size = g := ⟨_, rfl⟩
 rw [hg] at K0 K1 ⊢
 replace hgl : w.heap.size ≤ g := by omega
 replace K0 := Lib.hid K0
 replace K1 := Lib.hid K1
 clear hg
 (obtain ⟨k0, f0, l0, m0⟩ := rl_ K0; obtain ⟨k1, f1, l1, m1⟩ := rl_ K1)
 go_cut [3] (fun s3 wx => ∃ b, s3 = .pointer (some ⟨b, 0, none⟩) ∧ MrW w g b u ⟨numB r1, 0, 0, 0, 0, kI⟩ wx)
 case first =>
  have hwf : ∀ f, Fence.wide.fn f := fun _ => trivial
  refine (wpIn_wide (n := 9)).1 ?_
  refine wpIn_round_held (fun w' => Below W.heap.size W w') (fun j => true) (by kernel_rfl) ?_
  have hS0 : (fun w' => Below W.heap.size W w') W.drew := (Below.refl _ _).drew
  refine S_tk 0 (upV (u)) rfl hS0 (fun w' hw => exec_load rfl (by kernel_rfl) (ldUp (u) (K0.out.below hw))) ?_
  refine S_tk 3 (upV (u)) rfl hS0 (fun w' hw => exec_load rfl (by kernel_rfl) (ldUp (u) (K0.out.below hw))) ?_
  refine S_list [1, 6] (by kernel_rfl) (by decide) ⟨?_, ?_, trivial⟩
  ·show wpOpIn _ _ _ _ _ 1 _ _ _
   refine op_call (nd := fun j => true) (S := fun w' => Below W.heap.size W w') (i := 1) rfl (fun K hK => ?_)
   go_simp
   gi_wp2_with (gi_at_call 83; refine (callsIn_wide.2 (n1.out _)).mono ?_; rintro e Wh1 ⟨rfl, hN⟩)
   replace hS0 := hS0.trans (hN.mono hS0.size)
   clear hN
   refine ⟨(fun _ => hS0), ?_⟩
   refine S_list [2, 6] (by kernel_rfl) (by decide) ⟨?_, ?_, trivial⟩
   ·show wpOpIn _ _ _ _ _ 2 _ _ _
    refine op_call (nd := fun j => true) (S := fun w' => Below W.heap.size W w') (i := 2) rfl (fun K hK => ?_)
    go_simp
    gi_wp2_with (gi_at_call 125; refine (callsIn_wide.2 (n8.out r1 _)).mono ?_; rintro e Wh2 ⟨rfl, hN⟩; obtain rfl : Wh1 = Wh2 := (by first | exact hN | exact hN.symm))
    refine ⟨(fun _ => hS0), ?_⟩
    refine S_list [4, 6] (by kernel_rfl) (by decide) ⟨?_, ?_, trivial⟩
    ·show wpOpIn _ _ _ _ _ 4 _ _ _
     refine op_call (nd := fun j => true) (S := fun w' => Below W.heap.size W w') (i := 4) rfl (fun K hK => ?_)
     go_simp
     gi_wp2_with (gi_at_call 56; refine (callsIn_wide.2 (n2.out _)).mono ?_; rintro e Wh3 ⟨rfl, hN⟩)
     replace hS0 := hS0.trans (hN.mono hS0.size)
     clear hN
     refine ⟨(fun _ => hS0), ?_⟩
     refine S_tk 5 (mkV ⟨numB r1, 0, 0, 0, 0, kI⟩) rfl hS0 (fun w' hw => by go_simp; rfl) ?_
     obtain ⟨x3n4, hbx⟩ : ∃ x, Wh3.heap.size = x := ⟨_, rfl⟩
     have hbx2 := hbx
     (try simp [go_sem] at hbx2)
     have hb3 : W.heap.size ≤ x3n4 := by rw [← hbx]; exact hS0.size
     have KA3 := Blk.new0 Wh3 87 (mkA Mk.zero)
     rw [hbx] at KA3
     replace KA3 := Lib.hid KA3
     replace hS0 : Below _ _ (Wh3.alloc (.cells (mkA Mk.zero) 87)) := hS0.alloc hS0.size _
     refine S_go 6 (fun _ => trivial) (by kernel_rfl) (by kernel_rfl) rfl (by kernel_rfl) (.pointer (some ⟨x3n4, 0, none⟩)) (Wh3.alloc (.cells (mkA Mk.zero) 87)) (by first | (go_simp; done) | (go_simp; rfl) | (go_simp; exact ⟨hbx2, rfl⟩)) (fun _ => hS0) ?_
     clear hbx hbx2
     have hS1 : (fun w' => Below W.heap.size W w') (setRow (Wh3.alloc (.cells (mkA Mk.zero) 87)) (x3n4) 87 (mkA ⟨numB r1, 0, 0, 0, 0, kI⟩)) := Below.row hS0 hb3 hS0.size
     refine S_store 7 (fun _ => trivial) (by kernel_rfl) (by kernel_rfl) rfl (by kernel_rfl) (setRow (Wh3.alloc (.cells (mkA Mk.zero) 87)) (x3n4) 87 (mkA ⟨numB r1, 0, 0, 0, 0, kI⟩)) (exec_store _ _ rfl (by kernel_rfl) (by kernel_rfl) (stMk KA3.out rfl ⟨numB r1, 0, 0, 0, 0, kI⟩)) (fun _ => hS1) ?_
     clear hS0
     have hS0 := hS1
     clear hS1
     replace KA3 := Lib.hid (Blk.row (t := 87) (cs := mkA ⟨numB r1, 0, 0, 0, 0, kI⟩) KA3.out.lt)
     refine ⟨by kernel_rfl, rfl, ?_⟩
     go_wp2_with fail
     go_meet
     case rel => exact ⟨_, rfl, K0.out.below hS0, K1.out.below hS0, KA3.out, Nat.lt_of_lt_of_le l1 hb3, Below.on hS0 HB⟩
    ·show wpOpIn _ _ _ _ _ 6 _ _ _
     obtain ⟨x3n5, hbx⟩ : ∃ x, Wh1.heap.size = x := ⟨_, rfl⟩
     have hbx2 := hbx
     (try simp [go_sem] at hbx2)
     have hb3 : W.heap.size ≤ x3n5 := by rw [← hbx]; exact hS0.size
     have KA3 := Blk.new0 Wh1 87 (mkA Mk.zero)
     rw [hbx] at KA3
     replace KA3 := Lib.hid KA3
     replace hS0 : Below _ _ (Wh1.alloc (.cells (mkA Mk.zero) 87)) := hS0.alloc hS0.size _
     refine op_go (nd := fun j => true) (S := fun w' => Below W.heap.size W w') (i := 6) (fun _ => trivial) (by kernel_rfl) rfl (by kernel_rfl) (.pointer (some ⟨x3n5, 0, none⟩)) (Wh1.alloc (.cells (mkA Mk.zero) 87)) (by first | (go_simp; done) | (go_simp; rfl) | (go_simp; exact ⟨hbx2, rfl⟩)) (fun _ => hS0) ?_
     clear hbx hbx2
     refine S_one 4 (by kernel_rfl) rfl (fun K hK => ?_)
     go_simp
     gi_wp2_with (gi_at_call 56; refine (callsIn_wide.2 (n2.out _)).mono ?_; rintro e Wh6 ⟨rfl, hN⟩)
     replace KA3 := hn_ KA3 hN
     replace hS0 := hS0.trans (hN.mono hS0.size)
     clear hN
     refine ⟨(fun _ => hS0), ?_⟩
     refine S_tk 5 (mkV ⟨numB r1, 0, 0, 0, 0, kI⟩) rfl hS0 (fun w' hw => by go_simp; rfl) ?_
     have hS1 : (fun w' => Below W.heap.size W w') (setRow Wh6 (x3n5) 87 (mkA ⟨numB r1, 0, 0, 0, 0, kI⟩)) := Below.row hS0 hb3 hS0.size
     refine S_store 7 (fun _ => trivial) (by kernel_rfl) (by kernel_rfl) rfl (by kernel_rfl) (setRow Wh6 (x3n5) 87 (mkA ⟨numB r1, 0, 0, 0, 0, kI⟩)) (exec_store _ _ rfl (by kernel_rfl) (by kernel_rfl) (stMk KA3.out rfl ⟨numB r1, 0, 0, 0, 0, kI⟩)) (fun _ => hS1) ?_
     clear hS0
     have hS0 := hS1
     clear hS1
     replace KA3 := Lib.hid (Blk.row (t := 87) (cs := mkA ⟨numB r1, 0, 0, 0, 0, kI⟩) KA3.out.lt)
     refine ⟨by kernel_rfl, rfl, ?_⟩
     go_wp2_with fail
     go_meet
     case rel => exact ⟨_, rfl, K0.out.below hS0, K1.out.below hS0, KA3.out, Nat.lt_of_lt_of_le l1 hb3, Below.on hS0 HB⟩
   ·show wpOpIn _ _ _ _ _ 6 _ _ _
    obtain ⟨x3n7, hbx⟩ : ∃ x, Wh1.heap.size = x := ⟨_, rfl⟩
    have hbx2 := hbx
    (try simp [go_sem] at hbx2)
    have hb3 : W.heap.size ≤ x3n7 := by rw [← hbx]; exact hS0.size
    have KA3 := Blk.new0 Wh1 87 (mkA Mk.zero)
    rw [hbx] at KA3
    replace KA3 := Lib.hid KA3
    replace hS0 : Below _ _ (Wh1.alloc (.cells (mkA Mk.zero) 87)) := hS0.alloc hS0.size _
    refine op_go (nd := fun j => true) (S := fun w' => Below W.heap.size W w') (i := 6) (fun _ => trivial) (by kernel_rfl) rfl (by kernel_rfl) (.pointer (some ⟨x3n7, 0, none⟩)) (Wh1.alloc (.cells (mkA Mk.zero) 87)) (by first | (go_simp; done) | (go_simp; rfl) | (go_simp; exact ⟨hbx2, rfl⟩)) (fun _ => hS0) ?_
    clear hbx hbx2
    refine S_one 2 (by kernel_rfl) rfl (fun K hK => ?_)
    go_simp
    gi_wp2_with (gi_at_call 125; refine (callsIn_wide.2 (n8.out r1 _)).mono ?_; rintro e Wh8 ⟨rfl, hN⟩; obtain rfl : (Wh1.alloc (.cells (mkA Mk.zero) 87)) = Wh8 := (by first | exact hN | exact hN.symm))
    refine ⟨(fun _ => hS0), ?_⟩
    refine S_one 4 (by kernel_rfl) rfl (fun K hK => ?_)
    go_simp
    gi_wp2_with (gi_at_call 56; refine (callsIn_wide.2 (n2.out _)).mono ?_; rintro e Wh9 ⟨rfl, hN⟩)
    replace KA3 := hn_ KA3 hN
    replace hS0 := hS0.trans (hN.mono hS0.size)
    clear hN
    refine ⟨(fun _ => hS0), ?_⟩
    refine S_tk 5 (mkV ⟨numB r1, 0, 0, 0, 0, kI⟩) rfl hS0 (fun w' hw => by go_simp; rfl) ?_
    have hS1 : (fun w' => Below W.heap.size W w') (setRow Wh9 (x3n7) 87 (mkA ⟨numB r1, 0, 0, 0, 0, kI⟩)) := Below.row hS0 hb3 hS0.size
    refine S_store 7 (fun _ => trivial) (by kernel_rfl) (by kernel_rfl) rfl (by kernel_rfl) (setRow Wh9 (x3n7) 87 (mkA ⟨numB r1, 0, 0, 0, 0, kI⟩)) (exec_store _ _ rfl (by kernel_rfl) (by kernel_rfl) (stMk KA3.out rfl ⟨numB r1, 0, 0, 0, 0, kI⟩)) (fun _ => hS1) ?_
    clear hS0
    have hS0 := hS1
    clear hS1
    replace KA3 := Lib.hid (Blk.row (t := 87) (cs := mkA ⟨numB r1, 0, 0, 0, 0, kI⟩) KA3.out.lt)
    refine ⟨by kernel_rfl, rfl, ?_⟩
    go_wp2_with fail
    go_meet
    case rel => exact ⟨_, rfl, K0.out.below hS0, K1.out.below hS0, KA3.out, Nat.lt_of_lt_of_le l1 hb3, Below.on hS0 HB⟩
  ·show wpOpIn _ _ _ _ _ 6 _ _ _
   obtain ⟨x3n10, hbx⟩ : ∃ x, W.drew.heap.size = x := ⟨_, rfl⟩
   have hbx2 := hbx
   (try simp [go_sem] at hbx2)
   have hb3 : W.heap.size ≤ x3n10 := by rw [← hbx]; exact hS0.size
   have KA3 := Blk.new0 W.drew 87 (mkA Mk.zero)
   rw [hbx] at KA3
   replace KA3 := Lib.hid KA3
   replace hS0 : Below _ _ (W.drew.alloc (.cells (mkA Mk.zero) 87)) := hS0.alloc hS0.size _
   refine op_go (nd := fun j => true) (S := fun w' => Below W.heap.size W w') (i := 6) (fun _ => trivial) (by kernel_rfl) rfl (by kernel_rfl) (.pointer (some ⟨x3n10, 0, none⟩)) (W.drew.alloc (.cells (mkA Mk.zero) 87)) (by first | (go_simp; done) | (go_simp; rfl) | (go_simp; exact ⟨hbx2, rfl⟩)) (fun _ => hS0) ?_
   clear hbx hbx2
   refine S_one 1 (by kernel_rfl) rfl (fun K hK => ?_)
   go_simp
   gi_wp2_with (gi_at_call 83; refine (callsIn_wide.2 (n1.out _)).mono ?_; rintro e Wh11 ⟨rfl, hN⟩)
   replace KA3 := hn_ KA3 hN
   replace hS0 := hS0.trans (hN.mono hS0.size)
   clear hN
   refine ⟨(fun _ => hS0), ?_⟩
   refine S_one 2 (by kernel_rfl) rfl (fun K hK => ?_)
   go_simp
   gi_wp2_with (gi_at_call 125; refine (callsIn_wide.2 (n8.out r1 _)).mono ?_; rintro e Wh12 ⟨rfl, hN⟩; obtain rfl : Wh11 = Wh12 := (by first | exact hN | exact hN.symm))
   refine ⟨(fun _ => hS0), ?_⟩
   refine S_one 4 (by kernel_rfl) rfl (fun K hK => ?_)
   go_simp
   gi_wp2_with (gi_at_call 56; refine (callsIn_wide.2 (n2.out _)).mono ?_; rintro e Wh13 ⟨rfl, hN⟩)
   replace KA3 := hn_ KA3 hN
   replace hS0 := hS0.trans (hN.mono hS0.size)
   clear hN
   refine ⟨(fun _ => hS0), ?_⟩
   refine S_tk 5 (mkV ⟨numB r1, 0, 0, 0, 0, kI⟩) rfl hS0 (fun w' hw => by go_simp; rfl) ?_
   have hS1 : (fun w' => Below W.heap.size W w') (setRow Wh13 (x3n10) 87 (mkA ⟨numB r1, 0, 0, 0, 0, kI⟩)) := Below.row hS0 hb3 hS0.size
   refine S_store 7 (fun _ => trivial) (by kernel_rfl) (by kernel_rfl) rfl (by kernel_rfl) (setRow Wh13 (x3n10) 87 (mkA ⟨numB r1, 0, 0, 0, 0, kI⟩)) (exec_store _ _ rfl (by kernel_rfl) (by kernel_rfl) (stMk KA3.out rfl ⟨numB r1, 0, 0, 0, 0, kI⟩)) (fun _ => hS1) ?_
   clear hS0
   have hS0 := hS1
   clear hS1
   replace KA3 := Lib.hid (Blk.row (t := 87) (cs := mkA ⟨numB r1, 0, 0, 0, 0, kI⟩) KA3.out.lt)
   refine ⟨by kernel_rfl, rfl, ?_⟩
   go_wp2_with fail
   go_meet
   case rel => exact ⟨_, rfl, K0.out.below hS0, K1.out.below hS0, KA3.out, Nat.lt_of_lt_of_le l1 hb3, Below.on hS0 HB⟩
 case rest =>
  obtain ⟨b, rfl, hW⟩ := hcut
  have hgb := hW.2.2.2.1
  have j0 := Lib.hid hW.1
  have j1 := Lib.hid hW.2.1
  have j2 := Lib.hid hW.2.2.1
  have HBn := hW.2.2.2.2
  clear hW k0 f0 l0 m0 k1 f1 l1 m1 K0 K1 HB
  have K0 := j0; have K1 := j1; have K2 := j2; have HB := HBn
  clear j0 j1 j2 HBn
  (obtain ⟨k0, f0, l0, m0⟩ := rl_ K0; obtain ⟨k1, f1, l1, m1⟩ := rl_ K1; obtain ⟨k2, f2, l2, m2⟩ := rl_ K2)
  obtain ⟨fw, hfw⟩ : ∃ fw : Int, (if r1 = true then 0 else kI) = fw := ⟨_, rfl⟩
  have hM2 := hM.out
  rw [hfw] at hM2
  replace hM2 := Lib.hid hM2
  replace hfw := Lib.hid hfw
  clear hM
  go_wp2_with (first | (with_reducible refine wlr (ldUp _ K0.out) rfl ?_) | (with_reducible refine wlg (ldUp _ K0.out) (by with_unfolding_all rfl) rfl ?_))
  (refine (n1.out _).mono ?_; rintro e w1 ⟨rfl, hN⟩; replace K0 := hn_ K0 hN; replace K1 := hn_ K1 hN; replace K2 := hn_ K2 hN; replace HB : Below w.heap.size w w1 := Below.on hN HB; clear hN k0 f0 l0 m0 k1 f1 l1 m1 k2 f2 l2 m2; obtain ⟨k0, f0, l0, m0⟩ := rl_ K0; obtain ⟨k1, f1, l1, m1⟩ := rl_ K1; obtain ⟨k2, f2, l2, m2⟩ := rl_ K2)
  go_upto_if 12 with fail
  go_cut [] (fun wx => MrW w g b u ⟨numB r1, fw, 0, 0, 0, kI⟩ wx)
  case first =>
   cases r1 with
   | false =>
    obtain rfl : kI = fw := by have := hfw.out; simpa using this
    go_wp2_with (first | (with_reducible refine wlr (ldUp _ K0.out) rfl ?_) | (with_reducible refine wlg (ldUp _ K0.out) (by with_unfolding_all rfl) rfl ?_))
    (refine (n2.out _).mono ?_; rintro e w2 ⟨rfl, hN⟩; replace K0 := hn_ K0 hN; replace K1 := hn_ K1 hN; replace K2 := hn_ K2 hN; replace HB : Below w.heap.size w w2 := Below.on hN HB; clear hN k0 f0 l0 m0 k1 f1 l1 m1 k2 f2 l2 m2; obtain ⟨k0, f0, l0, m0⟩ := rl_ K0; obtain ⟨k1, f1, l1, m1⟩ := rl_ K1; obtain ⟨k2, f2, l2, m2⟩ := rl_ K2)
    (go_wp2_with (first | (with_reducible refine wsh (stcMk_few _ K2.out (kI)) rfl rfl ?_)); generalize hWN : setRow _ _ _ _ = WN; replace K2 := Lib.hid (show Blk WN _ _ _ by rw [← hWN]; exact Blk.row K2.out.lt); replace K0 := Lib.hid (show Blk WN _ _ _ by rw [← hWN]; exact Blk.rowOver (by omega) K0.out); replace K1 := Lib.hid (show Blk WN _ _ _ by rw [← hWN]; exact Blk.rowOver (by omega) K1.out); replace HB : Below w.heap.size w WN := (by rw [← hWN]; exact Below.row HB (by omega) HB.size); clear hWN k2 f2 l2 m2 k0 f0 l0 m0 k1 f1 l1 m1; obtain ⟨k2, f2, l2, m2⟩ := rl_ K2; obtain ⟨k0, f0, l0, m0⟩ := rl_ K0; obtain ⟨k1, f1, l1, m1⟩ := rl_ K1; unfold Halted)
    go_wp2_with fail
    go_meet
    case rel => exact ⟨K0.out, K1.out, K2.out, hgb, HB⟩
   | true =>
    obtain rfl : 0 = fw := by have := hfw.out; simpa using this
    go_wp2_with fail
    go_meet
    case rel => exact ⟨K0.out, K1.out, K2.out, hgb, HB⟩
  case rest =>
   have hW := hcut
   have j0 := Lib.hid hW.1
   have j1 := Lib.hid hW.2.1
   have j2 := Lib.hid hW.2.2.1
   have HBn := hW.2.2.2.2
   clear hW k0 f0 l0 m0 k1 f1 l1 m1 k2 f2 l2 m2 K0 K1 K2 HB
   have K0 := j0; have K1 := j1; have K2 := j2; have HB := HBn
   clear j0 j1 j2 HBn
   (obtain ⟨k0, f0, l0, m0⟩ := rl_ K0; obtain ⟨k1, f1, l1, m1⟩ := rl_ K1; obtain ⟨k2, f2, l2, m2⟩ := rl_ K2)
   clear n1 n2
   go_upto_region 4 with fail
   go_cut [] (fun wx => MrW w g b u ⟨numB r1, fw, numB (r3 && b1), 0, 0, kI⟩ wx)
   case first =>
    obtain ⟨W, hWc⟩ : ∃ W, W = wc := ⟨_, rfl⟩
    subst hWc
    cases r3 with
    | false =>
     have hwf : ∀ f, Fence.wide.fn f := fun _ => trivial
     refine (wpIn_wide (n := 9)).1 ?_
     refine wpIn_round_held (fun w' => Below W.heap.size W w') (fun j => !decide (j ∈ [15])) (by kernel_rfl) ?_
     have hS0 : (fun w' => Below W.heap.size W w') W.drew := (Below.refl _ _).drew
     have KA100 := Lib.hid (K0.out.drew)
     have KA101 := Lib.hid (K1.out.drew)
     have KA102 := Lib.hid (K2.out.drew)
     have HBt := HB.drew
     refine S_tk 0 (upV (u)) rfl hS0 (fun w' hw => exec_load rfl (by kernel_rfl) (ldUp (u) (K0.out.below hw))) ?_
     refine S_one 1 (by kernel_rfl) rfl (fun K hK => ?_)
     go_simp
     gi_wp2_with (gi_at_call 80; refine (callsIn_wide.2 (n3.out _)).mono ?_; rintro e Wh1 ⟨rfl, hN⟩)
     replace KA100 := hn_ KA100 hN
     replace KA101 := hn_ KA101 hN
     replace KA102 := hn_ KA102 hN
     replace HBt := Below.on hN HBt
     replace hS0 := hS0.trans (hN.mono hS0.size)
     clear hN
     refine ⟨(fun _ => hS0), ?_⟩
     refine S_tg 2 (.bool false) rfl hS0 ?_
     refine S_sk 3 rfl hS0 ?_
     refine S_sk 4 rfl hS0 ?_
     refine S_sk 5 rfl hS0 ?_
     refine S_sk 6 rfl hS0 ?_
     refine S_sk 7 rfl hS0 ?_
     refine S_sk 8 rfl hS0 ?_
     refine S_sk 9 rfl hS0 ?_
     refine S_sk 10 rfl hS0 ?_
     refine S_sk 11 rfl hS0 ?_
     refine S_tg 12 (.bool false) rfl hS0 ?_
     refine S_one 13 (by kernel_rfl) rfl (fun K hK => ?_)
     go_simp
     gi_wp2_with (gi_at_call 125; refine (callsIn_wide.2 (n8.out false _)).mono ?_; rintro e Wh2 ⟨rfl, hN⟩; obtain rfl : Wh1 = Wh2 := (by first | exact hN | exact hN.symm))
     refine ⟨(fun _ => hS0), ?_⟩
     refine S_tg 14 (.pointer (some ⟨b, 2, none⟩)) rfl hS0 ?_
     refine S_store 15 (fun _ => trivial) (by kernel_rfl) (by kernel_rfl) rfl (by kernel_rfl) (setRow Wh1 (b) 87 (mkA ⟨numB r1, fw, numB false, 0, 0, kI⟩)) (exec_store _ _ rfl (by kernel_rfl) (by kernel_rfl) (stcMk_next _ KA102.out (numB false))) (fun h => absurd h (by decide)) ?_
     replace KA100 := Lib.hid (Blk.rowOver (g' := b) (t' := 87) (cs' := mkA ⟨numB r1, fw, numB false, 0, 0, kI⟩) (by first | assumption | omega) KA100.out)
     replace KA101 := Lib.hid (Blk.rowOver (g' := b) (t' := 87) (cs' := mkA ⟨numB r1, fw, numB false, 0, 0, kI⟩) (by first | assumption | omega) KA101.out)
     replace KA102 := Lib.hid (Blk.row (t := 87) (cs := mkA ⟨numB r1, fw, numB false, 0, 0, kI⟩) KA102.out.lt)
     replace HBt := Below.row HBt (g := b) (t := 87) (cs := mkA ⟨numB r1, fw, numB false, 0, 0, kI⟩) (by omega) HBt.size
     refine ⟨by kernel_rfl, rfl, ?_⟩
     obtain ⟨WN, hWN⟩ : ∃ WN, (setRow Wh1 (b) 87 (mkA ⟨numB r1, fw, numB false, 0, 0, kI⟩)) = WN := ⟨_, rfl⟩
     rw [hWN] at KA100 KA101 KA102 HBt ⊢
     clear hWN hwf hS0 HB
     have HB := HBt
     clear HBt
     clear K0 k0 f0 l0 m0
     clear K1 k1 f1 l1 m1
     clear K2 k2 f2 l2 m2
     have K0 := KA100
     clear KA100
     have K1 := KA101
     clear KA101
     have K2 := KA102
     clear KA102
     (obtain ⟨k0, f0, l0, m0⟩ := rl_ K0; obtain ⟨k1, f1, l1, m1⟩ := rl_ K1; obtain ⟨k2, f2, l2, m2⟩ := rl_ K2)
     go_wp2_with fail
     go_meet
     case rel => exact ⟨K0.out, K1.out, K2.out, hgb, HB⟩
    | true =>
     have hwf : ∀ f, Fence.wide.fn f := fun _ => trivial
     refine (wpIn_wide (n := 9)).1 ?_
     refine wpIn_round_held (fun w' => Below W.heap.size W w') (fun j => !decide (j ∈ [15])) (by kernel_rfl) ?_
     have hS0 : (fun w' => Below W.heap.size W w') W.drew := (Below.refl _ _).drew
     have KA100 := Lib.hid (K0.out.drew)
     have KA101 := Lib.hid (K1.out.drew)
     have KA102 := Lib.hid (K2.out.drew)
     have HBt := HB.drew
     refine S_tk 0 (upV (u)) rfl hS0 (fun w' hw => exec_load rfl (by kernel_rfl) (ldUp (u) (K0.out.below hw))) ?_
     refine S_one 1 (by kernel_rfl) rfl (fun K hK => ?_)
     go_simp
     gi_wp2_with (gi_at_call 80; refine (callsIn_wide.2 (n3.out _)).mono ?_; rintro e Wh1 ⟨rfl, hN⟩)
     replace KA100 := hn_ KA100 hN
     replace KA101 := hn_ KA101 hN
     replace KA102 := hn_ KA102 hN
     replace HBt := Below.on hN HBt
     replace hS0 := hS0.trans (hN.mono hS0.size)
     clear hN
     refine ⟨(fun _ => hS0), ?_⟩
     refine S_tg 2 (.bool true) rfl hS0 ?_
     refine S_tg 3 (.pointer (some ⟨g, 0, none⟩)) rfl hS0 ?_
     refine S_tg 4 (.pointer (some ⟨g, 0, none⟩)) rfl hS0 ?_
     refine S_tg 5 (.pointer (some ⟨g, 0, none⟩)) rfl hS0 ?_
     refine S_tk 6 (.int .u64 (u.seen.b.slot : Int)) rfl hS0 (fun w' hw => exec_load rfl (by kernel_rfl) (run_load_cell (i := 0) (K0.out.below hw) rfl szU64 nrU64)) ?_
     refine S_tg 8 (.pointer (some ⟨g, 24, none⟩)) rfl hS0 ?_
     refine S_tk 9 (.int .u64 (u.slot : Int)) rfl hS0 (fun w' hw => exec_load rfl (by kernel_rfl) (run_load_cell (i := 24) (K0.out.below hw) rfl szU64 nrU64)) ?_
     refine S_one 7 (by kernel_rfl) rfl (fun K hK => ?_)
     go_simp
     gi_wp2_with (gi_at_call 82; refine (callsIn_wide.2 (n5.out _)).mono ?_; rintro e Wh2 ⟨rfl, hN⟩; obtain rfl : Wh1 = Wh2 := (by first | exact hN | exact hN.symm))
     refine ⟨(fun _ => hS0), ?_⟩
     refine S_one 10 (by kernel_rfl) rfl (fun K hK => ?_)
     go_simp
     gi_wp2_with (gi_at_call 82; refine (callsIn_wide.2 (n6.out _)).mono ?_; rintro e Wh3 ⟨rfl, hN⟩; obtain rfl : Wh1 = Wh3 := (by first | exact hN | exact hN.symm))
     refine ⟨(fun _ => hS0), ?_⟩
     refine S_tg 11 (.bool b1) rfl hS0 ?_
     refine S_tg 12 (.bool b1) rfl hS0 ?_
     refine S_one 13 (by kernel_rfl) rfl (fun K hK => ?_)
     go_simp
     gi_wp2_with (gi_at_call 125; refine (callsIn_wide.2 (n8.out b1 _)).mono ?_; rintro e Wh4 ⟨rfl, hN⟩; obtain rfl : Wh1 = Wh4 := (by first | exact hN | exact hN.symm))
     refine ⟨(fun _ => hS0), ?_⟩
     refine S_tg 14 (.pointer (some ⟨b, 2, none⟩)) rfl hS0 ?_
     refine S_store 15 (fun _ => trivial) (by kernel_rfl) (by kernel_rfl) rfl (by kernel_rfl) (setRow Wh1 (b) 87 (mkA ⟨numB r1, fw, numB b1, 0, 0, kI⟩)) (exec_store _ _ rfl (by kernel_rfl) (by kernel_rfl) (stcMk_next _ KA102.out (numB b1))) (fun h => absurd h (by decide)) ?_
     replace KA100 := Lib.hid (Blk.rowOver (g' := b) (t' := 87) (cs' := mkA ⟨numB r1, fw, numB b1, 0, 0, kI⟩) (by first | assumption | omega) KA100.out)
     replace KA101 := Lib.hid (Blk.rowOver (g' := b) (t' := 87) (cs' := mkA ⟨numB r1, fw, numB b1, 0, 0, kI⟩) (by first | assumption | omega) KA101.out)
     replace KA102 := Lib.hid (Blk.row (t := 87) (cs := mkA ⟨numB r1, fw, numB b1, 0, 0, kI⟩) KA102.out.lt)
     replace HBt := Below.row HBt (g := b) (t := 87) (cs := mkA ⟨numB r1, fw, numB b1, 0, 0, kI⟩) (by omega) HBt.size
     refine ⟨by kernel_rfl, rfl, ?_⟩
     obtain ⟨WN, hWN⟩ : ∃ WN, (setRow Wh1 (b) 87 (mkA ⟨numB r1, fw, numB b1, 0, 0, kI⟩)) = WN := ⟨_, rfl⟩
     rw [hWN] at KA100 KA101 KA102 HBt ⊢
     clear hWN hwf hS0 HB
     have HB := HBt
     clear HBt
     clear K0 k0 f0 l0 m0
     clear K1 k1 f1 l1 m1
     clear K2 k2 f2 l2 m2
     have K0 := KA100
     clear KA100
     have K1 := KA101
     clear KA101
     have K2 := KA102
     clear KA102
     (obtain ⟨k0, f0, l0, m0⟩ := rl_ K0; obtain ⟨k1, f1, l1, m1⟩ := rl_ K1; obtain ⟨k2, f2, l2, m2⟩ := rl_ K2)
     go_wp2_with fail
     go_meet
     case rel => exact ⟨K0.out, K1.out, K2.out, hgb, HB⟩
   case rest =>
    have hW := hcut
    have j0 := Lib.hid hW.1
    have j1 := Lib.hid hW.2.1
    have j2 := Lib.hid hW.2.2.1
    have HBn := hW.2.2.2.2
    clear hW k0 f0 l0 m0 k1 f1 l1 m1 k2 f2 l2 m2 K0 K1 K2 HB
    have K0 := j0; have K1 := j1; have K2 := j2; have HB := HBn
    clear j0 j1 j2 HBn
    (obtain ⟨k0, f0, l0, m0⟩ := rl_ K0; obtain ⟨k1, f1, l1, m1⟩ := rl_ K1; obtain ⟨k2, f2, l2, m2⟩ := rl_ K2)
    generalize numB (r3 && b1) = nx at *
    go_wp2_with (first | (with_reducible refine wlr (ldUp _ K0.out) rfl ?_) | (with_reducible refine wlg (ldUp _ K0.out) (by with_unfolding_all rfl) rfl ?_))
    (refine (n4.out _).mono ?_; rintro e w4 ⟨rfl, hN⟩; replace K0 := hn_ K0 hN; replace K1 := hn_ K1 hN; replace K2 := hn_ K2 hN; replace HB : Below w.heap.size w w4 := Below.on hN HB; clear hN k0 f0 l0 m0 k1 f1 l1 m1 k2 f2 l2 m2; obtain ⟨k0, f0, l0, m0⟩ := rl_ K0; obtain ⟨k1, f1, l1, m1⟩ := rl_ K1; obtain ⟨k2, f2, l2, m2⟩ := rl_ K2)
    go_wp2_with fail
    refine (n8.out _ _).mono ?_
    rintro e w5 ⟨rfl, rfl⟩
    (go_wp2_with (first | (with_reducible refine wsh (stcMk_final _ K2.out (numB r4)) rfl rfl ?_)); generalize hWN : setRow _ _ _ _ = WN; replace K2 := Lib.hid (show Blk WN _ _ _ by rw [← hWN]; exact Blk.row K2.out.lt); replace K0 := Lib.hid (show Blk WN _ _ _ by rw [← hWN]; exact Blk.rowOver (by omega) K0.out); replace K1 := Lib.hid (show Blk WN _ _ _ by rw [← hWN]; exact Blk.rowOver (by omega) K1.out); replace HB : Below w.heap.size w WN := (by rw [← hWN]; exact Below.row HB (by omega) HB.size); clear hWN k2 f2 l2 m2 k0 f0 l0 m0 k1 f1 l1 m1; obtain ⟨k2, f2, l2, m2⟩ := rl_ K2; obtain ⟨k0, f0, l0, m0⟩ := rl_ K0; obtain ⟨k1, f1, l1, m1⟩ := rl_ K1; unfold Halted)
    go_upto_region 6 with fail
    go_cut [] (fun wx => MrW w g b u ⟨numB r1, fw, nx, numB r4, numB (r4 && b2), kI⟩ wx)
    case first =>
     cases r4 with
     | false =>
      have hwf : ∀ f, Fence.wide.fn f := fun _ => trivial
      refine (wpIn_wide (n := 9)).1 ?_
      refine wpIn_round_held (fun w' => Below WN.heap.size WN w') (fun j => !decide (j ∈ [17])) (by kernel_rfl) ?_
      have hS0 : (fun w' => Below WN.heap.size WN w') WN.drew := (Below.refl _ _).drew
      have KA100 := Lib.hid (K0.out.drew)
      have KA101 := Lib.hid (K1.out.drew)
      have KA102 := Lib.hid (K2.out.drew)
      have HBt := HB.drew
      refine S_tk 0 (upV (u)) rfl hS0 (fun w' hw => exec_load rfl (by kernel_rfl) (ldUp (u) (K0.out.below hw))) ?_
      refine S_one 1 (by kernel_rfl) rfl (fun K hK => ?_)
      go_simp
      gi_wp2_with (gi_at_call 81; refine (callsIn_wide.2 (n4.out _)).mono ?_; rintro e WNh1 ⟨rfl, hN⟩)
      replace KA100 := hn_ KA100 hN
      replace KA101 := hn_ KA101 hN
      replace KA102 := hn_ KA102 hN
      replace HBt := Below.on hN HBt
      replace hS0 := hS0.trans (hN.mono hS0.size)
      clear hN
      refine ⟨(fun _ => hS0), ?_⟩
      refine S_tg 2 (.bool false) rfl hS0 ?_
      refine S_sk 3 rfl hS0 ?_
      refine S_sk 4 rfl hS0 ?_
      refine S_sk 5 rfl hS0 ?_
      refine S_sk 6 rfl hS0 ?_
      refine S_sk 7 rfl hS0 ?_
      refine S_sk 8 rfl hS0 ?_
      refine S_sk 9 rfl hS0 ?_
      refine S_sk 10 rfl hS0 ?_
      refine S_sk 11 rfl hS0 ?_
      refine S_sk 12 rfl hS0 ?_
      refine S_sk 13 rfl hS0 ?_
      refine S_tg 14 (.bool false) rfl hS0 ?_
      refine S_one 15 (by kernel_rfl) rfl (fun K hK => ?_)
      go_simp
      gi_wp2_with (gi_at_call 125; refine (callsIn_wide.2 (n8.out false _)).mono ?_; rintro e WNh2 ⟨rfl, hN⟩; obtain rfl : WNh1 = WNh2 := (by first | exact hN | exact hN.symm))
      refine ⟨(fun _ => hS0), ?_⟩
      refine S_tg 16 (.pointer (some ⟨b, 4, none⟩)) rfl hS0 ?_
      refine S_store 17 (fun _ => trivial) (by kernel_rfl) (by kernel_rfl) rfl (by kernel_rfl) (setRow WNh1 (b) 87 (mkA ⟨numB r1, fw, nx, numB false, numB false, kI⟩)) (exec_store _ _ rfl (by kernel_rfl) (by kernel_rfl) (stcMk_own _ KA102.out (numB false))) (fun h => absurd h (by decide)) ?_
      replace KA100 := Lib.hid (Blk.rowOver (g' := b) (t' := 87) (cs' := mkA ⟨numB r1, fw, nx, numB false, numB false, kI⟩) (by first | assumption | omega) KA100.out)
      replace KA101 := Lib.hid (Blk.rowOver (g' := b) (t' := 87) (cs' := mkA ⟨numB r1, fw, nx, numB false, numB false, kI⟩) (by first | assumption | omega) KA101.out)
      replace KA102 := Lib.hid (Blk.row (t := 87) (cs := mkA ⟨numB r1, fw, nx, numB false, numB false, kI⟩) KA102.out.lt)
      replace HBt := Below.row HBt (g := b) (t := 87) (cs := mkA ⟨numB r1, fw, nx, numB false, numB false, kI⟩) (by omega) HBt.size
      refine ⟨by kernel_rfl, rfl, ?_⟩
      obtain ⟨WN, hWN⟩ : ∃ WN, (setRow WNh1 (b) 87 (mkA ⟨numB r1, fw, nx, numB false, numB false, kI⟩)) = WN := ⟨_, rfl⟩
      rw [hWN] at KA100 KA101 KA102 HBt ⊢
      clear hWN hwf hS0 HB
      have HB := HBt
      clear HBt
      clear K0 k0 f0 l0 m0
      clear K1 k1 f1 l1 m1
      clear K2 k2 f2 l2 m2
      have K0 := KA100
      clear KA100
      have K1 := KA101
      clear KA101
      have K2 := KA102
      clear KA102
      (obtain ⟨k0, f0, l0, m0⟩ := rl_ K0; obtain ⟨k1, f1, l1, m1⟩ := rl_ K1; obtain ⟨k2, f2, l2, m2⟩ := rl_ K2)
      go_wp2_with fail
      go_meet
      case rel => exact ⟨K0.out, K1.out, K2.out, hgb, HB⟩
     | true =>
      have hwf : ∀ f, Fence.wide.fn f := fun _ => trivial
      refine (wpIn_wide (n := 9)).1 ?_
      refine wpIn_round_held (fun w' => Below WN.heap.size WN w') (fun j => !decide (j ∈ [17])) (by kernel_rfl) ?_
      have hS0 : (fun w' => Below WN.heap.size WN w') WN.drew := (Below.refl _ _).drew
      have KA100 := Lib.hid (K0.out.drew)
      have KA101 := Lib.hid (K1.out.drew)
      have KA102 := Lib.hid (K2.out.drew)
      have HBt := HB.drew
      refine S_tk 0 (upV (u)) rfl hS0 (fun w' hw => exec_load rfl (by kernel_rfl) (ldUp (u) (K0.out.below hw))) ?_
      refine S_one 1 (by kernel_rfl) rfl (fun K hK => ?_)
      go_simp
      gi_wp2_with (gi_at_call 81; refine (callsIn_wide.2 (n4.out _)).mono ?_; rintro e WNh1 ⟨rfl, hN⟩)
      replace KA100 := hn_ KA100 hN
      replace KA101 := hn_ KA101 hN
      replace KA102 := hn_ KA102 hN
      replace HBt := Below.on hN HBt
      replace hS0 := hS0.trans (hN.mono hS0.size)
      clear hN
      refine ⟨(fun _ => hS0), ?_⟩
      refine S_tg 2 (.bool true) rfl hS0 ?_
      refine S_tg 3 (.pointer (some ⟨g, 12, none⟩)) rfl hS0 ?_
      refine S_tg 4 (.pointer (some ⟨g, 12, none⟩)) rfl hS0 ?_
      refine S_tg 5 (.pointer (some ⟨g, 12, none⟩)) rfl hS0 ?_
      refine S_tk 6 (.int .u64 (u.fin.b.slot : Int)) rfl hS0 (fun w' hw => exec_load rfl (by kernel_rfl) (run_load_cell (i := 12) (K0.out.below hw) rfl szU64 nrU64)) ?_
      refine S_tg 8 (.pointer (some ⟨g, 0, none⟩)) rfl hS0 ?_
      refine S_tg 9 (.pointer (some ⟨g, 0, none⟩)) rfl hS0 ?_
      refine S_tg 10 (.pointer (some ⟨g, 0, none⟩)) rfl hS0 ?_
      refine S_tk 11 (.int .u64 (u.seen.b.slot : Int)) rfl hS0 (fun w' hw => exec_load rfl (by kernel_rfl) (run_load_cell (i := 0) (K0.out.below hw) rfl szU64 nrU64)) ?_
      refine S_one 7 (by kernel_rfl) rfl (fun K hK => ?_)
      go_simp
      gi_wp2_with (gi_at_call 82; refine (callsIn_wide.2 (n7.out _)).mono ?_; rintro e WNh2 ⟨rfl, hN⟩; obtain rfl : WNh1 = WNh2 := (by first | exact hN | exact hN.symm))
      refine ⟨(fun _ => hS0), ?_⟩
      refine S_one 12 (by kernel_rfl) rfl (fun K hK => ?_)
      go_simp
      gi_wp2_with (gi_at_call 82; refine (callsIn_wide.2 (n5.out _)).mono ?_; rintro e WNh3 ⟨rfl, hN⟩; obtain rfl : WNh1 = WNh3 := (by first | exact hN | exact hN.symm))
      refine ⟨(fun _ => hS0), ?_⟩
      refine S_tg 13 (.bool b2) rfl hS0 ?_
      refine S_tg 14 (.bool b2) rfl hS0 ?_
      refine S_one 15 (by kernel_rfl) rfl (fun K hK => ?_)
      go_simp
      gi_wp2_with (gi_at_call 125; refine (callsIn_wide.2 (n8.out b2 _)).mono ?_; rintro e WNh4 ⟨rfl, hN⟩; obtain rfl : WNh1 = WNh4 := (by first | exact hN | exact hN.symm))
      refine ⟨(fun _ => hS0), ?_⟩
      refine S_tg 16 (.pointer (some ⟨b, 4, none⟩)) rfl hS0 ?_
      refine S_store 17 (fun _ => trivial) (by kernel_rfl) (by kernel_rfl) rfl (by kernel_rfl) (setRow WNh1 (b) 87 (mkA ⟨numB r1, fw, nx, numB true, numB b2, kI⟩)) (exec_store _ _ rfl (by kernel_rfl) (by kernel_rfl) (stcMk_own _ KA102.out (numB b2))) (fun h => absurd h (by decide)) ?_
      replace KA100 := Lib.hid (Blk.rowOver (g' := b) (t' := 87) (cs' := mkA ⟨numB r1, fw, nx, numB true, numB b2, kI⟩) (by first | assumption | omega) KA100.out)
      replace KA101 := Lib.hid (Blk.rowOver (g' := b) (t' := 87) (cs' := mkA ⟨numB r1, fw, nx, numB true, numB b2, kI⟩) (by first | assumption | omega) KA101.out)
      replace KA102 := Lib.hid (Blk.row (t := 87) (cs := mkA ⟨numB r1, fw, nx, numB true, numB b2, kI⟩) KA102.out.lt)
      replace HBt := Below.row HBt (g := b) (t := 87) (cs := mkA ⟨numB r1, fw, nx, numB true, numB b2, kI⟩) (by omega) HBt.size
      refine ⟨by kernel_rfl, rfl, ?_⟩
      obtain ⟨WN, hWN⟩ : ∃ WN, (setRow WNh1 (b) 87 (mkA ⟨numB r1, fw, nx, numB true, numB b2, kI⟩)) = WN := ⟨_, rfl⟩
      rw [hWN] at KA100 KA101 KA102 HBt ⊢
      clear hWN hwf hS0 HB
      have HB := HBt
      clear HBt
      clear K0 k0 f0 l0 m0
      clear K1 k1 f1 l1 m1
      clear K2 k2 f2 l2 m2
      have K0 := KA100
      clear KA100
      have K1 := KA101
      clear KA101
      have K2 := KA102
      clear KA102
      (obtain ⟨k0, f0, l0, m0⟩ := rl_ K0; obtain ⟨k1, f1, l1, m1⟩ := rl_ K1; obtain ⟨k2, f2, l2, m2⟩ := rl_ K2)
      go_wp2_with fail
      go_meet
      case rel => exact ⟨K0.out, K1.out, K2.out, hgb, HB⟩
    case rest =>
     have hW := hcut
     have j0 := Lib.hid hW.1
     have j1 := Lib.hid hW.2.1
     have j2 := Lib.hid hW.2.2.1
     have HBn := hW.2.2.2.2
     clear hW k0 f0 l0 m0 k1 f1 l1 m1 k2 f2 l2 m2 K0 K1 K2 HB
     have K0 := j0; have K1 := j1; have K2 := j2; have HB := HBn
     clear j0 j1 j2 HBn
     (obtain ⟨k0, f0, l0, m0⟩ := rl_ K0; obtain ⟨k1, f1, l1, m1⟩ := rl_ K1; obtain ⟨k2, f2, l2, m2⟩ := rl_ K2)
     (go_wp2_with (first | (with_reducible refine wlr (ldMk _ K2.out) rfl ?_) | (with_reducible refine wlg (ldMk _ K2.out) (by with_unfolding_all rfl) rfl ?_) | (with_reducible refine wsh (stMk2 _ K1.out (⟨numB r1, fw, nx, numB r4, numB (r4 && b2), kI⟩)) rfl rfl ?_)); generalize hWN : setRow _ _ _ _ = WN; replace K1 := Lib.hid (show Blk WN _ _ _ by rw [← hWN]; exact Blk.row K1.out.lt); replace K0 := Lib.hid (show Blk WN _ _ _ by rw [← hWN]; exact Blk.rowOver (by omega) K0.out); replace K2 := Lib.hid (show Blk WN _ _ _ by rw [← hWN]; exact Blk.rowOver (by omega) K2.out); replace HB : Below w.heap.size w WN := (by rw [← hWN]; exact Below.row HB (by omega) HB.size); clear hWN k1 f1 l1 m1 k0 f0 l0 m0 k2 f2 l2 m2; obtain ⟨k1, f1, l1, m1⟩ := rl_ K1; obtain ⟨k0, f0, l0, m0⟩ := rl_ K0; obtain ⟨k2, f2, l2, m2⟩ := rl_ K2; unfold Halted)
     go_wp2_with fail
     exact bodyPost_ret (results_cell rfl rfl (ldMk _ K1.out)) rfl ⟨by rw [hM2.out], HB⟩
end Go.Proofs.YtegaaccioppfjaaGreatDoor
end
