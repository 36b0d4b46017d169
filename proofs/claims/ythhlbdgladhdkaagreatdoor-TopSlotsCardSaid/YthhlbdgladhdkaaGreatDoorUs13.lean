/- What the later texts stand on (Kec3, Fit, Ref1, Ref2, Ref3, Ref4): plain laws and walks, each by its own conditions. -/
import Derived.Test.YthhlbdgladhdkaaGreatDoorUs12
import Derived.Test.YthhlbdgladhdkaaGreatDoorUs5
import Derived.Test.YthhlbdgladhdkaaGreatDoorUs4
import Derived.Test.YthhlbdgladhdkaaGreatDoorShelf
import Derived.Test.YthhlbdgladhdkaaGreatDoorUs9
set_option linter.unusedSimpArgs false
set_option linter.unusedVariables false
section
namespace Go.Proofs.YthhlbdgladhdkaaGreatDoor
open BigFrame Go.RowKit Go.Phx Go.Shelf
attribute [local go_sem] Oper.semAt_some

def padJ (s : Bytes) (k : Nat) : Bytes := s ++ 1 :: List.replicate k 0
theorem padJ_len (l : List UInt8) (k : Nat) : (padJ l k).length = l.length + 1 + k := by simp [padJ]; omega
theorem padJ_succ (l : List UInt8) (k : Nat) : padJ l (k + 1) = padJ l k ++ [0] := by unfold padJ; rw [List.replicate_succ']; simp
def padC (s : Bytes) : Nat := (136 - (s.length + 1) % 136) % 136
noncomputable def padK (s : Bytes) : Bytes := shutV ((padJ s (padC s)).set (s.length + padC s) (UInt8.ofNat (((padJ s (padC s)).getD (s.length + padC s) 0).toNat ^^^ 128)))
theorem padK_len (s : Bytes) : (padK s).length = s.length + 1 + padC s := by unfold padK; rw [shutV_eq, List.length_set, padJ_len]
noncomputable def blkK (s : Bytes) : Nat := (padK s).length / 136
theorem blkK_mul (s : Bytes) : (padK s).length = 136 * blkK s := by
 unfold blkK
 rw [padK_len]
 unfold padC
 omega
theorem blkK_pos (s : Bytes) : 0 < blkK s := by have := blkK_mul s; rw [padK_len] at this; omega
def absK (A : List Int) (b : Bytes) (o : Nat) : Nat → List Int
 | 0 => A
 | k + 1 => (absK A b o k).set (k / 8) (bits .xor .u64 ((absK A b o k).getD (k / 8) 0) (IntKind.u64.wrap (((b.getD (o + k) 0).toNat : Int) * 2 ^ (8 * (k % 8)))))
theorem absK_len (A : List Int) (b : Bytes) (o k : Nat) : (absK A b o k).length = A.length := by
 induction k with
 | zero => rfl
 | succ k ih => simp [absK, ih]
noncomputable def absF (A : List Int) (b : Bytes) (o : Nat) : List Int := shutV (perK (shutV (absK A b o 136)) 24)
noncomputable def stK (b : Bytes) : Nat → List Int
 | 0 => shutV (List.replicate 25 0)
 | j + 1 => absF (stK b j) b (136 * j)
theorem stK_len (b : Bytes) (j : Nat) : (stK b j).length = 25 := by
 induction j with
 | zero => rw [stK, shutV_eq, List.length_replicate]
 | succ j ih => rw [stK, absF, shutV_eq, perK_len, shutV_eq, absK_len, ih]
def outK (A : List Int) (k : Nat) : Bytes := (List.range k).map fun i => UInt8.ofNat (A.getD (i / 8) 0 / 2 ^ (8 * (i % 8)) % 256).toNat
noncomputable def kecc (s : Bytes) : Bytes := shutV (outK (stK (padK s) (blkK s)) 32)
theorem kecc_len (s : Bytes) : (kecc s).length = 32 := by unfold kecc; rw [shutV_eq]; simp [outK]
theorem join1_calls (s : Bytes) (hs : s.length ≤ 100000000000000) (A : Option Addr) (c : Nat) (hc : 1 ≤ c) (w : World) (h : Txts w A [s]) : Calls Tryz.prog 11 #[.slice A 1 c, .string ⟨#[]⟩] w (Ret w (.string (bs s))) := by
 obtain ⟨b, o, rfl, hb, h0⟩ := h.at 0 (by simp)
 have := Tryz.strings_Join b o c [bs s] ⟨#[]⟩ w (fun j x hx => by
  match j, hx with
  | 0, hx => simp at hx; rw [← hx]; exact h0) hb (by simp) (by simpa using hc) (by simp [Lib.join, bs]; omega)
 refine this.mono ?_
 rintro e w' ⟨rfl, hB⟩
 exact ⟨by simp [Lib.join, bs], hB⟩
theorem infoU8k : (Tryz.prog.info? 5).map (fun i => (i.zero, i.size, i.bytes)) = some (some (.int .u8 0), 1, 1) := by kernel_rfl
theorem outK_at (A : List Int) (k : Nat) (hk : k < 32) : (((outK A 32).getD k 0).toNat : Int) = A.getD (k / 8) 0 / 2 ^ (8 * (k % 8)) % 256 := by
 unfold outK
 rw [List.getD, List.getElem?_map, List.getElem?_range hk]
 simp only [Option.map_some, Option.getD_some, UInt8.toNat_ofNat']
 generalize A.getD (k / 8) 0 / 2 ^ (8 * (k % 8)) = x
 omega
theorem xor128 : ∀ n : Nat, n < 256 → bits .xor .u8 (n : Int) 128 = ((n ^^^ 128 : Nat) : Int) ∧ n ^^^ 128 < 256 := by decide +kernel
theorem OwnX.free {w : World} {base : Nat} {e : TypeId} {n cap g : Nat} {xs : List Value} (h : OwnX w base e (.slice (some ⟨g, 0, none⟩) n cap) n xs) (i : Nat) (hi : i < cap) : w.frozen? ⟨g, i, none⟩ = false := by
 obtain ⟨_, g', cap', cur, fz, hv, hb, hg, hf, _⟩ := h
 injection hv with h1 h2 h3
 injection h1 with h1
 injection h1 with h1
 subst h1 h3
 obtain ⟨lo, hi2⟩ := fz
 simp only [World.frozen?, hg, Bool.and_eq_false_iff, decide_eq_false_iff_not]
 simp only at hf
 omega
def lenOf : Value → Nat
 | .slice _ n _ => n
 | _ => 0
def RowB (w : World) (g : Nat) (B : Bytes) : Prop := ∀ i, i < B.length → w.cell? ⟨g, i, none⟩ = some (.int .u8 ((B.getD i 0).toNat : Int))
theorem RowB.grown {w w' : World} {g b : Nat} {B : Bytes} (h : RowB w g B) (G : w.grownBy w' (some b)) (hn : g ≠ b) (hg : g < w.heap.size) : RowB w' g B := fun i hi => (World.cell?_of_block (w := w) (G.block g hg fun e => hn (by injection e))).trans (h i hi)
theorem RowB.below {w w' : World} {g : Nat} {B : Bytes} (h : RowB w g B) (hB : Below w.heap.size w w') (hg : g < w.heap.size) : RowB w' g B := fun i hi => (hB.cell (p := ⟨g, i, none⟩) hg).trans (h i hi)
theorem RowB.far {w : World} {g b i : Nat} {u : Value} {B : Bytes} (h : RowB w g B) (hn : g ≠ b) : RowB (w.setCell ⟨b, i, none⟩ u) g B := fun j hj => (World.cell?_setCell_other _ _ _ _ (by intro e; injection e with e; exact hn e.symm)).trans (h j hj)
theorem slice136 (g o n c : Nat) (hn : 136 ≤ n) (hc : n ≤ c) : ∃ A', (∀ w, (Instr.sliceAt 42 (.slice (some ⟨g, o, none⟩) n c) (some (.int .i64 136)) none none).run Tryz.prog w = .ok (.slice (some A') (n - 136) (c - 136)) w) ∧ (c ≠ 136 → A' = ⟨g, o + 136, none⟩) := by
 have he : Tryz.prog.elem 42 = 5 := by kernel_rfl
 have hu : Tryz.prog.underlying 42 = some (.slice (Tryz.prog.elem 42)) := by kernel_rfl
 have hz : ∀ w, (sizeOf 5).run Tryz.prog w = .ok 1 w := fun w => by kernel_rfl
 refine ⟨if c = 136 then ⟨g, o, none⟩ else ⟨g, o + 136, none⟩, fun w => ?_, fun h => by rw [if_neg h]⟩
 rw [run_sliceAt_slice w 42 _ _ _ _ hu]
 have := Go.run_slice_l (P := Tryz.prog) w 42 (some ⟨g, o, none⟩) n c hu .i64 136 (by omega) (by omega)
 rw [this, he, hz]
 simp only [Result.andThen_ok, sliced]
 by_cases h : c = 136
 ·subst h
  simp
 ·rw [if_neg h, if_neg (by simpa using h)]
  simp [Addr.add_mid]
set_option maxRecDepth 100000 in
set_option maxHeartbeats 16000000 in
theorem ksum_calls (s : Bytes) (hs : s.length ≤ 1000000000) (A : Option Addr) (c : Nat) (hc : 1 ≤ c) (w : World) (hT : HasT w) (h : Txts w A [s]) : Calls Tryz.prog 5 #[.slice A 1 c] w (Ret w (.string (bs (kecc s)))) := by
 obtain ⟨i0, hi, hz0, hz1, hz2⟩ := info_parts infoU8k
 replace hT := Lib.hid hT
 replace h := Lib.hid h
 go_enter Tryz.func5, Tryz.ntmps5
 go_wp2_with fail
 refine wp_scope_straight ?_
 go_wp2_with fail
 refine (join1_calls s (by omega) A c hc w h.out).mono ?_
 rintro e w1 ⟨rfl, hB1⟩
 have hcv := conv_txt w1 (bs (s ++ [1]))
 have hap : bs s ++ ⟨#[1]⟩ = bs (s ++ [1]) := bs_app s [1]
 have H1 : HoldsX w (txtCells w1 (bs (s ++ [1]))) (.slice (some ⟨w1.heap.size, 0, none⟩) (s ++ [1]).length (grownCap w1 (s ++ [1]).length 0 5)) (padJ s 0) :=
  ⟨by unfold padJ; exact txt_own w1 (s ++ [1]) _ hB1.size (by simp; omega), hB1.trans (Below.mono (txt_below _ _) hB1.size)⟩
 obtain ⟨W1, hW1⟩ : ∃ W1, txtCells w1 (bs (s ++ [1])) = W1 := ⟨_, rfl⟩
 obtain ⟨V1, hV1⟩ : ∃ V1, Value.slice (some ⟨w1.heap.size, 0, none⟩) (s ++ [1]).length (grownCap w1 (s ++ [1]).length 0 5) = V1 := ⟨_, rfl⟩
 rw [bs_size] at hcv
 rw [hW1, hV1] at hcv H1
 clear hW1 hV1
 replace H1 := Lib.hid H1
 go_wp2_with fail
 clear hcv hap hB1 h
 obtain ⟨q, hq⟩ : ∃ q, padC s = q := ⟨_, rfl⟩
 have hq1 : q < 136 := by rw [← hq]; unfold padC; omega
 have hqm : ∀ k, k ≤ q → ((s.length + 1 + k) % 136 = 0 ↔ k = q) := fun k hk => by rw [← hq] at hk ⊢; unfold padC at hk ⊢; omega
 have HQM := Lib.hid hqm
 clear hqm
 replace hq := Lib.hid hq
 go_loopw [3] (fun v wr => ∃ k : Nat, k ≤ q ∧ HoldsX w wr v (padJ s k)) (fun v _ => match v with | .slice _ n _ => s.length + 137 - n | _ => 0)
 case atStart => exact ⟨0, by omega, H1.out⟩
 case round =>
  clear H1
  obtain ⟨k, hk, H⟩ := hrel
  obtain ⟨g, cap, rfl, hbg, hgl, hnc, hcm, hcell⟩ := H.own.form
  have hlen := padJ_len s k
  have hiff := HQM.out k hk
  rw [← hlen] at hiff
  by_cases hlt : k < q
  ·have t1 : (0 : Int) < ((padJ s k).length : Int) % 136 := by omega
   have t2 : decide ((0 : Int) < ((padJ s k).length : Int) % 136) = true := decide_eq_true t1
   have hml : (padJ s k).length ≤ 1000000200 := by omega
   have HLEN := Lib.hid hlen
   clear hlen hiff hcell hcm hnc
   go_wp2_with (at_builtin; refine wpList_append_X rfl _ _ 42 rfl w.heap.size 5 i0 (.int .u8 0) Tryz.underlying42 hi hz0 hz1 hz2 rfl _ _ _ rfl (H.own.alloc _) ⟨_, 0, none⟩ 1 1 [.int .u8 0] rfl rfl (news1 _ _ _) (by simp [Value.oneCell']) (by omega) (by have := H.below.size; simp; omega) ?_)
   intro v2 w2 hown hg
   have H2 := H.step 0 rfl hown hg
   rw [← padJ_succ] at H2
   have hl2 := padJ_len s (k + 1)
   have hl1 := HLEN.out
   have em : v2 = .slice (some ⟨(H2.own.form).choose, 0, none⟩) (padJ s (k + 1)).length (H2.own.form).choose_spec.choose := (H2.own.form).choose_spec.choose_spec.1
   clear hown hg
   replace H2 := Lib.hid H2
   go_wp2_with fail
   go_roundw
   case rel => exact ⟨k + 1, by omega, H2.out⟩
   case measure => rw [em]; simp only; omega
  ·obtain rfl : k = q := by omega
   have t1 : ((padJ s k).length : Int) % 136 = 0 := by omega
   have hlp : 0 < (padJ s k).length := by omega
   have hml : (padJ s k).length ≤ 1000000200 := by omega
   have hld := hlen
   -- the last byte
   obtain ⟨d, hd⟩ : ∃ d, (padJ s k).getD (s.length + k) 0 = d := ⟨_, rfl⟩
   obtain ⟨hx1, hx2⟩ := xor128 d.toNat d.toNat_lt
   have hc0 := hcell (s.length + k) (bv d) (by rw [← hd, List.getElem?_map, List.getElem?_eq_getElem (by omega), List.getD, List.getElem?_eq_getElem (by omega)]; rfl)
   have hf0 := H.own.free (s.length + k) (by omega)
   have hP := Lib.hid (show padK s = (padJ s k).set (s.length + k) (UInt8.ofNat (d.toNat ^^^ 128)) by unfold padK; rw [shutV_eq, hq.out, hd])
   have hn1 : ((padJ s k).length : Int) - 1 = ((s.length + k : Nat) : Int) := by omega
   have HLEN := Lib.hid hlen
   have hcells := Lib.hid hcell
   unfold bv at hc0
   obtain ⟨n, hn⟩ : ∃ n, (padJ s k).length = n := ⟨_, rfl⟩
   rw [hn] at hlp hml t1 hn1 hld ⊢
   have hsk : s.length + k < n := by omega
   have hsk2 : ((s.length + k : Nat) : Int) < (n : Int) := by omega
   generalize s.length + k = m at *
   replace hn := Lib.hid hn
   clear hlen hiff hcell HQM hq
   replace hld := Lib.hid hld
   replace hd := Lib.hid hd
   replace H := Lib.hid H
   go_wp2_with fail
   refine wp_label ?_
   obtain ⟨W2, hW2⟩ : ∃ W2, (wr.setCell ⟨g, m, none⟩ (.int .u8 ((d.toNat ^^^ 128 : Nat) : Int))).alloc (Obj.cells #[.int .u64 0, .int .u64 0, .int .u64 0, .int .u64 0, .int .u64 0, .int .u64 0, .int .u64 0, .int .u64 0, .int .u64 0, .int .u64 0, .int .u64 0, .int .u64 0, .int .u64 0, .int .u64 0, .int .u64 0, .int .u64 0, .int .u64 0, .int .u64 0, .int .u64 0, .int .u64 0, .int .u64 0, .int .u64 0, .int .u64 0, .int .u64 0, .int .u64 0] 44) = W2 := ⟨_, rfl⟩
   have K1 : Blk W2 wr.heap.size 44 (c6 (stK (padK s) 0)) := by rw [← hW2, stK, shutV_eq]; exact Blk.to (Blk.newS1 _ _ _ _ _) rfl
   have hz2 : W2.heap.size = wr.heap.size + 1 := by rw [← hW2]; simp
   have R2 : RowB W2 g (padK s) := fun i hi => by
    rw [hP.out, List.length_set, hn.out] at hi
    rw [← hW2, hP.out, World.cell?_alloc_past _ _ _ (by simp; exact hgl)]
    by_cases him : i = m
    ·subst him
     rw [World.cell?_setCell_same _ _ _ hc0, List.getD, List.getElem?_set_self (by rw [hn.out]; omega)]
     simp only [Option.getD_some, UInt8.toNat_ofNat']
     rw [Nat.mod_eq_of_lt (by omega)]
    ·rw [World.cell?_setCell_other _ _ _ _ (by intro e; injection e; omega), List.getD, List.getElem?_set_ne (Ne.symm him)]
     exact hcells.out i _ (by rw [List.getElem?_map, List.getElem?_eq_getElem (by rw [hn.out]; omega)]; rfl)
   have hB2 : Below w.heap.size w W2 := by rw [← hW2]; exact (H.out.below.setCell (by exact hbg) _).alloc (by simp; exact H.out.below.size) _
   have hwb : w.heap.size ≤ wr.heap.size := H.out.below.size
   rw [hW2]
   obtain ⟨b, hb⟩ : ∃ b, wr.heap.size = b := ⟨_, rfl⟩
   rw [hb] at K1 hz2 hgl hwb ⊢
   have hBL := blkK_mul s
   have hBp := blkK_pos s
   have hln : (padK s).length = n := by rw [hP.out, List.length_set, hn.out]
   rw [hln] at hBL
   have hncap : n ≤ cap := by rw [← hn.out]; exact hnc
   have hK := Lib.hid (show kecc s = shutV (outK (stK (padK s) (blkK s)) 32) from rfl)
   generalize blkK s = N at *
   generalize padK s = B at *
   have HL := Lib.hid (⟨hBL, hln⟩ : n = 136 * N ∧ B.length = n)
   clear hP hcells hn hld hd hW2 hb hc0 hf0 hx1 hx2 hBL hln hn1 hsk hsk2 HLEN H hnc hcm hz2
   replace K1 := Lib.hid K1
   go_wp2_with fail
   rw [t1]
   clear t1
   go_loopw [3] (fun v wr3 => ∃ j : Nat, j < N ∧ v = .slice (some ⟨g, 136 * j, none⟩) (n - 136 * j) (cap - 136 * j) ∧ RowB wr3 g B ∧ Blk wr3 b 44 (c6 (stK B j)) ∧ Below w.heap.size w wr3) (fun v _ => lenOf v)
   case atStart => exact ⟨0, by omega, by simp, R2, K1.out, hB2⟩
   case round =>
    clear K1 R2 hB2
    obtain ⟨j, hj, rfl, R, K1, HB⟩ := hrel
    have hSl := stK_len B j
    have hS := (show stK B (j + 1) = absF (stK B j) B (136 * j) from rfl)
    have hAF : ∀ A o, absF A B o = shutV (perK (shutV (absK A B o 136)) 24) := fun _ _ => rfl
    have hnn := HL.out.1
    have hjn : 136 * j + 136 ≤ n := by omega
    obtain ⟨ln, hln⟩ : ∃ ln, n - 136 * j = ln := ⟨_, rfl⟩
    obtain ⟨cp, hcp⟩ : ∃ cp, cap - 136 * j = cp := ⟨_, rfl⟩
    obtain ⟨o, ho⟩ : ∃ o, 136 * j = o := ⟨_, rfl⟩
    have hl136 : 136 ≤ ln := by omega
    have hcl : ln ≤ cp := by omega
    have hbyte : ∀ k, k < 136 → wr.cell? ⟨g, o + k, none⟩ = some (.int .u8 ((B.getD (o + k) 0).toNat : Int)) := fun k hk => R (o + k) (by rw [HL.out.2]; omega)
    rw [hln, hcp, ho]
    rw [ho] at hS
    generalize stK B j = S at *
    replace hS := Lib.hid hS
    replace hAF := Lib.hid hAF
    replace hnn := Lib.hid hnn
    replace hln := Lib.hid hln
    replace hcp := Lib.hid hcp
    replace ho := Lib.hid ho
    replace K1 := Lib.hid K1
    replace R := Lib.hid R
    replace HB := Lib.hid HB
    go_wp2_with fail
    go_loopw [27] (fun i wr4 => ∃ k : Nat, k ≤ 136 ∧ i = .int .i64 k ∧ RowB wr4 g B ∧ Blk wr4 b 44 (c6 (absK S B o k)) ∧ Below w.heap.size w wr4) (fun i _ => (136 - intOf i).toNat)
    case atStart => exact ⟨0, Nat.zero_le _, rfl, R.out, K1.out, HB.out⟩
    case round =>
     clear K1 R HB hbyte
     obtain ⟨k, hk, rfl, R, K1, HB⟩ := hrel
     by_cases hkt : k < 136
     ·have hcl2 := (absK_len S B o k).trans hSl
      have hc := (show absK S B o (k + 1) = (absK S B o k).set (k / 8) (bits .xor .u64 ((absK S B o k).getD (k / 8) 0) (IntKind.u64.wrap (((B.getD (o + k) 0).toNat : Int) * 2 ^ (8 * (k % 8))))) from rfl)
      have g0 := c6_get (L := absK S B o k) (i := k / 8) (by omega)
      have hby := R (o + k) (by rw [HL.out.2]; have := hnn.out; have := ho.out; have := hln.out; omega)
      have hcn := (B.getD (o + k) 0).toNat_lt
      generalize (absK S B o k).getD (k / 8) 0 = x0 at *
      generalize (B.getD (o + k) 0).toNat = x1 at *
      generalize absK S B o k = E at *
      replace hc := Lib.hid hc
      replace K1 := Lib.hid K1
      replace R := Lib.hid R
      replace HB := Lib.hid HB
      have e1 : (8 * ((k : Int) % 8)).toNat = 8 * (k % 8) := by omega
      have e2 : (0 : Int) ≤ 8 * ((k : Int) % 8) := by omega
      have e3 : (k : Int) < (ln : Int) := by omega
      have e4 : IntKind.u64.wrap (x1 : Int) = (x1 : Int) := by rw [IntKind.wrap_u64]; omega
      have hgw : g < wr.heap.size := Nat.lt_trans hgl K1.out.lt
      (obtain ⟨k1, f1, l1, m1⟩ := K1.out.rl)
      go_wp2_with fail
      (refine wp_region_later_tail 15 (by kernel_rfl) (by kernel_rfl) ?_; simp only [List.take_succ_cons, List.take_zero, List.drop_succ_cons, List.drop_zero]; (repeat (go_big_quiet_step (fail))); refine wpQuiet_nil ?_; intro w' hB)
      clear k1 f1 l1 m1
      replace K1 := Lib.hid (K1.out.below hB)
      replace HB := Lib.hid (HB.out.trans (hB.mono HB.out.size))
      replace R := Lib.hid (R.out.below hB hgw)
      clear hB
      (obtain ⟨k1, f1, l1, m1⟩ := K1.out.rl)
      go_wp2_with fail
      go_roundw
      case rel => exact ⟨k + 1, by omega, by go_num, R.out.far (by omega), by rw [hc.out, ← c6_set]; exact K1.out.set_ _ _, HB.out.setCell (by exact hwb) _⟩
      case measure => simp [intOf]; omega
     ·obtain rfl : k = 136 := by omega
      rw [← shutV_eq (absK S B o 136)] at K1
      have hPl : (shutV (absK S B o 136)).length = 25 := by rw [shutV_eq, absK_len, hSl]
      have hgw : g < wr.heap.size := Nat.lt_trans hgl K1.lt
      have hT2 := hT.out.below (Below.mono HB (Nat.le_refl _))
      have hAF := hAF.out S o
      generalize shutV (absK S B o 136) = E at *
      obtain ⟨A', hsl, hA'⟩ := slice136 g o ln cp hl136 hcl
      have hlt3 := hT.out.2.2.2
      replace hAF := Lib.hid hAF
      replace hA' := Lib.hid hA'
      replace R := Lib.hid R
      replace HB := Lib.hid HB
      replace K1 := Lib.hid K1
      replace hT2 := Lib.hid hT2
      simp only [show ((136 : Nat) : Int) = 136 from rfl]
      replace hlt3 := Lib.hid hlt3
      go_wp2_with fail
      refine (permute_calls b E hPl _ hT2.out K1.out (by have := hlt3.out.1; omega) (by have := hlt3.out.2.1; omega) (by have := hlt3.out.2.2; omega)).mono ?_
      rintro e w5 ⟨rfl, G5, K5⟩
      have R5 := Lib.hid (R.out.grown G5 (by omega) hgw)
      have HB5 := Lib.hid (HB.out.grown G5 HB.out.size fun k e => by injection e with e; omega)
      clear G5 R HB K1 hT2
      rw [← shutV_eq (perK E 24)] at K5
      rw [← hAF.out, ← hS.out] at K5
      replace K1 := Lib.hid K5
      clear K5
      by_cases hlast : j + 1 = N
      ·obtain rfl : ln = 136 := by have := hnn.out; have := ho.out; have := hln.out; omega
       rw [hlast] at K1
       clear hlt3 hA'
       go_wp2_with fail
       have hDl := kecc_len s
       have hDk : ∀ k, k < 32 → (((kecc s).getD k 0).toNat : Int) = (stK B N).getD (k / 8) 0 / 2 ^ (8 * (k % 8)) % 256 := fun k hk => by rw [hK.out, shutV_eq]; exact outK_at _ k hk
       have hSl2 := stK_len B N
       have KQ := Blk.new0 w5 47 (bcells 32 (kecc s) 0)
       have HB6 := Lib.hid (HB5.out.alloc HB5.out.size (.cells (bcells 32 (kecc s) 0) 47))
       have hq5 : b < w5.heap.size := K1.out.lt
       replace K1 := Lib.hid (K1.out.alloc (.cells (bcells 32 (kecc s) 0) 47))
       generalize kecc s = D at *
       generalize stK B N = S2 at *
       obtain ⟨p, hp⟩ : ∃ p, w5.heap.size = p := ⟨_, rfl⟩
       rw [hp] at KQ hq5 ⊢
       have hwp : w.heap.size ≤ p := by omega
       clear hp HB5 R5 hK hAF hS hsl
       replace hDk := Lib.hid hDk
       go_loopw [52] (fun i wr6 => ∃ k : Nat, k ≤ 32 ∧ i = .int .i64 k ∧ Blk wr6 b 44 (c6 S2) ∧ Blk wr6 p 47 (bcells 32 D k) ∧ Below w.heap.size w wr6) (fun i _ => (32 - intOf i).toNat)
       case atStart => exact ⟨0, Nat.zero_le _, rfl, K1.out, KQ, HB6.out⟩
       case round =>
        clear K1 KQ HB6
        obtain ⟨k, hk, rfl, K1, K0, HB⟩ := hrel
        by_cases hkt : k < 32
        ·have hd := hDk.out k hkt
         have g0 := c6_get (L := S2) (i := k / 8) (by omega)
         have g1 := bcells_at 32 D k hkt hDl
         have hset := bcells_set 32 D k hkt hDl _ hd.symm
         generalize S2.getD (k / 8) 0 = x0 at *
         have e1 : (8 * ((k : Int) % 8)).toNat = 8 * (k % 8) := by omega
         have e2 : (0 : Int) ≤ 8 * ((k : Int) % 8) := by omega
         replace hset := Lib.hid hset
         replace hd := Lib.hid hd
         replace K0 := Lib.hid K0
         replace K1 := Lib.hid K1
         replace HB := Lib.hid HB
         (obtain ⟨k0, f0, l0, m0⟩ := K0.out.rl; obtain ⟨k1, f1, l1, m1⟩ := K1.out.rl)
         go_wp2_with fail
         go_roundw
         case rel => exact ⟨k + 1, by omega, by go_num, K1.out.over2 (by omega), by rw [← hset.out]; exact K0.out.set_ _ _, HB.out.setCell (by exact hwp) _⟩
         case measure => simp [intOf]; omega
        ·obtain rfl : k = 32 := by omega
         rw [bcells_all 32 D hDl] at K0
         have hcv := fun c => conv_row _ p _ D 32 c K0 hDl
         replace K0 := Lib.hid K0
         replace HB := Lib.hid HB
         clear K1 hDk
         simp only [show ((32 : Nat) : Int) = 32 from rfl]
         go_wp2_with fail
         rw [Exit.noGoto_ret]
         go_ret
         exact ⟨rfl, HB.out⟩
      ·have h136 : 136 < ln := by have := hnn.out; have := ho.out; have := hln.out; have := Nat.mul_le_mul_left 136 (show j + 2 ≤ N by omega); omega
       have e1 : ((ln : Int) - 136 == 0) = false := by rw [beq_eq_false_iff_ne]; omega
       have e2 : (((ln - 136 : Nat) : Int) == 0) = false := by rw [beq_eq_false_iff_ne]; omega
       have hA2 := hA'.out (by omega)
       subst hA2
       clear hlt3 hA'
       go_wp2_with fail
       go_roundw
       case rel => exact ⟨j + 1, by omega, by have := hnn.out; have := ho.out; have := hln.out; have := hcp.out; congr 1 <;> first | omega | (congr 2; omega), R5.out, K1.out, HB5.out⟩
       case measure => simp [lenOf]; omega
end Go.Proofs.YthhlbdgladhdkaaGreatDoor
end
section
namespace Go.Proofs.YthhlbdgladhdkaaGreatDoor
open BigFrame Go.RowKit Go.Phx Go.Shelf
attribute [local go_sem] Oper.semAt_some

set_option maxRecDepth 100000 in
theorem growForm_calls (p : Bytes) (f : Bool) (hp : NibP p) (hl : p.length ≤ 1000000) (w : World) : Calls Tryz.prog 68 #[.string (bs p), .bool f] w (Ret w (itV false (formP p f) none 0 0)) := by
 have n1 := fun W => form_calls p f hp hl W
 have n2 := fun W => text_calls (formP p f) W
 generalize formP p f = s at *
 replace n1 := Lib.hid n1
 replace n2 := Lib.hid n2
 go_enter Tryz.func68, Tryz.ntmps68
 go_wp2_with fail
 refine (n1.out _).mono ?_
 rintro e w1 ⟨rfl, hB1⟩
 have K0 := Lib.hid ((Blk.new0 w 52 #[.bool false, .string ⟨#[]⟩, .slice none 0 0]).below hB1)
 have HB1 := Lib.hid (show Below w.heap.size w w1 from Below.on hB1 ((Below.refl _ w).alloc (Nat.le_refl _) _))
 clear hB1
 go_wp2_with fail
 refine (n2.out _).mono ?_
 rintro e w2 ⟨rfl, hB2⟩
 have K1 := Lib.hid (K0.out.below hB2)
 have HB2 := Lib.hid (HB1.out.trans (hB2.mono HB1.out.size))
 clear K0 hB2 HB1
 (obtain ⟨k1, f1, l1, m1⟩ := K1.out.rl)
 go_wp2_with fail
 refine bodyPost_ret (v := itV false s none 0 0) (by simp (maxDischargeDepth := 9) [results, Tryz.results68, go_sem, *]) rfl ⟨rfl, ?_⟩
 exact ((HB2.out.setCell (Nat.le_refl _) _).setCell (Nat.le_refl _) _).setCell (Nat.le_refl _) _
set_option maxRecDepth 100000 in
set_option maxHeartbeats 4000000 in
theorem fits_calls (r : Bytes) (hr : r.length = 32) (A : Option Addr) (c : Nat) (L : List Bytes) (hL : L.length ≤ 140) (hall : ∀ x ∈ L, x.length ≤ 65536) (w : World) (T : Txts w A L) : Calls Tryz.prog 33 #[.string (bs r), .slice A L.length c] w (Ret w (.bool true)) := by
 obtain ⟨n, hn⟩ : ∃ n, L.length = n := ⟨_, rfl⟩
 have HN := Lib.hid hn
 replace hall := Lib.hid hall
 replace T := Lib.hid T
 have hr2 : (r.length : Int) = 32 := by omega
 rw [hn] at hL ⊢
 clear hn
 go_enter Tryz.func33, Tryz.ntmps33
 go_wp2_with fail
 go_loopw [9] (fun i wr => ∃ k : Nat, k ≤ n ∧ i = .int .i64 k ∧ Below w.heap.size w wr) (fun i _ => (n - intOf i).toNat)
 case atStart => exact ⟨0, Nat.zero_le _, rfl, Below.refl _ _⟩
 case round =>
  obtain ⟨k, hk, rfl, HB⟩ := hrel
  by_cases hlt : k < n
  ·obtain ⟨b, o, rfl, hb, hc⟩ := Txts.at (Txts.below T.out HB) k (by have := HN.out; omega)
   have hx := hall.out (L.getD k []) (by rw [List.getD, List.getElem?_eq_getElem (by have := HN.out; omega)]; exact List.getElem_mem _)
   generalize L.getD k [] = x at *
   have hx2 : ¬ 65536 < (x.length : Int) := by omega
   replace HB := Lib.hid HB
   go_wp2_with fail
   go_roundw
   case rel => exact ⟨k + 1, by omega, by go_num, HB.out⟩
   case measure => simp [intOf]; omega
  ·obtain rfl : k = n := by omega
   have hk2 : (k : Int) ≤ 140 := by omega
   replace HB := Lib.hid HB
   clear hr
   go_wp2_with fail
   go_ret
   exact ⟨rfl, HB.out⟩
end Go.Proofs.YthhlbdgladhdkaaGreatDoor
end
section
namespace Go.Proofs.YthhlbdgladhdkaaGreatDoor
open BigFrame Go.RowKit Go.Phx Go.Shelf
attribute [local go_sem] Oper.semAt_some

def fullV (v : Iv) : Bool := v.f || !v.t.isEmpty
def KpN (N q : Nat) (A B : World) : Prop := A.heap.size ≤ B.heap.size ∧ ∀ j, (j < N ∨ j = q) → j < A.heap.size → B.heap[j]? = A.heap[j]?
theorem KpN.trans {N q : Nat} {A B C : World} (h : KpN N q A B) (k : KpN N q B C) : KpN N q A C := ⟨Nat.le_trans h.1 k.1, fun j hj hl => (k.2 j hj (Nat.lt_of_lt_of_le hl h.1)).trans (h.2 j hj hl)⟩
theorem CsS.kpN {N q : Nat} {A B : World} {a : Option Addr} {cs : List Value} (h : CsS (fun b => b < N) A a cs) (k : KpN N q A B) : CsS (fun b => b < N) B a cs := h.keep k.1 fun b hs hb => ⟨hs, k.2 b (.inl hs) hb⟩
set_option maxRecDepth 100000 in
set_option maxHeartbeats 16000000 in
theorem refs1_in (n : Nat) (hn : 1 ≤ n) (lp q N : Nat) (vs : List Iv) (hvs : vs.length = 17) (t : Bytes) (b o c : Nat) (hc : 17 ≤ c)
  (J Jx : List Iv → Unit → World → Prop) (hJ : ∀ s x A y B, J s x A → A.grownBy B none → J s y B)
  (hY : ∀ pre y x A, J pre x A → y ∈ vs ∧ fullV y = true → YieldAt Fence.wide (n - 1) Tryz.prog lp #[y.val] A fun e B =>
   (e = .returned (.bool true) ∧ J (pre ++ [y]) x B ∧ KpN N q A B) ∨ (e = .returned (.bool false) ∧ Jx (pre ++ [y]) x B))
  (W : World) (K0 : Blk W q 52 #[.bool true, .string (bs t), .slice (some ⟨b, o, none⟩) 17 c]) (R : CsS (fun b => b < N) W (some ⟨b, o, none⟩) (IvL vs)) (h0 : J [] () W) :
  CallsIn Fence.wide n Tryz.prog 94 #[.func (.yield lp) #[] #[], .pointer (some ⟨q, 0, none⟩)] W fun e B => (∃ v, e = .returned v) ∧
   ((∃ xs x, xs = (vs.take 16).filter fullV ∧ J xs x B) ∨ (∃ pre x, True ∧ Jx pre x B)) := by
 have hwf : ∀ f, Fence.wide.fn f := fun _ => trivial
 replace hY := Lib.hid hY
 replace hJ := Lib.hid hJ
 replace K0 := Lib.hid K0
 replace R := Lib.hid R
 have hc2 : (17 : Int) ≤ c := by omega
 have hc3 : (16 : Int) ≤ c := by omega
 have hc4 : 16 ≤ c := by omega
 (obtain ⟨k0, f0, l0, m0⟩ := K0.out.rl)
 refine callsIn_of_wp Tryz.func94 rfl trivial ?_ rfl
 simp only [Tryz.ntmps94, List.size_toArray, List.length_cons, List.length_nil, Nat.reduceAdd, Nat.reduceSub, Array.replicate_succ, Array.replicate_zero, List.push_toArray, List.append_toArray, List.nil_append, List.cons_append]
 gi_wp2_with fail
 gi_loopw [9] (fun i wr => ∃ k : Nat, k ≤ 16 ∧ i = .int .i64 k ∧ CsS (fun b => b < N) wr (some ⟨b, o, none⟩) (IvL vs) ∧ J ((vs.take k).filter fullV) () wr) (fun i _ => (16 - intOf i).toNat)
 case atStart => exact ⟨0, by omega, rfl, R.out, h0⟩
 case round =>
  clear h0 k0 f0 l0 m0 K0 R
  obtain ⟨k, hk, rfl, R, hj⟩ := hrel
  by_cases hlt : k < 16
  ·obtain ⟨v, hv⟩ : ∃ v, vs[k]? = some v := ⟨_, List.getElem?_eq_getElem (by omega)⟩
   have hmem : v ∈ vs := List.mem_of_getElem? hv
   obtain ⟨p1, p2, p3⟩ := IvL_at vs k v hv
   obtain ⟨b', o', hA, hbN, hb, hcs⟩ := R (by rw [IvL_len]; omega)
   obtain ⟨rfl, rfl⟩ : b' = b ∧ o' = o := by
    injection hA with hA
    injection hA with e1 e2
    exact ⟨e1.symm, e2.symm⟩
   have c0 := hcs _ _ p1
   have c1 := hcs _ _ p2
   have c2 := hcs _ _ p3
   rw [Nat.mul_comm 3 k] at c0 c1 c2
   rw [← Nat.add_assoc] at c1 c2
   have htk : (vs.take (k + 1)).filter fullV = (vs.take k).filter fullV ++ [v].filter fullV := by rw [List.take_add_one, hv]; simp
   obtain ⟨f, t1, vA, vn, vc⟩ := v
   simp only at c0 c1 c2
   have hg1 := World.grownBy_alloc wr (.cells #[.bool f, .string (bs t1), .slice vA vn vc] 52) none
   have hj2 := hJ.out _ () wr () _ hj hg1
   have R2 := Lib.hid (R.keep hg1.size fun b hs hb => ⟨hs, hg1.block b hb (by simp)⟩)
   clear p1 p2 p3 hv hcs hj hg1 R hA
   cases f with
   | true =>
    have he : [(⟨true, t1, vA, vn, vc⟩ : Iv)].filter fullV = [⟨true, t1, vA, vn, vc⟩] := by simp [fullV]
    rw [he] at htk
    clear he
    obtain ⟨fn, tmps, assign, body, hy, hR⟩ := hY.out _ ⟨true, t1, vA, vn, vc⟩ () _ hj2 ⟨hmem, by simp [fullV]⟩
    rw [← htk] at hR
    clear htk hmem hj2
    have c0' := c0
    gi_wp2_with fail
    refine hR.mono ?_
    rintro e W3 (⟨rfl, hJ3, hk3⟩ | ⟨rfl, hJx3⟩)
    ·have R3 := Lib.hid (R2.out.kpN hk3)
     replace hJ3 := Lib.hid hJ3
     clear R2 hk3 hy hR c0 c1 c2 c0'
     gi_wp2_with fail
     go_roundw
     case rel => exact ⟨k + 1, by omega, by go_num, R3.out, hJ3.out⟩
     case measure => simp [intOf]; omega
    ·replace hJx3 := Lib.hid hJx3
     clear R2 hy hR c0 c1 c2 c0'
     gi_wp2_with fail
     refine bodyPost_ret (results_none rfl _ _ _) rfl ?_
     exact ⟨⟨_, rfl⟩, .inr ⟨_, (), trivial, hJx3.out⟩⟩
   | false =>
    cases t1 with
    | nil =>
     have he : [(⟨false, [], vA, vn, vc⟩ : Iv)].filter fullV = [] := rfl
     rw [he, List.append_nil] at htk
     rw [← htk] at hj2
     replace hj2 := Lib.hid hj2
     clear htk hmem
     gi_wp2_with fail
     go_roundw
     case rel => exact ⟨k + 1, by omega, by go_num, R2.out, hj2.out⟩
     case measure => simp [intOf]; omega
    | cons a0 t1 =>
     generalize htt : a0 :: t1 = tt at *
     have hte : tt.isEmpty = false := by rw [← htt]; rfl
     have htn : ¬ tt = [] := by rw [← htt]; simp
     have he : [(⟨false, tt, vA, vn, vc⟩ : Iv)].filter fullV = [⟨false, tt, vA, vn, vc⟩] := by simp [fullV, hte]
     rw [he] at htk
     clear he
     obtain ⟨fn, tmps, assign, body, hy, hR⟩ := hY.out _ ⟨false, tt, vA, vn, vc⟩ () _ hj2 ⟨hmem, by simp [fullV, hte]⟩
     rw [← htk] at hR
     clear htk hmem hj2
     have c0' := c0
     gi_wp2_with fail
     refine hR.mono ?_
     rintro e W3 (⟨rfl, hJ3, hk3⟩ | ⟨rfl, hJx3⟩)
     ·have R3 := Lib.hid (R2.out.kpN hk3)
      replace hJ3 := Lib.hid hJ3
      clear R2 hk3 hy hR c0 c1 c2 c0'
      gi_wp2_with fail
      go_roundw
      case rel => exact ⟨k + 1, by omega, by go_num, R3.out, hJ3.out⟩
      case measure => simp [intOf]; omega
     ·replace hJx3 := Lib.hid hJx3
      clear R2 hy hR c0 c1 c2 c0'
      gi_wp2_with fail
      refine bodyPost_ret (results_none rfl _ _ _) rfl ?_
      exact ⟨⟨_, rfl⟩, .inr ⟨_, (), trivial, hJx3.out⟩⟩
  ·obtain rfl : k = 16 := by omega
   replace hj := Lib.hid hj
   clear R
   gi_wp2_with fail
   go_end0
   exact ⟨⟨_, rfl⟩, .inl ⟨_, (), rfl, hj.out⟩⟩
theorem refs_calls (t : Bytes) (A : Option Addr) (c : Nat) (w : World) : Calls Tryz.prog 76 #[itV true t A 17 c] w (fun e w' => e = .returned (.func (.func 94) #[] #[.pointer (some ⟨w.heap.size, 0, none⟩)]) ∧ w' = w.alloc (.cells #[.bool true, .string (bs t), .slice A 17 c] 52)) := by
 go_enter Tryz.func76, Tryz.ntmps76
 go_wp2
 go_ret
 exact ⟨rfl, rfl⟩
theorem refs_stops (n : Nat) (hn : 1 ≤ n) (q N : Nat) (vs : List Iv) (hvs : vs.length = 17) (t : Bytes) (b o c : Nat) (hc : 17 ≤ c) (W0 : World)
  (K0 : Blk W0 q 52 #[.bool true, .string (bs t), .slice (some ⟨b, o, none⟩) 17 c]) (R : CsS (fun b => b < N) W0 (some ⟨b, o, none⟩) (IvL vs)) :
  SeqSt Fence.wide n Tryz.prog 94 #[.pointer (some ⟨q, 0, none⟩)] (fun y : Iv => #[y.val]) (fun _ y _ _ => y ∈ vs ∧ fullV y = true) (fun (_ : Unit) A B => KpN N q A B) (fun _ A _ B => A.grownBy B none) () (fun xs => xs = (vs.take 16).filter fullV) (fun _ => True) W0 :=
 fun lp J Jx W hW hJ hJx hY h0 => refs1_in n hn lp q N vs hvs t b o c hc J Jx hJ hY W (K0.below hW) (R.below hW) h0
end Go.Proofs.YthhlbdgladhdkaaGreatDoor
end
section
namespace Go.Proofs.YthhlbdgladhdkaaGreatDoor
open BigFrame Go.RowKit Go.Phx Go.Shelf
attribute [local go_sem] Oper.semAt_some

theorem isRef_text (s : Bytes) (hs : s.length = 32) (A : Option Addr) (n c : Nat) (w : World) : Calls Tryz.prog 77 #[itV false s A n c] w (Ret w (.bool true)) := by
 have hs2 : (s.length : Int) = 32 := by omega
 clear hs
 go_enter Tryz.func77, Tryz.ntmps77
 go_wp2_with fail
 go_ret
 exact ⟨rfl, bel⟩
theorem isRef_list (t : Bytes) (A : Option Addr) (n c : Nat) (w : World) (h : ∀ W', Below w.heap.size w W' → Calls Tryz.prog 54 #[itV true t A n c] W' (Ret W' (.bool true))) : Calls Tryz.prog 77 #[itV true t A n c] w (Ret w (.bool true)) := by
 replace h := Lib.hid h
 go_enter Tryz.func77, Tryz.ntmps77
 go_wp2_with fail
 refine (h.out _ bel).mono ?_
 rintro e w1 ⟨rfl, hB1⟩
 have HB1 := Lib.hid (show Below w.heap.size w w1 from Below.on hB1 ((Below.refl _ w).alloc (Nat.le_refl _) _))
 clear hB1
 go_wp2_with fail
 go_ret
 exact ⟨rfl, HB1.out⟩
end Go.Proofs.YthhlbdgladhdkaaGreatDoor
end
section
namespace Go.Proofs.YthhlbdgladhdkaaGreatDoor
open BigFrame Go.RowKit Go.Phx Go.Shelf
attribute [local go_sem] Oper.semAt_some

theorem two_cells {w : World} {b o : Nat} {u v : Iv} (R : Cs w (some ⟨b, o, none⟩) (IvL [u, v])) : b < w.heap.size ∧ w.cell? ⟨b, o, none⟩ = some (.bool u.f) ∧ w.cell? ⟨b, o + 1, none⟩ = some (.string (bs u.t)) ∧ w.cell? ⟨b, o + 2, none⟩ = some (.slice u.A u.n u.c) ∧
  w.cell? ⟨b, o + 3, none⟩ = some (.bool v.f) ∧ w.cell? ⟨b, o + 4, none⟩ = some (.string (bs v.t)) ∧ w.cell? ⟨b, o + 5, none⟩ = some (.slice v.A v.n v.c) := by
 obtain ⟨b', o', hA, _, hb, hc⟩ := R (by rw [IvL_len]; simp)
 injection hA with hA
 injection hA with e1 e2
 subst e1 e2
 exact ⟨hb, hc 0 _ rfl, hc 1 _ rfl, hc 2 _ rfl, hc 3 _ rfl, hc 4 _ rfl, hc 5 _ rfl⟩
set_option maxRecDepth 100000 in
set_option maxHeartbeats 4000000 in
theorem isNode_leaf (t : Bytes) (b o c : Nat) (p s : Bytes) (hp : NibP p) (hl : p.length ≤ 1000000) (hs : s ≠ []) (w : World) (R : Cs w (some ⟨b, o, none⟩) (IvL [⟨false, formP p true, none, 0, 0⟩, ⟨false, s, none, 0, 0⟩])) :
  Calls Tryz.prog 54 #[itV true t (some ⟨b, o, none⟩) 2 c] w (Ret w (.bool true)) := by
 obtain ⟨hb, c0, c1, c2, c3, c4, c5⟩ := two_cells R
 simp only at c0 c1 c2 c3 c4 c5
 have n1 := fun W => read_calls p true hp hl W
 have hse : s.isEmpty = false := by cases s with
  | nil => exact absurd rfl hs
  | cons a r => rfl
 generalize formP p true = q at *
 replace n1 := Lib.hid n1
 clear R
 go_enter Tryz.func54, Tryz.ntmps54
 go_wp2_with fail
 refine (n1.out _).mono ?_
 rintro e w1 ⟨rfl, hB1⟩
 have K0 := Lib.hid (((Blk.new0 w 52 #[.bool true, .string (bs t), .slice (some ⟨b, o, none⟩) 2 c]).alloc (.cells #[.bool false] 4)).below hB1)
 have K1 := Lib.hid ((Blk.new1 w (.cells #[.bool true, .string (bs t), .slice (some ⟨b, o, none⟩) 2 c] 52) 4 #[.bool false]).below hB1)
 have HB1 := Lib.hid (show Below w.heap.size w w1 from Below.on hB1 (((Below.refl _ w).alloc (Nat.le_refl _) _).alloc (by simp) _))
 have d3 := (HB1.out.cell (p := ⟨b, o + 3, none⟩) hb).trans c3
 have d4 := (HB1.out.cell (p := ⟨b, o + 4, none⟩) hb).trans c4
 have d5 := (HB1.out.cell (p := ⟨b, o + 5, none⟩) hb).trans c5
 have hb1 : b < w1.heap.size := Nat.lt_of_lt_of_le hb HB1.out.size
 clear hB1 c0 c1 c2 c3 c4 c5
 (obtain ⟨k0, f0, l0, m0⟩ := K0.out.rl; obtain ⟨k1, f1, l1, m1⟩ := K1.out.rl)
 go_wp2_with fail
 refine bodyPost_ret (v := .bool true) (by simp (maxDischargeDepth := 9) [results, Tryz.results54, go_sem, *]) rfl ⟨rfl, ?_⟩
 exact HB1.out.setCell (by simp) _
set_option maxRecDepth 100000 in
set_option maxHeartbeats 4000000 in
theorem isNode_ext (t : Bytes) (b o c : Nat) (p : Bytes) (v : Iv) (hp : NibP p) (hl : p.length ≤ 1000000) (hne : p ≠ []) (w : World) (R : Cs w (some ⟨b, o, none⟩) (IvL [⟨false, formP p false, none, 0, 0⟩, v]))
  (h : ∀ W', Below w.heap.size w W' → Calls Tryz.prog 77 #[v.val] W' (Ret W' (.bool true))) :
  Calls Tryz.prog 54 #[itV true t (some ⟨b, o, none⟩) 2 c] w (Ret w (.bool true)) := by
 obtain ⟨hb, c0, c1, c2, c3, c4, c5⟩ := two_cells R
 obtain ⟨f2, t2, A2, m2, k2⟩ := v
 simp only at c0 c1 c2 c3 c4 c5
 have n1 := fun W => read_calls p false hp hl W
 have hpe : p.isEmpty = false := by cases p with
  | nil => exact absurd rfl hne
  | cons a r => rfl
 generalize formP p false = q at *
 replace n1 := Lib.hid n1
 replace h := Lib.hid h
 clear R
 go_enter Tryz.func54, Tryz.ntmps54
 go_wp2_with fail
 refine (n1.out _).mono ?_
 rintro e w1 ⟨rfl, hB1⟩
 have K0 := Lib.hid (((Blk.new0 w 52 #[.bool true, .string (bs t), .slice (some ⟨b, o, none⟩) 2 c]).alloc (.cells #[.bool false] 4)).below hB1)
 have K1 := Lib.hid ((Blk.new1 w (.cells #[.bool true, .string (bs t), .slice (some ⟨b, o, none⟩) 2 c] 52) 4 #[.bool false]).below hB1)
 have HB1 := Lib.hid (show Below w.heap.size w w1 from Below.on hB1 (((Below.refl _ w).alloc (Nat.le_refl _) _).alloc (by simp) _))
 have d3 := (HB1.out.cell (p := ⟨b, o + 3, none⟩) hb).trans c3
 have d4 := (HB1.out.cell (p := ⟨b, o + 4, none⟩) hb).trans c4
 have d5 := (HB1.out.cell (p := ⟨b, o + 5, none⟩) hb).trans c5
 have hb1 : b < w1.heap.size := Nat.lt_of_lt_of_le hb HB1.out.size
 clear hB1 c0 c1 c2 c3 c4 c5
 (obtain ⟨k0, f0, l0, m0⟩ := K0.out.rl; obtain ⟨k1, f1, l1, m1⟩ := K1.out.rl)
 go_wp2_with fail
 refine (h.out _ HB1.out).mono ?_
 rintro e w2 ⟨rfl, hB2⟩
 have P1 := Lib.hid (K1.out.below hB2)
 have HB2 := Lib.hid (HB1.out.trans (hB2.mono HB1.out.size))
 clear k0 f0 l0 m0 k1 f1 l1 m1 K0 K1 hB2 d3 d4 d5
 have K1 := P1
 (obtain ⟨k1, f1, l1, m1⟩ := K1.out.rl)
 go_wp2_with fail
 refine bodyPost_ret (v := .bool true) (by simp (maxDischargeDepth := 9) [results, Tryz.results54, go_sem, *]) rfl ⟨rfl, ?_⟩
 exact HB2.out.setCell (by simp) _
end Go.Proofs.YthhlbdgladhdkaaGreatDoor
end
section
namespace Go.Proofs.YthhlbdgladhdkaaGreatDoor
open BigFrame Go.RowKit Go.Phx Go.Shelf
attribute [local go_sem] Oper.semAt_some

def NodI (w : World) (r : Nat) (t : Bytes) (b o c : Nat) (vs : List Iv) (W : World) : Prop :=
 Blk W r 52 #[.bool true, .string (bs t), .slice (some ⟨b, o, none⟩) 17 c] ∧ Blk W (r + 1) 4 #[.bool false] ∧ CsS (fun b => b < r) W (some ⟨b, o, none⟩) (IvL vs) ∧ Below w.heap.size w W ∧ r + 3 ≤ W.heap.size
theorem NodI.grown {w A B : World} {r : Nat} {t : Bytes} {b o c : Nat} {vs : List Iv} {row : Option Nat} (h : NodI w r t b o c vs A) (hw : w.heap.size ≤ r) (hg : A.grownBy B row) (hr : ∀ j, row = some j → r + 3 ≤ j) : NodI w r t b o c vs B := by
 obtain ⟨h1, h2, h3, h4, h5⟩ := h
 have hne : ∀ q, q < r + 3 → some q ≠ row := fun q hq e => by have := hr q e.symm; omega
 exact ⟨h1.grown hg (hne _ (by omega)), h2.grown hg (hne _ (by omega)), h3.keep hg.size fun b hs hb => ⟨hs, hg.block b hb (hne _ (by omega))⟩, h4.grown hg h4.size fun j e => by have := hr j e; omega, Nat.le_trans h5 hg.size⟩
set_option maxRecDepth 100000 in
set_option maxHeartbeats 16000000 in
theorem isNode_br (t : Bytes) (b o c : Nat) (vs : List Iv) (hvs : vs.length = 17) (hc : 17 ≤ c) (w : World) (R : Cs w (some ⟨b, o, none⟩) (IvL vs)) (h16 : (vs.getD 16 ⟨false, [], none, 0, 0⟩).f = false)
  (h : ∀ v ∈ vs, fullV v = true → ∀ W', Below w.heap.size w W' → Calls Tryz.prog 77 #[v.val] W' (Ret W' (.bool true))) :
  Calls Tryz.prog 54 #[itV true t (some ⟨b, o, none⟩) 17 c] w (Ret w (.bool true)) := by
 refine (callsIn_wide (n := 9)).1 ?_
 have hwf : ∀ f, Fence.wide.fn f := fun _ => trivial
 replace h := Lib.hid h
 replace R := Lib.hid R
 replace h16 := Lib.hid h16
 refine callsIn_of_wp_marks Tryz.func54 rfl trivial ?_ rfl
 simp only [Tryz.ntmps54, List.size_toArray, List.length_cons, List.length_nil, Nat.reduceAdd, Nat.reduceSub, Array.replicate_succ, Array.replicate_zero, List.push_toArray, List.append_toArray, List.nil_append, List.cons_append]
 gi_wp2_with (gi_at_call 76; refine (callsIn_wide.2 (refs_calls _ _ _ _)).mono ?_; rintro e w' ⟨rfl, rfl⟩)
 obtain ⟨r, hr⟩ : ∃ r, w.heap.size = r := ⟨_, rfl⟩
 have hwr : w.heap.size ≤ r := by omega
 obtain ⟨W0, hW0⟩ : ∃ W0, ((w.alloc (Obj.cells #[.bool true, .string (bs t), .slice (some ⟨b, o, none⟩) 17 c] 52)).alloc (Obj.cells #[.bool false] 4)).alloc (Obj.cells #[.bool true, .string (bs t), .slice (some ⟨b, o, none⟩) 17 c] 52) = W0 := ⟨_, rfl⟩
 have hs0 : W0.heap.size = r + 3 := by rw [← hW0, ← hr]; simp
 have K0 : Blk W0 r 52 #[.bool true, .string (bs t), .slice (some ⟨b, o, none⟩) 17 c] := by rw [← hW0, ← hr]; exact ((Blk.new0 _ _ _).alloc _).alloc _
 have K1 : Blk W0 (r + 1) 4 #[.bool false] := by rw [← hW0, ← hr]; exact (Blk.new1 _ _ _ _).alloc _
 have KQ : Blk W0 (r + 2) 52 #[.bool true, .string (bs t), .slice (some ⟨b, o, none⟩) 17 c] := by rw [← hW0, ← hr]; exact Blk.new2 _ _ _ _ _
 have hB0 : Below w.heap.size w W0 := by rw [← hW0]; exact bel
 have R0 : CsS (fun b => b < r) W0 (some ⟨b, o, none⟩) (IvL vs) := by
  intro hp
  obtain ⟨b1, o1, ha, _, hb, hcs⟩ := R.out hp
  exact ⟨b1, o1, ha, by omega, Nat.lt_of_lt_of_le hb hB0.size, fun i x hx => (hB0.cell (p := ⟨b1, o1 + i, none⟩) hb).trans (hcs i x hx)⟩
 have hI0 : NodI w r t b o c vs W0 := ⟨K0, K1, R0, hB0, by omega⟩
 rw [hW0]
 clear hW0 K0 K1
 rw [hr]
 simp only [show r + 1 + 1 = r + 2 from rfl]
 have hf := enters_of Tryz.func94 (by kernel_rfl) rfl
 refine wpIn_rangeFunc_stc rfl (by decide) (gf := 94) (lb := #[.pointer (some ⟨r + 2, 0, none⟩)]) rfl trivial hf
  (refs_stops 8 (by decide) (r + 2) r vs hvs t b o c hc W0 KQ R0) (fun _ => rfl) (fun _ _ _ _ h k => h.trans k) (fun x W l o o' hl h1 h2 h3 => ⟨by simp, fun j hj _ => World.putObj_heap_other (by omega)⟩)
  (fun x A y B k o hab hkk hA ho _ => (hab.block k (Array.getElem?_eq_some_iff.1 hA).1 (by simp)).trans hA)
  (fun pre y x W l o o' h hl h1 h2 => h)
  (fun pre x W => NodI w r t b o c vs W) (fun c _ x W => False)
  ?own (fun _ _ s A B row h hg hr => h)
  ?abs (fun _ s x A y B h hab => h) hI0
  (fun y cc => { tmps := #[itV true t (some ⟨b, o, none⟩) 17 c, .pointer (some ⟨r, 0, none⟩), .pointer (some ⟨r + 1, 0, none⟩), .pointer (some ⟨cc, 0, none⟩), undef, undef, undef, .bool false, .pointer (some ⟨r, 0, none⟩), .bool true, .bool false, .bool true, .pointer (some ⟨r, 2, none⟩), .slice (some ⟨b, o, none⟩) 17 c, .int .i64 17, .bool true, itV true t (some ⟨b, o, none⟩) 17 c, .func (.func 94) #[] #[.pointer (some ⟨r + 2, 0, none⟩)], y.val, undef, undef, undef, undef, undef, undef, undef, undef, undef, undef, undef, undef, undef, undef, undef, undef, undef, undef, undef, undef, undef, undef, undef, undef, undef, undef, undef, undef, undef, undef, undef, undef, undef, undef, undef, undef, undef, undef, undef, undef, undef, undef, undef, undef, undef, undef, undef, undef, undef, undef, undef, undef, undef, undef, undef, undef, undef, undef, undef, undef, undef, undef, undef], defers := [] })
  (fun y => .cells #[.bool y.f, .string (bs y.t), .slice y.A y.n y.c] 52)
  (fun x W o => ⟨by simp, fun j hj hq => Below.heap_alloc W _ _ hq⟩) (fun pre y x W o h => h)
  ?assign ?body ?done ?stop
 case own => exact fun _ s A B row h hg hr => h.grown hwr hg fun j e => by have := (hr j e).1; omega
 case abs => exact fun s x A y B h hab => h.grown hwr hab fun j e => by cases e
 case assign =>
  intro l y W K hK
  gi_wp2
  exact hK
 case stop =>
  rintro D c pre x W hD _ h hK
  exact h.elim
 case done =>
  rintro D xs x W hD _ ⟨h1, h2, h3, h4, h5⟩ hK
  obtain ⟨v, hv⟩ : ∃ v, vs[16]? = some v := ⟨_, List.getElem?_eq_getElem (by omega)⟩
  have hvf : v.f = false := by have := h16.out; rw [List.getD, hv] at this; exact this
  obtain ⟨p1, _, _⟩ := IvL_at vs 16 v hv
  obtain ⟨b', o', hA, _, hb, hcs⟩ := h3 (by rw [IvL_len]; omega)
  injection hA with hA
  injection hA with e1 e2
  subst e1 e2
  have c0 := hcs _ _ p1
  rw [hvf] at c0
  simp only [Nat.reduceMul] at c0
  have hD2 : (W.setCell ⟨r + 1, 0, none⟩ (.bool true)).heap[D]? = some (.deferred (some [])) := (Below.heap_setCell _ _ _ _ (by simp; omega)).trans hK
  have P1 := Blk.to (Blk.set_ h2 0 (.bool true)) rfl
  have hG9 := grownBy_putObj' (W.setCell ⟨r + 1, 0, none⟩ (.bool true)) D (.deferred none)
  have P2 : Blk ((W.setCell ⟨r + 1, 0, none⟩ (.bool true)).putObj D (.deferred none)) (r + 1) 4 #[.bool true] := P1.grown hG9 (fun e => by injection e with e; omega)
  have hres : ((W.setCell ⟨r + 1, 0, none⟩ (.bool true)).putObj D (.deferred none)).cell? ⟨r + 1, 0, none⟩ = some (.bool true) := P2.cell 0
  have HB9 := Lib.hid ((show Below w.heap.size w (W.setCell ⟨r + 1, 0, none⟩ (.bool true)) from h4.setCell (by simp; omega) _).grown hG9 (Nat.le_trans h4.size (by simp)) fun j e => by injection e with e; omega)
  have K0 := Lib.hid h1
  have K1 := Lib.hid h2
  have hc17 : (16 : Int) < 17 := by decide
  clear h1 h2 h3 h4 h5 hK hI0 KQ hB0 R0 hcs p1 P1 P2 hG9
  (obtain ⟨k0, f0, l0, m0⟩ := K0.out.rl; obtain ⟨k1, f1, l1, m1⟩ := K1.out.rl)
  gi_wp2_with fail
  exact ⟨by simp, .inl ⟨_, _, rfl, run_takeDeferred hD2, ⟨_, by simp (maxDischargeDepth := 9) [results, Tryz.results54, go_sem, hres], rfl, HB9.out⟩⟩⟩
 case body =>
  rintro l pre y x W cc hI ⟨hy1, hy2⟩ hcl hbox _
  have hcall := h.out y hy1 hy2 W hI.2.2.2.1
  obtain ⟨f, t2, A2, m2, k2⟩ := y
  have K0 := Lib.hid (show Blk W cc 52 #[.bool f, .string (bs t2), .slice A2 m2 k2] from hbox)
  have HI := Lib.hid hI
  replace hcall := Lib.hid hcall
  clear hI hI0 KQ hB0 R0 hbox
  (obtain ⟨k0, f0, l0, m0⟩ := K0.out.rl)
  gi_wp2_with (gi_at_call 77; refine (CallsIn.inRound l (callsIn_wide.2 hcall.out)).mono ?_)
  rintro e w2 ⟨rfl, hB2⟩
  have hg2 := grown_none hB2
  have hfin := Lib.hid (HI.out.grown hwr hg2 fun j e => by cases e)
  have hkp := Lib.hid (show KpN r (r + 2) W w2 from ⟨hg2.size, fun j _ hj => hg2.block j hj (by simp)⟩)
  have hko := Lib.hid (KeepsOthers.of_grownBy hg2 fun j o e ho => by cases e)
  clear hg2 hB2 HI hcall
  gi_wp2_with fail
  exact ⟨hko.out, hkp.out, hfin.out⟩
end Go.Proofs.YthhlbdgladhdkaaGreatDoor
end
