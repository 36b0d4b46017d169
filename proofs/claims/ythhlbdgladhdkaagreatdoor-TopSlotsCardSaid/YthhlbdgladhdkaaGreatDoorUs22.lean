/- What the later texts stand on (Tsx, OpnC, LaidT): plain laws and walks, each by its own conditions. -/
import Derived.Test.YthhlbdgladhdkaaGreatDoorUs21
import Derived.Test.YthhlbdgladhdkaaGreatDoorUs15
import Derived.Deep.LoopGhost
import Derived.Deep.CutRange
import Derived.Test.YthhlbdgladhdkaaGreatDoorUs4
import Derived.Deep.Slices
import Derived.Laws.IdiomArrays
import Derived.ProofKit
import Derived.Test.YthhlbdgladhdkaaGreatDoorRows
import Derived.Test.YthhlbdgladhdkaaGreatDoorCards
import Derived.Test.YthhlbdgladhdkaaGreatDoorTie
import Derived.Test.YthhlbdgladhdkaaGreatDoorUs12
import Derived.Deep.DeepHandedRow
import Derived.Lib.LaidTab
import Derived.SevenTiedAt
import Derived.LaidSub
set_option linter.unusedSimpArgs false
set_option linter.unusedVariables false
section
namespace Go.Proofs.YthhlbdgladhdkaaGreatDoor
open BigFrame Go.RowKit Go.Phx Go.Shelf
attribute [local go_sem] Oper.semAt_some

theorem prs_take (l : List Cl) (k : Nat) (x : Cl) (h : l[k]? = some x) : prs (l.take (k + 1)) = prs (l.take k) ++ [x.pair] := by
 unfold prs
 rw [List.take_add_one, h, List.map_append]
 rfl
theorem prs_all (l : List Cl) : ∀ p ∈ prs l, p.1.length = 32 ∧ p.2 ≠ [] ∧ p.2.length ≤ 33 := by
 intro p hp
 unfold prs at hp
 obtain ⟨x, _, rfl⟩ := List.mem_map.1 hp
 exact ⟨kecc_len _, slotP_ne _, slotP_le _⟩
theorem prs_good (l : List Cl) (hne : l ≠ []) (hl : l.length ≤ 200) (hnd : ((prs l).map Prod.fst).Nodup) : GoodL (prs l) 32 :=
 ⟨fun e => hne (List.map_eq_nil_iff.1 e), by unfold prs; rw [List.length_map]; exact hl, hnd, by omega, by omega, fun p hp => ⟨(prs_all l p hp).1, (prs_all l p hp).2.1, by have := (prs_all l p hp).2.2; omega⟩⟩
theorem news2p (W : World) (a b : Value) : ∀ j u, [a, b][j]? = some u → (W.alloc (.cells #[a, b] 33)).cell? ((⟨W.heap.size, 0, none⟩ : Addr).add j) = some u := by
 intro j u hu
 have hK := Blk.new0 W 33 #[a, b]
 rw [Addr.add_mid, hK.cell, Nat.zero_add]
 simpa using hu
def metK (P : List (Bytes × Bytes)) (q : Bytes) : Bool := P.any fun p => p.1 == q
theorem met_take (P : List (Bytes × Bytes)) (j : Nat) (p : Bytes × Bytes) (q : Bytes) (h : P[j]? = some p) : metK (P.take (j + 1)) q = (metK (P.take j) q || p.1 == q) := by
 unfold metK
 rw [List.take_add_one, h, List.any_append]
 simp
theorem met_look : ∀ (P : List (Bytes × Bytes)) (q : Bytes), (∀ p ∈ P, p.2 ≠ []) → metK P q = !(lookP P q).isEmpty
 | [], q, _ => rfl
 | p :: P, q, h => by
  rw [lookP]
  unfold metK
  rw [List.any_cons]
  by_cases hp : q = p.1
  ·rw [if_pos hp, hp]
   have := h p (List.mem_cons_self ..)
   cases hv : p.2 with
   | nil => exact absurd hv this
   | cons _ _ => simp
  ·rw [if_neg hp, show (p.1 == q) = false by simpa using fun e => hp e.symm, Bool.false_or]
   exact met_look P q fun y hy => h y (List.mem_cons_of_mem _ hy)
set_option maxRecDepth 100000 in
set_option maxHeartbeats 16000000 in
theorem tops_walk (A : Option Addr) (c : Nat) (l : List Cl) (hlc : l.length ≤ c) (hcm : c ≤ maxLen) (hwf : ∀ x ∈ l, x.a < 18446744073709551616 ∧ x.b < 18446744073709551616 ∧ x.c < 18446744073709551616 ∧ x.d < 18446744073709551616 ∧ x.e < 18446744073709551616 ∧ x.f < 18446744073709551616 ∧ x.g < 18446744073709551616 ∧ x.h < 18446744073709551616)
  (at9 : Int) (hat : -9223372036854775808 ≤ at9 ∧ at9 ≤ 9223372036854775807) (p0 p1 p2 p3 : Int) (w : World) (R : Cs w A (ClL l)) (hT : HasT w) :
  Calls Tryz.prog 3 #[.slice A l.length c, .int .i64 at9, wdV p0 p1 p2 p3] w (Ret w (.bool true)) := by
 obtain ⟨n, hn⟩ : ∃ n, l.length = n := ⟨_, rfl⟩
 have hn63 : n ≤ 9223372036854775807 := by unfold maxLen at hcm; omega
 have HN := Lib.hid hn
 obtain ⟨m, hm⟩ : ∃ m, min n 20 = m := ⟨_, rfl⟩
 have hmn : m ≤ n := by omega
 have hm20 : m ≤ 20 := by omega
 have HM := Lib.hid hm
 have n1 := fun W (hB : Below w.heap.size w W) => shownProof_calls W (hT.below hB)
 replace n1 := Lib.hid n1
 replace R := Lib.hid R
 replace hT := Lib.hid hT
 replace hwf := Lib.hid hwf
 rw [hn] at hlc ⊢
 clear hn hm
 go_enter Tryz.func3, Tryz.ntmps3
 go_wp2_with fail
 refine (n1.out _ bel).mono ?_
 rintro e w1 ⟨rfl, hB1⟩
 have K0 := Lib.hid ((Blk.new0 w 25 #[.int .u64 p0, .int .u64 p1, .int .u64 p2, .int .u64 p3]).below hB1)
 have HB1 := Lib.hid (show Below w.heap.size w w1 from Below.on hB1 ((Below.refl _ w).alloc (Nat.le_refl _) _))
 clear hB1 n1
 go_wp2_with fail
 go_loopg [8, 9] m (fun g s8 s9 wx => ∃ k : Nat, k + g = m ∧ s9 = .int .i64 k ∧ CpRow w1.heap.size wx s8 (prs (l.take k)) ∧ Below w1.heap.size w1 wx)
 case atStart => exact ⟨0, by omega, rfl, World.ownsRow_nil _ _ _ _, Below.refl _ _⟩
 case round =>
  obtain ⟨k, hk, rfl, OWN, HB⟩ := hrel
  cases gk with
  | zero =>
   obtain rfl : k = m := by omega
   obtain ⟨Ap, cp, rfl, RP⟩ := OWN.shape
   have hpl : (prs (l.take k)).length = k := by unfold prs; rw [List.length_map, List.length_take]; have := HN.out; omega
   have hme : k = n ∨ k = 20 := by have := HM.out; omega
   have n5 := right_calls Ap cp (prs (l.take k)) (by omega) (fun p hp => by have := prs_all _ p hp; exact ⟨fun e => by rw [e] at this; simp at this, by omega, this.2.1, by omega⟩) wr RP
   obtain ⟨nd, hnd⟩ : ∃ nd, decide ((prs (l.take k)).map Prod.fst).Nodup = nd := ⟨_, rfl⟩
   rw [hnd] at n5
   rw [hpl] at n5 ⊢
   have HBw := Lib.hid (HB1.out.trans (HB.mono HB1.out.size))
   have HBv := Lib.hid HB
   have H2 := Lib.hid (And.intro hnd hpl)
   replace n5 := Lib.hid n5
   replace RP := Lib.hid RP
   clear OWN hnd hpl HB
   go_upto_region 4 with fail
   go_cut [29] from 22 to 49 (fun s29 wx => s29 = .bool false ∧ wx = wr)
   case first =>
    by_cases hkn : (k : Int) < (n : Int)
    ·have hk20 : ¬ (k : Int) < 20 := by omega
     go_wp2_with fail
     go_meet
     case rel => exact ⟨rfl, rfl⟩
    ·go_wp2_with fail
     go_meet
     case rel => exact ⟨rfl, rfl⟩
   case rest =>
    obtain ⟨rfl, rfl⟩ := hcut
    clear hme
    go_wp2_with fail
    refine n5.out.mono ?_
    rintro e w5 ⟨rfl, hB5⟩
    have HB5 := Lib.hid (HBw.out.trans (hB5.mono HBw.out.size))
    have RP5 := Lib.hid (RP.out.below hB5)
    have HV5 := Lib.hid (HBv.out.trans (hB5.mono HBv.out.size))
    clear hB5 n5 RP HBw HBv
    cases nd with
    | false =>
     go_wp2_with fail
     go_ret
     exact ⟨rfl, HB5.out⟩
    | true =>
     by_cases h0 : at9 < 0
     ·go_wp2_with fail
      go_ret
      exact ⟨rfl, HB5.out⟩
     ·by_cases h1 : (k : Int) ≤ at9
      ·go_wp2_with fail
       go_ret
       exact ⟨rfl, HB5.out⟩
      ·obtain ⟨i, rfl⟩ : ∃ i : Nat, at9 = i := ⟨at9.toNat, by omega⟩
       have hik : i < k := by omega
       have hin : (i : Int) < (n : Int) := by omega
       have hikI : (i : Int) < (k : Int) := by omega
       obtain ⟨x, hx⟩ : ∃ x, l[i]? = some x := ⟨_, List.getElem?_eq_getElem (by have := HN.out; omega)⟩
       obtain ⟨b, o, rfl, hb, hc⟩ := Cl_cells R.out hx
       have HC : Hid (∀ W' : World, Below w.heap.size w W' → W'.cell? ⟨b, o + i * 8 + 4, none⟩ = some (.int .u64 (x.e : Int)) ∧ W'.cell? ⟨b, o + i * 8 + 5, none⟩ = some (.int .u64 (x.f : Int)) ∧ W'.cell? ⟨b, o + i * 8 + 6, none⟩ = some (.int .u64 (x.g : Int)) ∧ W'.cell? ⟨b, o + i * 8 + 7, none⟩ = some (.int .u64 (x.h : Int))) := Lib.hid fun W' hB => ⟨(hB.cell (p := ⟨b, _, none⟩) hb).trans (hc 4 _ rfl), (hB.cell (p := ⟨b, _, none⟩) hb).trans (hc 5 _ rfl), (hB.cell (p := ⟨b, _, none⟩) hb).trans (hc 6 _ rfl), (hB.cell (p := ⟨b, _, none⟩) hb).trans (hc 7 _ rfl)⟩
       clear hc
       obtain ⟨c4, c5, c6, c7⟩ := HC.out _ HB5.out
       have hq := fun W => eq_word W (x.e : Int) (x.f : Int) (x.g : Int) (x.h : Int) 0 0 0 0
       by_cases hz : (x.e : Int) = 0 ∧ (x.f : Int) = 0 ∧ (x.g : Int) = 0 ∧ (x.h : Int) = 0
       ·have hzz : ((x.e : Int) == 0 && ((x.f : Int) == 0 && ((x.g : Int) == 0 && (x.h : Int) == 0))) = true := by simpa only [Bool.and_eq_true, beq_iff_eq] using hz
        rw [hzz] at hq
        clear hzz hz hx
        go_wp2_with fail
        go_ret
        exact ⟨rfl, HB5.out⟩
       ·have hzz : ((x.e : Int) == 0 && ((x.f : Int) == 0 && ((x.g : Int) == 0 && (x.h : Int) == 0))) = false := by
         rw [Bool.eq_false_iff]
         intro h
         simp only [Bool.and_eq_true, beq_iff_eq] at h
         exact hz h
        rw [hzz] at hq
        obtain ⟨sv, hsv⟩ : ∃ sv, slotP x.val = sv := ⟨_, rfl⟩
        obtain ⟨kk, hkk⟩ : ∃ kk, kecc (wbF x.key) = kk := ⟨_, rfl⟩
        have hkl : kk.length = 32 := by rw [← hkk]; exact kecc_len _
        have hxp : (prs (l.take k))[i]? = some (kk, sv) := by
         unfold prs
         rw [List.getElem?_map, List.getElem?_take, if_pos hik, hx]
         show some x.pair = _
         unfold Cl.pair
         rw [hsv, hkk]
        obtain ⟨b2, o2, rfl, hb2, d0, d1⟩ := PrL_cells RP5.out hxp
        have G : GoodL (prs (l.take k)) 32 := prs_good (l.take k) (fun e => by rw [e] at hxp; simp [prs] at hxp) (by rw [List.length_take]; omega) (of_decide_eq_true H2.out.1)
        have hlook : lookP (prs (l.take k)) kk = sv := look_mem (by have := G.nd; rw [List.nodup_iff_pairwise_ne, List.pairwise_map] at this; exact this) (List.mem_of_getElem? hxp)
        have hpe := H2.out.2
        have hsn : sv.isEmpty = false := by
         rw [← hsv]
         cases h : slotP x.val with
         | nil => exact absurd h (slotP_ne _)
         | cons _ _ => rfl
        obtain ⟨P, hP⟩ : ∃ P, prs (l.take k) = P := ⟨_, rfl⟩
        rw [hP] at RP5 G hlook hpe hxp
        have n6 := fun W (hB : Below w5.heap.size w5 W) => proven_calls (some ⟨b2, o2, none⟩) cp P 32 G kk hkl W (RP5.out.below hB) (hT.out.below (HB5.out.trans (hB.mono HB5.out.size)))
        rw [hlook, hpe, hsn] at n6
        obtain ⟨k2, hk2⟩ : ∃ k2, kecc (wbF [p0, p1, p2, p3]) = k2 := ⟨_, rfl⟩
        have hk2l : k2.length = 32 := by rw [← hk2]; exact kecc_len _
        have n8 := fun W => wbytes_calls p0 p1 p2 p3 W
        obtain ⟨wo, hwo⟩ : ∃ wo, wbF [p0, p1, p2, p3] = wo := ⟨_, rfl⟩
        have hwol : wo.length = 32 := by rw [← hwo]; exact wbF_len _
        rw [hwo] at n8 hk2
        have n9 : ∀ W : World, Below w.heap.size w W → Calls Tryz.prog 5 #[.slice (some ⟨W.heap.size, 0, none⟩) 1 1] (W.alloc (.cells #[.string (bs wo)] 9)) (Ret (W.alloc (.cells #[.string (bs wo)] 9)) (.string (bs k2))) := fun W hB => by
         rw [← hk2]
         exact ksum_calls wo (by omega) (some ⟨W.heap.size, 0, none⟩) 1 (Nat.le_refl _) (W.alloc (.cells #[.string (bs wo)] 9)) (hT.out.below (hB.alloc hB.size _)) (new_txts W _)
        have n10 := fun W (hB : Below w5.heap.size w5 W) => proven_calls (some ⟨b2, o2, none⟩) cp P 32 G k2 hk2l W (RP5.out.below hB) (hT.out.below (HB5.out.trans (hB.mono HB5.out.size)))
        rw [hpe] at n10
        obtain ⟨v2, hv2⟩ : ∃ v2, lookP P k2 = v2 := ⟨_, rfl⟩
        rw [hv2] at n10
        have hwx := hwf.out x (List.mem_of_getElem? hx)
        have hfs := from_short [x.e, x.f, x.g, x.h] rfl (fun y hy => by simp only [List.mem_cons, List.not_mem_nil, or_false] at hy; rcases hy with rfl | rfl | rfl | rfl <;> omega)
        have n7 : ∀ W : World, Calls Tryz.prog 10 #[.string (bs sv)] W (Ret W (.tuple #[wdV x.e x.f x.g x.h, .int .i64 0])) := fun W => by
         have h33 := slotP_le x.val
         rw [← hsv]
         exact slotFrom_calls (shP (wbF x.val)) x.e x.f x.g x.h (by have := shP_len (wbF x.val); rw [wbF_len] at this; omega) (shP_head _) hfs hz (by omega) W
        have HV := Lib.hid (And.intro G (And.intro hv2 hpe))
        replace n6 := Lib.hid n6
        replace n7 := Lib.hid n7
        replace n8 := Lib.hid n8
        replace n9 := Lib.hid n9
        replace n10 := Lib.hid n10
        clear hzz hx hxp hkl hsv hkk hlook hpe hsn hk2 hk2l hwo hwol hwx hfs hz G H2 hv2 hP hwf HN HM hcm hat d1
        go_wp2_with fail
        refine (n6.out _ (Below.refl _ _)).mono ?_
        rintro e w6 ⟨rfl, hB6⟩
        clear n6
        replace hB6 := Lib.hid hB6
        go_wp2_with fail
        refine (n7.out _).mono ?_
        rintro e w7 ⟨rfl, hB7⟩
        replace hB7 := Lib.hid (hB6.out.trans (hB7.mono hB6.out.size))
        clear n7
        go_upto_region 11 with fail
        have KW := Blk.new0 w7 25 #[.int .u64 (x.e : Int), .int .u64 (x.f : Int), .int .u64 (x.g : Int), .int .u64 (x.h : Int)]
        have HB8 := hB7.out.alloc hB7.out.size (.cells #[.int .u64 (x.e : Int), .int .u64 (x.f : Int), .int .u64 (x.g : Int), .int .u64 (x.h : Int)] 25)
        generalize w7.alloc (.cells #[.int .u64 (x.e : Int), .int .u64 (x.f : Int), .int .u64 (x.g : Int), .int .u64 (x.h : Int)] 25) = w8 at *
        have P0 := K0.out.below (HV5.out.trans (HB8.mono HV5.out.size))
        generalize w7.heap.size = g7 at *
        clear hq c4 c5 c6 c7
        have hq := fun W => eq_word W (x.e : Int) (x.f : Int) (x.g : Int) (x.h : Int) (x.e : Int) (x.f : Int) (x.g : Int) (x.h : Int)
        rw [show ((x.e : Int) == (x.e : Int) && ((x.f : Int) == (x.f : Int) && ((x.g : Int) == (x.g : Int) && (x.h : Int) == (x.h : Int)))) = true by simp] at hq
        have hwf9 : ∀ f, Fence.wide.fn f := fun _ => trivial
        refine (wpIn_wide (n := 9)).1 ?_
        refine wpIn_round_held (fun W' => W'.cell? ⟨g7, 0, none⟩ = some (.int .u64 (x.e : Int)) ∧ W'.cell? ⟨g7, 1, none⟩ = some (.int .u64 (x.f : Int)) ∧ W'.cell? ⟨g7, 2, none⟩ = some (.int .u64 (x.g : Int)) ∧ W'.cell? ⟨g7, 3, none⟩ = some (.int .u64 (x.h : Int)) ∧ W'.cell? ⟨b, o + i * 8 + 4, none⟩ = some (.int .u64 (x.e : Int)) ∧ W'.cell? ⟨b, o + i * 8 + 5, none⟩ = some (.int .u64 (x.f : Int)) ∧ W'.cell? ⟨b, o + i * 8 + 6, none⟩ = some (.int .u64 (x.g : Int)) ∧ W'.cell? ⟨b, o + i * 8 + 7, none⟩ = some (.int .u64 (x.h : Int))) (fun j => decide (j < 19)) (by kernel_rfl) ?_
        obtain ⟨c4, c5, c6, c7⟩ := HC.out _ (HB5.out.trans ((HB8.drew).mono HB5.out.size))
        have hS0 : (fun W' : World => W'.cell? ⟨g7, 0, none⟩ = some (.int .u64 (x.e : Int)) ∧ W'.cell? ⟨g7, 1, none⟩ = some (.int .u64 (x.f : Int)) ∧ W'.cell? ⟨g7, 2, none⟩ = some (.int .u64 (x.g : Int)) ∧ W'.cell? ⟨g7, 3, none⟩ = some (.int .u64 (x.h : Int)) ∧ W'.cell? ⟨b, o + i * 8 + 4, none⟩ = some (.int .u64 (x.e : Int)) ∧ W'.cell? ⟨b, o + i * 8 + 5, none⟩ = some (.int .u64 (x.f : Int)) ∧ W'.cell? ⟨b, o + i * 8 + 6, none⟩ = some (.int .u64 (x.g : Int)) ∧ W'.cell? ⟨b, o + i * 8 + 7, none⟩ = some (.int .u64 (x.h : Int))) w8.drew := ⟨by have := KW.cell 0; simpa using this, by have := KW.cell 1; simpa using this, by have := KW.cell 2; simpa using this, by have := KW.cell 3; simpa using this, c4, c5, c6, c7⟩
        clear c4 c5 c6 c7 KW
        refine S_tk 0 (.bool true) rfl hS0 (fun w' h => by obtain ⟨h1, h2⟩ := h; go_simp) ?_
        refine S_tk 1 (.bool false) rfl hS0 (fun w' h => by obtain ⟨h1, h2⟩ := h; go_simp) ?_
        refine S_tk 2 (.bool false) rfl hS0 (fun w' h => by obtain ⟨h1, h2⟩ := h; go_simp) ?_
        refine S_tk 3 (.bool true) rfl hS0 (fun w' h => by obtain ⟨h1, h2⟩ := h; go_simp) ?_
        (try simp only [Act.put, List.getElem_toArray, List.getElem_cons_succ, List.getElem_cons_zero, List.setIfInBounds_toArray, List.set_cons_succ, List.set_cons_zero])
        refine S_tk 4 (.bool false) rfl hS0 (fun w' h => by obtain ⟨h1, h2⟩ := h; go_simp) ?_
        refine S_tk 5 (.bool false) rfl hS0 (fun w' h => by obtain ⟨h1, h2⟩ := h; go_simp) ?_
        refine S_tk 6 (.bool false) rfl hS0 (fun w' h => by obtain ⟨h1, h2⟩ := h; go_simp) ?_
        refine S_tk 7 (.int .i64 0) rfl hS0 (fun w' h => by obtain ⟨h1, h2⟩ := h; go_simp) ?_
        (try simp only [Act.put, List.getElem_toArray, List.getElem_cons_succ, List.getElem_cons_zero, List.setIfInBounds_toArray, List.set_cons_succ, List.set_cons_zero])
        refine S_tk 8 (.bool false) rfl hS0 (fun w' h => by obtain ⟨h1, h2⟩ := h; go_simp) ?_
        refine S_tk 9 (.bool false) rfl hS0 (fun w' h => by obtain ⟨h1, h2⟩ := h; go_simp) ?_
        refine S_tk 10 (.bool false) rfl hS0 (fun w' h => by obtain ⟨h1, h2⟩ := h; go_simp) ?_
        refine S_tk 11 (.agg #[.int .u64 (x.e : Int), .int .u64 (x.f : Int), .int .u64 (x.g : Int), .int .u64 (x.h : Int)]) rfl hS0 (fun w' h => by obtain ⟨h1, h2⟩ := h; go_simp) ?_
        (try simp only [Act.put, List.getElem_toArray, List.getElem_cons_succ, List.getElem_cons_zero, List.setIfInBounds_toArray, List.set_cons_succ, List.set_cons_zero])
        refine S_tk 12 (.slice (some ⟨b, o, none⟩) n c) rfl hS0 (fun w' h => by obtain ⟨h1, h2⟩ := h; go_simp) ?_
        refine S_tk 13 (.int .i64 i) rfl hS0 (fun w' h => by obtain ⟨h1, h2⟩ := h; go_simp) ?_
        refine S_tk 14 (.pointer (some ⟨b, o + i * 8, none⟩)) rfl hS0 (fun w' h => by obtain ⟨h1, h2⟩ := h; go_simp) ?_
        refine S_tk 15 (.pointer (some ⟨b, o + i * 8 + 4, none⟩)) rfl hS0 (fun w' h => by obtain ⟨h1, h2⟩ := h; go_simp) ?_
        (try simp only [Act.put, List.getElem_toArray, List.getElem_cons_succ, List.getElem_cons_zero, List.setIfInBounds_toArray, List.set_cons_succ, List.set_cons_zero])
        refine S_tk 16 (.agg #[.int .u64 (x.e : Int), .int .u64 (x.f : Int), .int .u64 (x.g : Int), .int .u64 (x.h : Int)]) rfl hS0 (fun w' h => by obtain ⟨h1, h2⟩ := h; go_simp) ?_
        refine S_tk 17 (.bool false) rfl hS0 (fun w' h => by obtain ⟨h1, h2⟩ := h; go_simp) ?_
        refine S_tk 18 (.bool false) rfl hS0 (fun w' h => by obtain ⟨h1, h2⟩ := h; go_simp) ?_
        (try simp only [Act.put, List.getElem_toArray, List.getElem_cons_succ, List.getElem_cons_zero, List.setIfInBounds_toArray, List.set_cons_succ, List.set_cons_zero])
        refine ⟨by kernel_rfl, rfl, ?_⟩
        clear hS0 hq HC
        have e0 := P0.cell 0
        have e1 := P0.cell 1
        have e2 := P0.cell 2
        have e3 := P0.cell 3
        simp only [Nat.add_zero, Nat.zero_add, List.getElem?_toArray, List.getElem?_cons_zero, List.getElem?_cons_succ] at e0 e1 e2 e3
        have HW8 := Lib.hid (HB5.out.trans (HB8.mono HB5.out.size))
        replace HB8 := Lib.hid HB8
        clear P0 K0 HV5 HB5 hB6 hB7
        go_wp2_with fail
        refine (n8.out _).mono ?_
        rintro e w9 ⟨rfl, hB9⟩
        have HB9 := Lib.hid (HB8.out.trans (Below.on hB9 ((Below.refl _ w8).drew) |>.mono HB8.out.size))
        have HW9 := Lib.hid (HW8.out.trans (Below.on hB9 ((Below.refl _ w8).drew) |>.mono HW8.out.size))
        clear hB9 n8 e0 e1 e2 e3
        go_wp2_with fail
        refine (n9.out _ HW9.out).mono ?_
        rintro e w10 ⟨rfl, hB10⟩
        have HB10 := Lib.hid (Below.on hB10 (HB9.out.alloc HB9.out.size _))
        have HW10 := Lib.hid (Below.on hB10 (HW9.out.alloc HW9.out.size _))
        clear hB10 HB9 HW9 n9
        go_wp2_with fail
        refine (n10.out _ HB10.out).mono ?_
        rintro e w11 ⟨rfl, hB11⟩
        have HB11 := Lib.hid (Below.on hB11 HB10.out)
        have HW11 := Lib.hid (Below.on hB11 HW10.out)
        clear hB11 HB10 HW10 n10
        obtain ⟨ws, hws⟩ : ∃ ws, (!v2.isEmpty) = ws := ⟨_, rfl⟩
        rw [hws]
        have hmet := Lib.hid (show metK (P.take k) k2 = ws by
         obtain ⟨G, h1, h2⟩ := HV.out
         rw [List.take_of_length_le (by omega), met_look P k2 (fun p hp => (G.all p hp).2.1), h1, hws])
        have hpl := Lib.hid HV.out.2.2
        have RP11 := Lib.hid (RP5.out.below HB11.out)
        clear hws HV RP5
        go_wp2_with fail
        go_loopg [19, 20] k (fun g s19 s20 wx => ∃ j : Nat, j + g = k ∧ s20 = .int .i64 j ∧ s19 = .bool (metK (P.take j) k2) ∧ wx = w11)
        case atStart => exact ⟨0, by omega, rfl, rfl, rfl⟩
        case round =>
         obtain ⟨j, hj, rfl, rfl, rfl⟩ := hrel
         cases gk with
         | zero =>
          obtain rfl : j = k := by omega
          rw [hmet.out]
          cases ws with
          | false =>
           go_wp2_with fail
           go_ret
           exact ⟨rfl, HW11.out⟩
          | true =>
           go_wp2_with fail
           go_ret
           exact ⟨rfl, HW11.out⟩
         | succ g2 =>
          have hjk : (j : Int) < (k : Int) := by omega
          obtain ⟨p, hp⟩ : ∃ p, P[j]? = some p := ⟨_, List.getElem?_eq_getElem (by have := hpl.out; omega)⟩
          have hmt := Lib.hid (met_take P j p k2 hp)
          obtain ⟨b3, o3, e, hb3, d2, d3⟩ := PrL_cells RP11.out hp
          injection e with e
          injection e with e1 e2
          subst e1 e2
          clear d3 hb3 hp
          generalize metK (P.take j) k2 = mt at *
          cases mt with
          | true =>
           go_wp2_with fail
           go_roundg g2
           case measure => omega
           case rel => exact ⟨j + 1, by omega, by go_num, by rw [hmt.out]; rfl, rfl⟩
          | false =>
           go_wp2_with fail
           go_roundg g2
           case measure => omega
           case rel => exact ⟨j + 1, by omega, by go_num, by rw [hmt.out]; simp, rfl⟩
  | succ g2 =>
   have hkn : (k : Int) < (n : Int) := by omega
   have hk20 : (k : Int) < 20 := by omega
   have hkn2 : k < n := by omega
   obtain ⟨x, hx⟩ : ∃ x, l[k]? = some x := ⟨_, List.getElem?_eq_getElem (by have := HN.out; omega)⟩
   obtain ⟨b, o, rfl, hb, hc⟩ := Cl_cells R.out hx
   have HBw := Lib.hid (HB1.out.trans (HB.mono HB1.out.size))
   have hbw : b < wr.heap.size := Nat.lt_of_lt_of_le hb HBw.out.size
   have c0 := hc 0 (.int .u64 (x.a : Int)) rfl
   have c1 := hc 1 (.int .u64 (x.b : Int)) rfl
   have c2 := hc 2 (.int .u64 (x.c : Int)) rfl
   have c3 := hc 3 (.int .u64 (x.d : Int)) rfl
   have c4 := hc 4 (.int .u64 (x.e : Int)) rfl
   have c5 := hc 5 (.int .u64 (x.f : Int)) rfl
   have c6 := hc 6 (.int .u64 (x.g : Int)) rfl
   have c7 := hc 7 (.int .u64 (x.h : Int)) rfl
   simp only [Nat.add_zero] at c0
   have HC : Hid (∀ W' : World, Below w.heap.size w W' → W'.cell? ⟨b, o + k * 8, none⟩ = some (.int .u64 (x.a : Int)) ∧ W'.cell? ⟨b, o + k * 8 + 1, none⟩ = some (.int .u64 (x.b : Int)) ∧ W'.cell? ⟨b, o + k * 8 + 2, none⟩ = some (.int .u64 (x.c : Int)) ∧ W'.cell? ⟨b, o + k * 8 + 3, none⟩ = some (.int .u64 (x.d : Int)) ∧ W'.cell? ⟨b, o + k * 8 + 4, none⟩ = some (.int .u64 (x.e : Int)) ∧ W'.cell? ⟨b, o + k * 8 + 5, none⟩ = some (.int .u64 (x.f : Int)) ∧ W'.cell? ⟨b, o + k * 8 + 6, none⟩ = some (.int .u64 (x.g : Int)) ∧ W'.cell? ⟨b, o + k * 8 + 7, none⟩ = some (.int .u64 (x.h : Int))) := Lib.hid fun W' hB => ⟨(hB.cell (p := ⟨b, _, none⟩) hb).trans c0, (hB.cell (p := ⟨b, _, none⟩) hb).trans c1, (hB.cell (p := ⟨b, _, none⟩) hb).trans c2, (hB.cell (p := ⟨b, _, none⟩) hb).trans c3, (hB.cell (p := ⟨b, _, none⟩) hb).trans c4, (hB.cell (p := ⟨b, _, none⟩) hb).trans c5, (hB.cell (p := ⟨b, _, none⟩) hb).trans c6, (hB.cell (p := ⟨b, _, none⟩) hb).trans c7⟩
   clear hc c0 c1 c2 c3 c4 c5 c6 c7
   have hpt := Lib.hid (prs_take l k x hx)
   have hpl : (prs (l.take k)).length = k := by unfold prs; rw [List.length_map, List.length_take]; have := HN.out; omega
   obtain ⟨Ap, cp, rfl, _⟩ := OWN.shape
   rw [hpl]
   have hpl2 := Lib.hid hpl
   rw [hpl] at OWN
   have m1 := Lib.hid (fun W => wbytes_calls x.a x.b x.c x.d W)
   have m3 := Lib.hid (fun W => slot_calls x.e x.f x.g x.h W)
   have hpr : Hid (x.pair = (kecc (wbF [(x.a : Int), x.b, x.c, x.d]), slotP [(x.e : Int), x.f, x.g, x.h])) := Lib.hid rfl
   replace OWN := Lib.hid OWN
   replace HB := Lib.hid HB
   clear hx hpl
   generalize hwk : wbF [(x.a : Int), x.b, x.c, x.d] = wk at *
   generalize hsv : slotP [(x.e : Int), x.f, x.g, x.h] = sv at *
   have hwkl : wk.length = 32 := by rw [← hwk]; exact wbF_len _
   clear hwk hsv
   have m2 : ∀ W : World, Below w.heap.size w W → Calls Tryz.prog 5 #[.slice (some ⟨W.heap.size, 0, none⟩) 1 1] (W.alloc (.cells #[.string (bs wk)] 9)) (Ret (W.alloc (.cells #[.string (bs wk)] 9)) (.string (bs (kecc wk)))) := fun W hB => ksum_calls wk (by omega) (some ⟨W.heap.size, 0, none⟩) 1 (Nat.le_refl _) (W.alloc (.cells #[.string (bs wk)] 9)) (hT.out.below (hB.alloc hB.size _)) (new_txts W _)
   replace m2 := Lib.hid m2
   obtain ⟨kk, hkk⟩ : ∃ kk, kecc wk = kk := ⟨_, rfl⟩
   rw [hkk] at m2 hpr
   rw [hpr.out] at hpt
   clear hkk hpr hwkl
   go_upto_region 6 with fail
   have hwf9 : ∀ f, Fence.wide.fn f := fun _ => trivial
   refine (wpIn_wide (n := 9)).1 ?_
   refine wpIn_round_held (fun W' => W'.cell? ⟨b, o + k * 8, none⟩ = some (.int .u64 (x.a : Int)) ∧ W'.cell? ⟨b, o + k * 8 + 1, none⟩ = some (.int .u64 (x.b : Int)) ∧ W'.cell? ⟨b, o + k * 8 + 2, none⟩ = some (.int .u64 (x.c : Int)) ∧ W'.cell? ⟨b, o + k * 8 + 3, none⟩ = some (.int .u64 (x.d : Int)) ∧ W'.cell? ⟨b, o + k * 8 + 4, none⟩ = some (.int .u64 (x.e : Int)) ∧ W'.cell? ⟨b, o + k * 8 + 5, none⟩ = some (.int .u64 (x.f : Int)) ∧ W'.cell? ⟨b, o + k * 8 + 6, none⟩ = some (.int .u64 (x.g : Int)) ∧ W'.cell? ⟨b, o + k * 8 + 7, none⟩ = some (.int .u64 (x.h : Int))) (fun j => decide (j < 18)) (by kernel_rfl) ?_
   have HS := fun W' (hB : Below wr.heap.size wr W') => HC.out W' (HBw.out.trans (hB.mono HBw.out.size))
   have hS0 := HS _ ((Below.refl _ wr).drew)
   refine S_tk 0 (.slice Ap k cp) rfl hS0 (fun w' h => by obtain ⟨h1, h2⟩ := h; go_simp) ?_
   refine S_tk 1 (.slice (some ⟨b, o, none⟩) n c) rfl hS0 (fun w' h => by obtain ⟨h1, h2⟩ := h; go_simp) ?_
   refine S_tk 2 (.int .i64 k) rfl hS0 (fun w' h => by obtain ⟨h1, h2⟩ := h; go_simp) ?_
   refine S_tk 3 (.pointer (some ⟨b, o + k * 8, none⟩)) rfl hS0 (fun w' h => by obtain ⟨h1, h2⟩ := h; go_simp) ?_
   (try simp only [Act.put, List.getElem_toArray, List.getElem_cons_succ, List.getElem_cons_zero, List.setIfInBounds_toArray, List.set_cons_succ, List.set_cons_zero])
   refine S_tk 4 (.pointer (some ⟨b, o + k * 8, none⟩)) rfl hS0 (fun w' h => by obtain ⟨h1, h2⟩ := h; go_simp) ?_
   refine S_tk 5 (.agg #[.int .u64 (x.a : Int), .int .u64 (x.b : Int), .int .u64 (x.c : Int), .int .u64 (x.d : Int)]) rfl hS0 (fun w' h => by obtain ⟨h1, h2⟩ := h; go_simp) ?_
   refine S_tk 9 (.slice (some ⟨b, o, none⟩) n c) rfl hS0 (fun w' h => by obtain ⟨h1, h2⟩ := h; go_simp) ?_
   (try simp only [Act.put, List.getElem_toArray, List.getElem_cons_succ, List.getElem_cons_zero, List.setIfInBounds_toArray, List.set_cons_succ, List.set_cons_zero])
   refine S_tk 10 (.int .i64 k) rfl hS0 (fun w' h => by obtain ⟨h1, h2⟩ := h; go_simp) ?_
   refine S_tk 11 (.pointer (some ⟨b, o + k * 8, none⟩)) rfl hS0 (fun w' h => by obtain ⟨h1, h2⟩ := h; go_simp) ?_
   refine S_tk 12 (.pointer (some ⟨b, o + k * 8 + 4, none⟩)) rfl hS0 (fun w' h => by obtain ⟨h1, h2⟩ := h; go_simp) ?_
   refine S_tk 13 (.agg #[.int .u64 (x.e : Int), .int .u64 (x.f : Int), .int .u64 (x.g : Int), .int .u64 (x.h : Int)]) rfl hS0 (fun w' h => by obtain ⟨h1, h2⟩ := h; go_simp) ?_
   (try simp only [Act.put, List.getElem_toArray, List.getElem_cons_succ, List.getElem_cons_zero, List.setIfInBounds_toArray, List.set_cons_succ, List.set_cons_zero])
   refine S_one 6 (by kernel_rfl) rfl (fun K hK => ?_)
   go_simp
   gi_wp2_with (gi_at_call 6; refine (callsIn_wide.2 (m1.out _)).mono ?_; rintro e w2 ⟨rfl, hN⟩)
   have hB2 : Below wr.heap.size wr w2 := Below.on hN ((Below.refl _ wr).drew)
   clear hS0 hN m1
   refine ⟨fun _ => HS _ hB2, ?_⟩
   (try simp only [Act.put, List.getElem_toArray, List.getElem_cons_succ, List.getElem_cons_zero, List.setIfInBounds_toArray, List.set_cons_succ, List.set_cons_zero])
   have hB3 := hB2.alloc hB2.size (.cells #[.string (bs wk)] 9)
   refine S_go 7 (fun _ => trivial) (by kernel_rfl) (by kernel_rfl) rfl (by kernel_rfl) (.slice (some ⟨w2.heap.size, 0, none⟩) 1 1) (w2.alloc (.cells #[.string (bs wk)] 9)) (by first | (go_simp; done) | (go_simp; rfl)) (fun _ => HS _ hB3) ?_
   (try simp only [Act.put, List.getElem_toArray, List.getElem_cons_succ, List.getElem_cons_zero, List.setIfInBounds_toArray, List.set_cons_succ, List.set_cons_zero])
   refine S_one 8 (by kernel_rfl) rfl (fun K hK => ?_)
   go_simp
   gi_wp2_with (gi_at_call 5; refine (callsIn_wide.2 (m2.out w2 (HBw.out.trans (hB2.mono HBw.out.size)))).mono ?_; rintro e w3 ⟨rfl, hN⟩)
   have hB4 : Below wr.heap.size wr w3 := hB3.trans (hN.mono hB3.size)
   clear hN m2 hB3
   refine ⟨fun _ => HS _ hB4, ?_⟩
   (try simp only [Act.put, List.getElem_toArray, List.getElem_cons_succ, List.getElem_cons_zero, List.setIfInBounds_toArray, List.set_cons_succ, List.set_cons_zero])
   refine S_one 14 (by kernel_rfl) rfl (fun K hK => ?_)
   go_simp
   gi_wp2_with (gi_at_call 7; refine (callsIn_wide.2 (m3.out w3)).mono ?_; rintro e w4 ⟨rfl, hN⟩)
   have hB5 : Below wr.heap.size wr w4 := Below.on hN hB4
   have hS0 := HS _ hB5
   clear hN m3 hB4
   refine ⟨fun _ => hS0, ?_⟩
   (try simp only [Act.put, List.getElem_toArray, List.getElem_cons_succ, List.getElem_cons_zero, List.setIfInBounds_toArray, List.set_cons_succ, List.set_cons_zero])
   refine S_tk 15 (.agg #[.string (bs kk), .string (bs sv)]) rfl hS0 (fun w' h => by obtain ⟨h1, h2⟩ := h; go_simp) ?_
   (try simp only [Act.put, List.getElem_toArray, List.getElem_cons_succ, List.getElem_cons_zero, List.setIfInBounds_toArray, List.set_cons_succ, List.set_cons_zero])
   have hB6 := hB5.alloc hB5.size (.cells #[.string (bs kk), .string (bs sv)] 33)
   refine S_go 16 (fun _ => trivial) (by kernel_rfl) (by kernel_rfl) rfl (by kernel_rfl) (.slice (some ⟨w4.heap.size, 0, none⟩) 1 1) (w4.alloc (.cells #[.string (bs kk), .string (bs sv)] 33)) (by first | (go_simp; done) | (go_simp; rfl)) (fun _ => HS _ hB6) ?_
   (try simp only [Act.put, List.getElem_toArray, List.getElem_cons_succ, List.getElem_cons_zero, List.setIfInBounds_toArray, List.set_cons_succ, List.set_cons_zero])
   have OWN6 : CpRow w1.heap.size (w4.alloc (.cells #[.string (bs kk), .string (bs sv)] 33)) (.slice Ap k cp) (prs (l.take k)) := own_below OWN.out hB6
   clear hS0
   refine S_oneL (fuel := 1) 17 (by kernel_rfl) rfl ?_
   refine wpListIn_append_pair rfl _ _ rfl w1.heap.size _ (prs (l.take k)) (by rfl) OWN6 (kk, sv) ⟨w4.heap.size, 0, none⟩ (by rfl) (news2p _ _ _) (by rw [hpl2.out]; omega) (by have := HB.out.size; have := hB6.size; omega) ?_
   intro v' w' hown hgrow _
   obtain ⟨A9, c9, hv9, _⟩ := hown.shape
   rw [List.length_append, hpl2.out] at hv9
   simp only [List.length_singleton] at hv9
   subst hv9
   rw [← hpt.out] at hown
   have HB9 := (HB.out.trans (hB6.mono HB.out.size)).grown hgrow (by have := HB.out.size; have := hB6.size; omega) (fun j e => (World.ownsRow.lt OWN6 j e).1)
   have hS9 := HC.out _ (HB1.out.trans (HB9.mono HB1.out.size))
   replace hown := Lib.hid hown
   replace HB9 := Lib.hid HB9
   refine ⟨fun _ => hS9, ?_⟩
   clear hgrow OWN6 hB6 hB5 hB2 HS HC hS9
   (try simp only [Act.put, List.getElem_toArray, List.getElem_cons_succ, List.getElem_cons_zero, List.setIfInBounds_toArray, List.set_cons_succ, List.set_cons_zero])
   refine S_end 18 (ls := [_]) rfl (fun j hj => by simp; omega) (by kernel_rfl) ?_
   gi_wp2_with fail
   refine ⟨rfl, ?_⟩
   go_wp2_with fail
   go_roundg g2
   case measure => omega
   case rel => exact ⟨k + 1, by omega, by go_num, by simpa using hown.out, HB9.out⟩
end Go.Proofs.YthhlbdgladhdkaaGreatDoor
end
section
namespace Go.Proofs.YthhlbdgladhdkaaGreatDoor
open Go.ChangeShapes Go.WideShapes Go.ChangeAt Go.RowKit Go.Joins Go.Deep
set_option maxRecDepth 100000

def Cl.ok (x : Cl) : Prop := x.a < 18446744073709551616 ∧ x.b < 18446744073709551616 ∧ x.c < 18446744073709551616 ∧ x.d < 18446744073709551616 ∧ x.e < 18446744073709551616 ∧ x.f < 18446744073709551616 ∧ x.g < 18446744073709551616 ∧ x.h < 18446744073709551616
theorem ClL_split : ∀ (l : List Cl) (i : Nat) (u : Value), (ClL l)[i]? = some u → ∃ x, l[i / 8]? = some x ∧ x.cells[i % 8]? = some u
 | [], i, u, h => by simp [ClL] at h
 | y :: l, i, u, h => by
  rw [ClL_cons] at h
  by_cases hi : i < 8
  ·rw [List.getElem?_append_left (by simpa [Cl.cells] using hi)] at h
   exact ⟨y, by rw [Nat.div_eq_of_lt hi]; rfl, by rw [Nat.mod_eq_of_lt hi]; exact h⟩
  ·rw [List.getElem?_append_right (by simp [Cl.cells]; omega)] at h
   obtain ⟨x, h1, h2⟩ := ClL_split l (i - 8) u (by simpa [Cl.cells] using h)
   refine ⟨x, ?_, ?_⟩
   ·rw [show i / 8 = (i - 8) / 8 + 1 by omega]
    simpa using h1
   ·rw [show i % 8 = (i - 8) % 8 by omega]
    exact h2

section
variable {H : Type} {enc : TypeId × Value → H} {w : World} {base : Nat} {spare : Nat → Bool} {held : Bool} {r : Reach} {b0 : Nat} {v : Value} {d : DataW H} {p : List MemPlace} {fuel : Nat} {cs : List Value} {x : DataW H × List MemPlace}
theorem under_word : Tryz.prog.underlying 25 = some (.array 4 23) := by kernel_rfl
theorem under_u64 : Tryz.prog.underlying 23 = some (.int .u64) := by kernel_rfl
theorem under_cells : Tryz.prog.underlying 22 = some (.slice 31) := by kernel_rfl
theorem cells_cell : Tryz.prog.cellsOf 31 = 8 := by kernel_rfl
theorem cells_word : Tryz.prog.cellsOf 25 = 4 := by kernel_rfl
theorem cells_one : Tryz.prog.cellsOf 23 = 1 := by kernel_rfl
theorem read_num {c : Value} {y : DataW H × List MemPlace} (h : DataW.trod enc Tryz.prog w base spare held fuel 23 [c] = some y) : ∃ a : Nat, c = .int .u64 (a : Int) ∧ a < 18446744073709551616 := by
 obtain ⟨a, e, _, wa⟩ := DataW.trod_int under_u64 h
 have hb := bounds_u64 wa
 refine ⟨a.toNat, ?_, by omega⟩
 rw [Int.toNat_of_nonneg hb.1]
 simpa using e
theorem read_word (h : DataW.trod enc Tryz.prog w base spare held fuel 25 cs = some x) (hl : cs.length = 4) : ∃ a b c d : Nat, cs = [.int .u64 (a : Int), .int .u64 (b : Int), .int .u64 (c : Int), .int .u64 (d : Int)] ∧ a < 18446744073709551616 ∧ b < 18446744073709551616 ∧ c < 18446744073709551616 ∧ d < 18446744073709551616 := by
 match cs, hl with
 | [c0, c1, c2, c3], _ =>
  obtain ⟨y0, y1, y2, y3, n, _, h0, h1, h2, h3⟩ := trod_array4 under_word cells_one h
  obtain ⟨a, rfl, ha⟩ := read_num h0
  obtain ⟨b, rfl, hb⟩ := read_num h1
  obtain ⟨c, rfl, hc⟩ := read_num h2
  obtain ⟨d, rfl, hd⟩ := read_num h3
  exact ⟨a, b, c, d, rfl, ha, hb, hc, hd⟩
theorem openWord (hv : Value.okWide Tryz.prog w r b0 25 v) (h : DataW.Trod enc Tryz.prog w base spare held 25 v d p) : ∃ a b c e : Nat, v = wdV a b c e := by
 simp only [Value.okWide, under_word] at hv
 obtain ⟨cs, rfl, hs, _⟩ := hv
 rw [cells_word] at hs
 obtain ⟨fuel, hf⟩ := h
 obtain ⟨a, b, c, e, he, _⟩ := read_word (x := (d, p)) (by simpa [Value.cells] using hf) (by simpa using hs)
 exact ⟨a, b, c, e, by rw [show cs = #[.int .u64 (a : Int), .int .u64 (b : Int), .int .u64 (c : Int), .int .u64 (e : Int)] from Array.toList_inj.1 he]⟩
theorem read_cell (h : DataW.trod enc Tryz.prog w base spare held fuel 31 cs = some x) : ∃ q : Cl, cs = q.cells ∧ q.ok := by
 obtain ⟨xs, n, _, rfl, hl, hlen, hf⟩ := DataW.trod_struct Tryz.underlying31 h
 rw [cells_cell] at hl
 obtain ⟨y0, y1, rfl⟩ : ∃ y0 y1, xs = [y0, y1] := by
  match xs, hlen with
  | [y0, y1], _ => exact ⟨y0, y1, rfl⟩
 match cs, hl with
 | [c0, c1, c2, c3, c4, c5, c6, c7], _ =>
  have g0 : DataW.trod enc Tryz.prog w base spare held n 25 (([c0, c1, c2, c3, c4, c5, c6, c7].drop 0).take (Tryz.prog.cellsOf 25)) = some y0 := hf 0 _ rfl
  have g1 : DataW.trod enc Tryz.prog w base spare held n 25 (([c0, c1, c2, c3, c4, c5, c6, c7].drop 4).take (Tryz.prog.cellsOf 25)) = some y1 := hf 1 _ rfl
  rw [cells_word] at g0 g1
  obtain ⟨a, b, c, d, e0, i0, i1, i2, i3⟩ := read_word g0 rfl
  obtain ⟨e, f, g, k, e1, i4, i5, i6, i7⟩ := read_word g1 rfl
  refine ⟨⟨a, b, c, d, e, f, g, k⟩, ?_, i0, i1, i2, i3, i4, i5, i6, i7⟩
  simp only [List.drop_zero, List.take_succ_cons, List.take_zero, List.drop_succ_cons, List.cons.injEq, and_true] at e0 e1
  obtain ⟨rfl, rfl, rfl, rfl⟩ := e0
  obtain ⟨rfl, rfl, rfl, rfl⟩ := e1
  rfl
instance : Inhabited Cl := ⟨⟨0, 0, 0, 0, 0, 0, 0, 0⟩⟩
theorem openCells (hv : Value.okWide Tryz.prog w r b0 22 v) (h : DataW.Trod enc Tryz.prog w base spare held 22 v d p) :
  ∃ (A : Option Addr) (c : Nat) (l : List Cl), v = .slice A l.length c ∧ l.length ≤ c ∧ c ≤ maxLen ∧ (∀ x ∈ l, x.ok) ∧ Cs w A (ClL l) := by
 obtain ⟨fuel, hf⟩ := h
 obtain ⟨A, n, c, rfl⟩ : ∃ A n c, v = .slice A n c := okWide_slice under_cells hv
 rcases open_slice under_cells (show DataW.trod enc Tryz.prog w base spare held fuel 22 [.slice A n c] = some (d, p) by simpa [Value.cells] using hf) with ⟨hc, hx⟩ | ⟨a, len, cap, m, k, D, Pl, hc, _, hl, hm, hn, hx, hel⟩
 ·simp at hc
  obtain ⟨rfl, rfl, rfl⟩ := hc
  exact ⟨none, 0, [], rfl, Nat.le_refl _, Nat.zero_le _, by simp, CsS.nil _ _ _⟩
 ·simp at hc
  obtain ⟨rfl, rfl, rfl⟩ := hc
  have hlen : n ≤ m := by rw [hn]; split <;> omega
  obtain ⟨q, hq⟩ := choose_lt (n := n) (α := Cl) (p := fun i q => (∀ j u, q.cells[j]? = some u → w.cell? (a.add (i * 8 + j)) = some u) ∧ q.ok) (fun i hi => by
   obtain ⟨cs', h1, h2⟩ := hel i (by omega)
   obtain ⟨q, rfl, hq⟩ := read_cell h2
   obtain ⟨_, hlen', hcell⟩ := World.cells?_some h1
   refine ⟨q, fun j u hu => ?_, hq⟩
   have := hcell j (by rw [cells_cell]; have := (List.getElem?_eq_some_iff.1 hu).1; simpa [Cl.cells] using this)
   rw [cells_cell, add_add] at this
   rw [this]
   exact hu)
  have ht : ((List.range n).map q).length = n := by simp
  refine ⟨some a, c, (List.range n).map q, by rw [ht], by omega, hm, fun y hy => ?_, fun h0 => ?_⟩
  ·obtain ⟨i, hi, rfl⟩ := List.mem_map.1 hy
   exact (hq i (List.mem_range.1 hi)).2
  ·rw [ClL_len, ht] at h0
   have h00 := (hq 0 (by omega)).1 0 _ rfl
   have hb := World.block_lt_of_cell? _ _ h00
   rw [block_add] at hb
   have hsp : a.spot = none := by
    rw [Nat.zero_mul, Nat.zero_add, Addr.add, if_pos rfl] at h00
    unfold World.cell? at h00
    split at h00
    ·rename_i hh
     cases hs : a.spot with
     | none => rfl
     | some _ => rw [hs] at h00; simp at h00
    ·cases h00
   obtain ⟨b, o, sp⟩ := a
   obtain rfl : sp = none := hsp
   refine ⟨b, o, rfl, trivial, hb, fun i u hu => ?_⟩
   obtain ⟨y, hy, hu2⟩ := ClL_split _ _ _ hu
   have hi : i / 8 < n := by have := (List.getElem?_eq_some_iff.1 hy).1; rwa [ht] at this
   rw [List.getElem?_map, List.getElem?_range hi] at hy
   obtain rfl : q (i / 8) = y := by simpa using hy
   have := (hq (i / 8) hi).1 (i % 8) u hu2
   rw [show i / 8 * 8 + i % 8 = i by omega] at this
   rw [← show Addr.add ⟨b, o, none⟩ i = ⟨b, o + i, none⟩ by unfold Addr.add; split <;> simp_all]
   exact this
end
end Go.Proofs.YthhlbdgladhdkaaGreatDoor
end
section
namespace Go.Proofs.YthhlbdgladhdkaaGreatDoor
open Go.ChangeShapes Go.WideShapes Go.ChangeAt Go.RowKit Go.Joins Go.Phx
set_option maxRecDepth 100000

theorem gPl : Tryz.prog.globalNamed "pharos/keccak.places" = some 0 := by kernel_rfl
theorem gTn : Tryz.prog.globalNamed "pharos/keccak.turns" = some 1 := by kernel_rfl
theorem gRc : Tryz.prog.globalNamed "pharos/keccak.constants" = some 2 := by kernel_rfl
theorem gPlT : (Tryz.prog.globals[0]?).map (·.type) = some 75 := by kernel_rfl
theorem gTnT : (Tryz.prog.globals[1]?).map (·.type) = some 75 := by kernel_rfl
theorem gRcT : (Tryz.prog.globals[2]?).map (·.type) = some 77 := by kernel_rfl
theorem cut {W : World} (h : laidMetH Tryz.prog Rows.topSlotsRow.laid W) (name : String) (x : DataW Unit) (e : (Rows.topSlotsRow.laid.filter fun y => y.1 == name) = [(name, x)]) : laidMetH Tryz.prog [(name, x)] W := by
 have := h.filter (fun y => y.1 == name)
 rw [e] at this
 exact this
theorem tabPl {W : World} (h : laidMetH Tryz.prog [("pharos/keccak.places", Rows.laid_pharos_keccak_places)] W) : Lib.TabIs Tryz.prog W "pharos/keccak.places" .i64 (plT.map fun (x : Nat) => (x : Int)) :=
 Lib.tabIs_of_head (rest := []) gPl gPlT (n := 24) (by kernel_rfl) (show Tryz.prog.underlying 3 = some (.int .i64) by kernel_rfl) (by kernel_rfl) (by kernel_rfl) h
theorem tabTn {W : World} (h : laidMetH Tryz.prog [("pharos/keccak.turns", Rows.laid_pharos_keccak_turns)] W) : Lib.TabIs Tryz.prog W "pharos/keccak.turns" .i64 (tnT.map fun (x : Nat) => (x : Int)) :=
 Lib.tabIs_of_head (rest := []) gTn gTnT (n := 24) (by kernel_rfl) (show Tryz.prog.underlying 3 = some (.int .i64) by kernel_rfl) (by kernel_rfl) (by kernel_rfl) h
theorem tabRc {W : World} (h : laidMetH Tryz.prog [("pharos/keccak.constants", Rows.laid_pharos_keccak_constants)] W) : Lib.TabIs Tryz.prog W "pharos/keccak.constants" .u64 rcT :=
 Lib.tabIs_of_head (rest := []) gRc gRcT (n := 24) (by kernel_rfl) (show Tryz.prog.underlying 23 = some (.int .u64) by kernel_rfl) (by kernel_rfl) (by kernel_rfl) h
theorem hasK_of {W : World} (h : laidMetH Tryz.prog Rows.topSlotsRow.laid W) : HasT W := by
 have t1 := tabPl (cut h _ _ (by kernel_rfl))
 have t2 := tabTn (cut h _ _ (by kernel_rfl))
 have t3 := tabRc (cut h _ _ (by kernel_rfl))
 have c1 : ∀ i, i < 24 → W.cell? ⟨0, i, none⟩ = some (.int .i64 (plT.getD i 0 : Nat)) := fun i hi => by
  rw [t1.cell gPl i (by rw [List.length_map]; exact hi)]
  have hl : i < plT.length := hi
  simp [List.getD, List.getElem?_eq_getElem hl]
 have c2 : ∀ i, i < 24 → W.cell? ⟨1, i, none⟩ = some (.int .i64 (tnT.getD i 0 : Nat)) := fun i hi => by
  rw [t2.cell gTn i (by rw [List.length_map]; exact hi)]
  have hl : i < tnT.length := hi
  simp [List.getD, List.getElem?_eq_getElem hl]
 have c3 : ∀ i, i < 24 → W.cell? ⟨2, i, none⟩ = some (.int .u64 (rcT.getD i 0)) := fun i hi => t3.cell gRc i hi
 exact ⟨c1, c2, c3, World.block_lt_of_cell? _ _ (c1 0 (by decide)), World.block_lt_of_cell? _ _ (c2 0 (by decide)), World.block_lt_of_cell? _ _ (c3 0 (by decide))⟩
def setG (h : Array Obj) (g : Nat) (c : Array Value) : Array Obj := h.modify g fun
 | .cells _ t frozen => .cells c t frozen
 | o => o
noncomputable def laidWorld (os : Os) : World :=
 let W := World.holding Tryz.prog os ⟨#[], #[], []⟩
 { W with heap := [(0, (plT.map fun (x : Nat) => Value.int .i64 (x : Int)).toArray), (1, (tnT.map fun (x : Nat) => Value.int .i64 (x : Int)).toArray), (2, (rcT.map fun x => Value.int .u64 x).toArray),
   (4, (Go.Pinned.utf8FirstZ.map fun (x : Nat) => Value.int .u8 (x : Int)).toArray), (5, (([128, 191, 160, 191, 128, 159, 144, 191, 128, 143] ++ List.replicate 22 0 : List Nat).map fun (x : Nat) => Value.int .u8 (x : Int)).toArray)].foldl (fun h p => setG h p.1 p.2) W.heap }
end Go.Proofs.YthhlbdgladhdkaaGreatDoor
end
