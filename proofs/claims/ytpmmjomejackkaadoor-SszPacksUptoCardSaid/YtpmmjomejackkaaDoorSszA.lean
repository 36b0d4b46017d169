/- Chunks: the small functions of the program and of the reference. -/
import Derived.Test.YtpmmjomejackkaaDoorSszP
import Derived.Test.YtpmmjomejackkaaDoorShaL
import Derived.Test.YtpmmjomejackkaaDoorSha10
set_option linter.unusedSimpArgs false
set_option linter.unusedVariables false
namespace Go.Proofs.YtpmmjomejackkaaDoor
open BigFrame Go.RowKit Go.Phx Go.Shelf
attribute [local go_sem] Oper.semAt_some

theorem zero32_len : zero32.length = 32 := rfl
theorem nought_calls (w : World) : Calls Tryd.prog 73 #[] w (Ret w (.string (bs zero32))) := by
  go_enter Tryd.func73, Tryd.ntmps73
  go_wp2_with fail
  refine (repeat0 32 (by omega) _).mono ?_
  rintro e w1 ⟨rfl, h1⟩
  go_wp2_with fail
  go_ret
  exact ⟨rfl, h1⟩
theorem isChunk_calls (l : List UInt8) (hl : l.length ≤ 9223372036854775807) (w : World) : Calls Tryd.prog 74 #[.string (bs l)] w (Ret w (.bool (decide (l.length = 32)))) := by
  by_cases h : l.length = 32
  · have e : ((l.length : Int) = 32) := by omega
    go_enter Tryd.func74, Tryd.ntmps74
    go_wp2_with fail
    go_ret
    exact ⟨by simp [h], Below.refl _ _⟩
  · have e : ¬ ((l.length : Int) = 32) := by omega
    go_enter Tryd.func74, Tryd.ntmps74
    go_wp2_with fail
    go_ret
    exact ⟨by simp [h, e], Below.refl _ _⟩
/-- a slice's address leads to these texts -/
def Txts (w : World) (A : Option Addr) (L : List Bytes) : Prop := Strs w A (L.map bs)
theorem Txts.at {w : World} {A : Option Addr} {L : List Bytes} (h : Txts w A L) (i : Nat) (hi : i < L.length) : ∃ b o, A = some ⟨b, o, none⟩ ∧ b < w.heap.size ∧ w.cell? ⟨b, o + i, none⟩ = some (.string (bs (L.getD i []))) := by
  obtain ⟨b, o, ha, hb, hc⟩ := h (by simp; omega)
  exact ⟨b, o, ha, hb, hc i _ (by rw [List.getElem?_map, List.getElem?_eq_getElem hi, List.getD, List.getElem?_eq_getElem hi]; rfl)⟩
set_option maxRecDepth 100000 in
theorem at_calls (A : Option Addr) (c : Nat) (L : List Bytes) (z : Bytes) (i : Nat) (hi : i ≤ 9223372036854775807) (hL : L.length ≤ 9223372036854775807) (w : World) (hs : Txts w A L) :
    Calls Tryd.prog 70 #[.slice A L.length c, .string (bs z), .int .i64 i] w (Ret w (.string (bs (atP L z i)))) := by
  go_enter Tryd.func70, Tryd.ntmps70
  by_cases h : i < L.length
  · have e : atP L z i = L.getD i [] := by
      unfold atP
      rw [List.getD, List.getD, List.getElem?_eq_getElem h]
      rfl
    rw [e]
    clear e
    obtain ⟨b, o, rfl, hb, hc⟩ := hs.at i h
    generalize L.getD i [] = x at *
    clear hs
    go_wp2_with fail
    go_ret
    exact ⟨rfl, Below.refl _ _⟩
  · have e : atP L z i = z := by
      unfold atP
      rw [List.getD, List.getElem?_eq_none (by omega)]
      rfl
    rw [e]
    clear e
    go_wp2_with fail
    go_ret
    exact ⟨rfl, Below.refl _ _⟩
theorem noughts_made (n : Nat) (l : List UInt8) (h : l = List.replicate n 0) : (List.replicate n (Value.int .u8 0)) = l.map bv := by
  rw [h, List.map_replicate]
  rfl
set_option maxRecDepth 100000 in
theorem noughts_calls (n : Nat) (hn : n ≤ 65536) (w : World) : Calls Tryd.prog 75 #[.int .i64 n] w (Ret w (.string (bs (List.replicate n 0)))) := by
  obtain ⟨i0, hi, hz0, hz1, hz2⟩ := info_parts infoU8
  obtain ⟨w1, hmk, hown, hgr⟩ := run_make_full (P := Tryd.prog) w w.heap.size 39 5 i0 (.int .u8 0) 1 Tryd.underlying39 hi hz0 hz1 .i64 .i64 n (by rw [hz2]; omega) (by unfold maxLen; omega) (Nat.le_refl _)
  have hcs : (madeCells (Value.int .u8 0).cells (n * 1)).toList = (List.replicate n (0 : UInt8)).map bv := by
    rw [show (Value.int IntKind.u8 0).cells = #[Value.int .u8 0] from rfl, Nat.mul_one, toList_madeCells_one, List.map_replicate]
    rfl
  rw [hcs] at hown
  have hcv := conv_cells w1 _ _ n n (by simp) (own_cells hown)
  have hB := (Below.refl w.heap.size w).grown hgr (Nat.le_refl _) (fun k e => by cases e)
  clear hown hgr hcs
  go_enter Tryd.func75, Tryd.ntmps75
  go_wp2_with fail
  go_ret
  exact ⟨rfl, hB⟩
set_option maxRecDepth 100000 in
theorem same_calls (A B : Option Addr) (c d : Nat) (L M : List Bytes) (hL : L.length ≤ 9223372036854775807) (hM : M.length ≤ 9223372036854775807) (w : World) (h1 : Txts w A L) (h2 : Txts w B M) :
    Calls Tryd.prog 35 #[.slice A L.length c, .slice B M.length d] w (Ret w (.bool (decide (L = M)))) := by
  by_cases hlen : L.length = M.length
  · have e1 : (L.length : Int) = M.length := by omega
    go_enter Tryd.func35, Tryd.ntmps35
    go_wp2_with fail
    go_loopw [5] (fun i wr => Below w.heap.size w wr ∧ ∃ k : Nat, k ≤ L.length ∧ i = .int .i64 k ∧ L.take k = M.take k) (fun i _ => (L.length - intOf i).toNat)
    case atStart => exact ⟨Below.refl _ _, 0, by omega, rfl, rfl⟩
    case round =>
      obtain ⟨HB, k, hk, rfl, heq⟩ := hrel
      replace h1 : Txts wr A L := Strs.below h1 HB
      replace h2 : Txts wr B M := Strs.below h2 HB
      by_cases hlt : k < L.length
      · obtain ⟨b1, o1, rfl, hb1, hc1⟩ := h1.at k hlt
        obtain ⟨b2, o2, rfl, hb2, hc2⟩ := h2.at k (by omega)
        have hst : L.getD k [] = M.getD k [] → L.take (k + 1) = M.take (k + 1) := fun h => by
          rw [List.take_add_one (l := L), List.take_add_one (l := M), heq, List.getElem?_eq_getElem hlt, List.getElem?_eq_getElem (show k < M.length by omega)]
          rw [List.getD, List.getD, List.getElem?_eq_getElem hlt, List.getElem?_eq_getElem (show k < M.length by omega)] at h
          have h' : L[k] = M[k] := by simpa using h
          rw [h']
        have hno : L.getD k [] ≠ M.getD k [] → L ≠ M := fun h e => h (by rw [e])
        generalize L.getD k [] = x at *
        generalize M.getD k [] = y at *
        clear h1 h2 heq
        by_cases hxy : x = y
        · subst hxy
          have HS := Lib.hid (hst rfl)
          clear hst hno
          go_wp2_with fail
          go_region
          go_wp2_with fail
          go_roundw
          case rel => exact ⟨HB.drew, k + 1, by omega, by go_num, HS.out⟩
          case measure => simp [intOf]; omega
        · have HN := Lib.hid (hno hxy)
          have hne : (x == y) = false := by simpa using hxy
          clear hst hno
          go_wp2_with fail
          go_region
          go_wp2_with fail
          go_ret
          exact ⟨by simp [HN.out], HB.drew⟩
      · obtain rfl : k = L.length := by omega
        rw [List.take_of_length_le (Nat.le_refl _), List.take_of_length_le (by omega)] at heq
        subst heq
        go_wp2_with fail
        go_ret
        exact ⟨by simp, HB⟩
  · have e1 : ¬ (L.length : Int) = M.length := by omega
    have hne : L ≠ M := fun h => hlen (by rw [h])
    go_enter Tryd.func35, Tryd.ntmps35
    go_wp2_with fail
    go_ret
    exact ⟨by simp [hne], Below.refl _ _⟩
end Go.Proofs.YtpmmjomejackkaaDoor
