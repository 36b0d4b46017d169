/- Are chunks ones of a tree of a depth? By the program. -/
import Derived.Test.YtpmmjomejackkaaDoorSszA
set_option linter.unusedSimpArgs false
set_option linter.unusedVariables false
namespace Go.Proofs.YtpmmjomejackkaaDoor
open BigFrame Go.RowKit Go.Phx Go.Shelf
attribute [local go_sem] Oper.semAt_some

theorem right1_calls (l : List UInt8) (hl : l.length ≤ 9223372036854775807) (w : World) : Calls Tryd.prog 107 #[.string (bs l)] w (Ret w (.bool (!decide (l.length = 32)))) := by
  go_enter Tryd.func107, Tryd.ntmps107
  go_wp2_with fail
  refine (isChunk_calls l hl _).mono ?_
  rintro e w1 ⟨rfl, h1⟩
  go_wp2_with fail
  go_ret
  exact ⟨rfl, h1⟩
set_option maxRecDepth 100000 in
theorem indexFunc_calls (A : Option Addr) (c : Nat) (L : List Bytes) (hL : L.length ≤ 9223372036854775807) (hx : ∀ x ∈ L, x.length ≤ 9223372036854775807) (w : World) (hs : Txts w A L) :
    Calls Tryd.prog 137 #[.slice A L.length c, .func (.func 107) #[] #[]] w (fun e w' => (∃ i : Int, e = .returned (.int .i64 i) ∧ (0 ≤ i ↔ ∃ x ∈ L, x.length ≠ 32)) ∧ Below w.heap.size w w') := by
  go_enter Tryd.func137, Tryd.ntmps137
  go_wp2_with fail
  go_loopw [8] (fun i wr => ∃ k : Nat, k ≤ L.length ∧ i = .int .i64 k ∧ (∀ x ∈ L.take k, x.length = 32) ∧ Below w.heap.size w wr) (fun i _ => (L.length - intOf i).toNat)
  case atStart => exact ⟨0, by omega, rfl, by simp, Below.refl _ _⟩
  case round =>
    obtain ⟨k, hk, rfl, hall, HB⟩ := hrel
    by_cases hlt : k < L.length
    · obtain ⟨b, o, rfl, hb, hc⟩ := Txts.at (Strs.below hs HB : Txts wr A L) k hlt
      have hxk := hx _ (List.getElem_mem hlt)
      have e1 : L.getD k [] = L[k] := by rw [List.getD, List.getElem?_eq_getElem hlt]; rfl
      have hm := List.getElem_mem hlt
      have ht : L.take (k + 1) = L.take k ++ [L[k]] := by rw [List.take_add_one, List.getElem?_eq_getElem hlt]; rfl
      rw [e1] at hc
      generalize L[k] = x at *
      have HT := Lib.hid ht
      have HA := Lib.hid hall
      clear ht hall e1 hx hs
      go_wp2_with fail
      refine (right1_calls x hxk _).mono ?_
      rintro e w1 ⟨rfl, h1⟩
      have HB1 := HB.trans (h1.mono HB.size)
      by_cases h32 : x.length = 32
      · go_wp2_with fail
        go_roundw
        case rel => exact ⟨k + 1, by omega, by go_num, by rw [HT.out]; intro y hy; rcases List.mem_append.1 hy with hy | hy; exact HA.out y hy; rw [List.mem_singleton.1 hy]; exact h32, HB1⟩
        case measure => simp [intOf]; omega
      · go_wp2_with fail
        go_ret
        exact ⟨⟨_, rfl, fun _ => ⟨x, hm, h32⟩, fun _ => by omega⟩, HB1⟩
    · obtain rfl : k = L.length := by omega
      rw [List.take_of_length_le (Nat.le_refl _)] at hall
      have HA := Lib.hid hall
      clear hall hx hs
      go_wp2_with fail
      go_ret
      exact ⟨⟨_, rfl, fun h => by omega, fun ⟨x, h1, h2⟩ => absurd (HA.out x h1) h2⟩, HB⟩
theorem containsFunc_calls (A : Option Addr) (c : Nat) (L : List Bytes) (hL : L.length ≤ 9223372036854775807) (hx : ∀ x ∈ L, x.length ≤ 9223372036854775807) (w : World) (hs : Txts w A L) :
    Calls Tryd.prog 106 #[.slice A L.length c, .func (.func 107) #[] #[]] w (fun e w' => (∃ r : Bool, e = .returned (.bool r) ∧ (r = true ↔ ∃ x ∈ L, x.length ≠ 32)) ∧ Below w.heap.size w w') := by
  go_enter Tryd.func106, Tryd.ntmps106
  go_wp2_with fail
  refine (indexFunc_calls A c L hL hx _ hs).mono ?_
  rintro e w1 ⟨⟨i, rfl, hi⟩, h1⟩
  go_wp2_with fail
  go_ret
  exact ⟨⟨_, rfl, by simp⟩, h1⟩
end Go.Proofs.YtpmmjomejackkaaDoor
