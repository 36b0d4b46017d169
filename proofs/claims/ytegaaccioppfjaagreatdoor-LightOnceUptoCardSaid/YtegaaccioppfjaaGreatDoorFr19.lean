/- What the later texts stand on (SszG, SszU, SszJ, SszS): plain laws and walks, each by its own conditions. -/
import Derived.Test.YtegaaccioppfjaaGreatDoorFr11
import Derived.Test.YtegaaccioppfjaaGreatDoorFr13
set_option linter.unusedSimpArgs false
set_option linter.unusedVariables false
section
namespace Go.Proofs.YtegaaccioppfjaaGreatDoor
open BigFrame Go.RowKit Go.Phx Go.Shelf
attribute [local go_sem] Oper.semAt_some

set_option maxRecDepth 100000 in
/-- the reference's: are chunks ones of a tree of a depth? at a depth that is none -/
theorem rright_no (A : Option Addr) (c : Nat) (L : List Bytes) (d : Int) (hd : ¬ (0 ≤ d ∧ d ≤ 10)) (w : World) :
  Calls Tryz.prog 141 #[.slice A L.length c, .int .i64 d] w (Ret w (.bool false)) := by
 by_cases h0 : d < 0
 ·go_enter Tryz.func141, Tryz.ntmps141
  go_wp2_with fail
  go_ret
  exact ⟨rfl, Below.refl _ _⟩
 ·have h1 : 10 < d := by omega
  go_enter Tryz.func141, Tryz.ntmps141
  go_wp2_with fail
  go_ret
  exact ⟨rfl, Below.refl _ _⟩
set_option maxRecDepth 100000 in
theorem rright_at0 (A : Option Addr) (c : Nat) (L : List Bytes) (hx : ∀ x ∈ L, x.length ≤ 9223372036854775807) (w : World) (hs : Txts w A L) :
  Calls Tryz.prog 141 #[.slice A L.length c, .int .i64 0] w (fun e w' => (∃ r : Bool, e = .returned (.bool r) ∧ (r = true ↔ RightP L 0)) ∧ Below w.heap.size w w') := by
 by_cases hl : L.length ≤ 1
 ·have hl1 : (L.length : Int) ≤ 1 := by omega
  have hl2 : (L.length : Int) ≤ 256 := by omega
  have hl3 : ¬ (1 < L.length) := by omega
  have hl4 : ¬ (256 < L.length) := by omega
  have hR := Lib.hid (show RightP L 0 ↔ ∀ x ∈ L, x.length = 32 from ⟨fun h => h.2.2.2.2, fun h => ⟨by omega, by omega, by omega, by show L.length ≤ 1; omega, h⟩⟩)
  go_enter Tryz.func141, Tryz.ntmps141
  go_wp2_with fail
  go_loopw [5] (fun i wr => ∃ k : Nat, k ≤ L.length ∧ i = .int .i64 k ∧ (∀ x ∈ L.take k, x.length = 32) ∧ Below w.heap.size w wr) (fun i _ => (L.length - intOf i).toNat)
  case atStart => exact ⟨0, by omega, rfl, by simp, Below.refl _ _⟩
  case round =>
   obtain ⟨k, hk, rfl, hall, HB⟩ := hrel
   by_cases hlt : k < L.length
   ·obtain ⟨b, o, rfl, hb, hc⟩ := Txts.at (Strs.below hs HB : Txts wr A L) k hlt
    have hxk := hx _ (List.getElem_mem hlt)
    have e1 : L.getD k [] = L[k] := by rw [List.getD, List.getElem?_eq_getElem hlt]; rfl
    have hm := List.getElem_mem hlt
    have ht : L.take (k + 1) = L.take k ++ [L[k]] := by rw [List.take_add_one, List.getElem?_eq_getElem hlt]; rfl
    rw [e1] at hc
    generalize L[k] = x at *
    have HT := Lib.hid ht
    have HA := Lib.hid hall
    clear ht hall e1 hx hs
    by_cases h32 : x.length = 32
    ·have h32i : (x.length : Int) = 32 := by omega
     have h33 : ((x.length : Int) != 32) = false := by simp; omega
     go_wp2_with fail
     go_roundw
     case rel => exact ⟨k + 1, by omega, by go_num, by rw [HT.out]; intro y hy; rcases List.mem_append.1 hy with hy | hy; exact HA.out y hy; rw [List.mem_singleton.1 hy]; exact h32, HB⟩
     case measure => simp [intOf]; omega
    ·have h33 : ((x.length : Int) != 32) = true := by simp; omega
     have hN := Lib.hid (show ¬ RightP L 0 from fun h => h32 (hR.out.1 h x hm))
     go_wp2_with fail
     go_ret
     first | exact ⟨.inl ⟨rfl, hN.out⟩, HB⟩ | exact ⟨⟨false, rfl, by simp [hN.out]⟩, HB⟩
   ·obtain rfl : k = L.length := by omega
    rw [List.take_of_length_le (Nat.le_refl _)] at hall
    have hY := Lib.hid (hR.out.2 hall)
    clear hall hx hs
    go_wp2_with fail
    go_ret
    first | exact ⟨.inr ⟨rfl, hY.out⟩, HB⟩ | exact ⟨⟨true, rfl, by simp [hY.out]⟩, HB⟩
 ·have hR := Lib.hid (show ¬ RightP L 0 from fun h => by have h1 := h.2.2.1; have h2 : L.length ≤ 1 := h.2.2.2.1; omega)
  by_cases hp : 1 < L.length
  ·go_enter Tryz.func141, Tryz.ntmps141
   go_wp2_with fail
   go_ret
   first | exact ⟨.inl ⟨rfl, hR.out⟩, Below.refl _ _⟩ | exact ⟨⟨false, rfl, by simp [hR.out]⟩, Below.refl _ _⟩
  ·exact absurd (by omega) hl
set_option maxRecDepth 100000 in
theorem rright_at1 (A : Option Addr) (c : Nat) (L : List Bytes) (hx : ∀ x ∈ L, x.length ≤ 9223372036854775807) (w : World) (hs : Txts w A L) :
  Calls Tryz.prog 141 #[.slice A L.length c, .int .i64 1] w (fun e w' => (∃ r : Bool, e = .returned (.bool r) ∧ (r = true ↔ RightP L 1)) ∧ Below w.heap.size w w') := by
 by_cases hl : L.length ≤ 2
 ·have hl1 : (L.length : Int) ≤ 2 := by omega
  have hl2 : (L.length : Int) ≤ 256 := by omega
  have hl3 : ¬ (2 < L.length) := by omega
  have hl4 : ¬ (256 < L.length) := by omega
  have hR := Lib.hid (show RightP L 1 ↔ ∀ x ∈ L, x.length = 32 from ⟨fun h => h.2.2.2.2, fun h => ⟨by omega, by omega, by omega, by show L.length ≤ 2; omega, h⟩⟩)
  go_enter Tryz.func141, Tryz.ntmps141
  go_wp2_with fail
  go_loopw [5] (fun i wr => ∃ k : Nat, k ≤ L.length ∧ i = .int .i64 k ∧ (∀ x ∈ L.take k, x.length = 32) ∧ Below w.heap.size w wr) (fun i _ => (L.length - intOf i).toNat)
  case atStart => exact ⟨0, by omega, rfl, by simp, Below.refl _ _⟩
  case round =>
   obtain ⟨k, hk, rfl, hall, HB⟩ := hrel
   by_cases hlt : k < L.length
   ·obtain ⟨b, o, rfl, hb, hc⟩ := Txts.at (Strs.below hs HB : Txts wr A L) k hlt
    have hxk := hx _ (List.getElem_mem hlt)
    have e1 : L.getD k [] = L[k] := by rw [List.getD, List.getElem?_eq_getElem hlt]; rfl
    have hm := List.getElem_mem hlt
    have ht : L.take (k + 1) = L.take k ++ [L[k]] := by rw [List.take_add_one, List.getElem?_eq_getElem hlt]; rfl
    rw [e1] at hc
    generalize L[k] = x at *
    have HT := Lib.hid ht
    have HA := Lib.hid hall
    clear ht hall e1 hx hs
    by_cases h32 : x.length = 32
    ·have h32i : (x.length : Int) = 32 := by omega
     have h33 : ((x.length : Int) != 32) = false := by simp; omega
     go_wp2_with fail
     go_roundw
     case rel => exact ⟨k + 1, by omega, by go_num, by rw [HT.out]; intro y hy; rcases List.mem_append.1 hy with hy | hy; exact HA.out y hy; rw [List.mem_singleton.1 hy]; exact h32, HB⟩
     case measure => simp [intOf]; omega
    ·have h33 : ((x.length : Int) != 32) = true := by simp; omega
     have hN := Lib.hid (show ¬ RightP L 1 from fun h => h32 (hR.out.1 h x hm))
     go_wp2_with fail
     go_ret
     first | exact ⟨.inl ⟨rfl, hN.out⟩, HB⟩ | exact ⟨⟨false, rfl, by simp [hN.out]⟩, HB⟩
   ·obtain rfl : k = L.length := by omega
    rw [List.take_of_length_le (Nat.le_refl _)] at hall
    have hY := Lib.hid (hR.out.2 hall)
    clear hall hx hs
    go_wp2_with fail
    go_ret
    first | exact ⟨.inr ⟨rfl, hY.out⟩, HB⟩ | exact ⟨⟨true, rfl, by simp [hY.out]⟩, HB⟩
 ·have hR := Lib.hid (show ¬ RightP L 1 from fun h => by have h1 := h.2.2.1; have h2 : L.length ≤ 2 := h.2.2.2.1; omega)
  by_cases hp : 2 < L.length
  ·go_enter Tryz.func141, Tryz.ntmps141
   go_wp2_with fail
   go_ret
   first | exact ⟨.inl ⟨rfl, hR.out⟩, Below.refl _ _⟩ | exact ⟨⟨false, rfl, by simp [hR.out]⟩, Below.refl _ _⟩
  ·exact absurd (by omega) hl
set_option maxRecDepth 100000 in
theorem rright_at2 (A : Option Addr) (c : Nat) (L : List Bytes) (hx : ∀ x ∈ L, x.length ≤ 9223372036854775807) (w : World) (hs : Txts w A L) :
  Calls Tryz.prog 141 #[.slice A L.length c, .int .i64 2] w (fun e w' => (∃ r : Bool, e = .returned (.bool r) ∧ (r = true ↔ RightP L 2)) ∧ Below w.heap.size w w') := by
 by_cases hl : L.length ≤ 4
 ·have hl1 : (L.length : Int) ≤ 4 := by omega
  have hl2 : (L.length : Int) ≤ 256 := by omega
  have hl3 : ¬ (4 < L.length) := by omega
  have hl4 : ¬ (256 < L.length) := by omega
  have hR := Lib.hid (show RightP L 2 ↔ ∀ x ∈ L, x.length = 32 from ⟨fun h => h.2.2.2.2, fun h => ⟨by omega, by omega, by omega, by show L.length ≤ 4; omega, h⟩⟩)
  go_enter Tryz.func141, Tryz.ntmps141
  go_wp2_with fail
  go_loopw [5] (fun i wr => ∃ k : Nat, k ≤ L.length ∧ i = .int .i64 k ∧ (∀ x ∈ L.take k, x.length = 32) ∧ Below w.heap.size w wr) (fun i _ => (L.length - intOf i).toNat)
  case atStart => exact ⟨0, by omega, rfl, by simp, Below.refl _ _⟩
  case round =>
   obtain ⟨k, hk, rfl, hall, HB⟩ := hrel
   by_cases hlt : k < L.length
   ·obtain ⟨b, o, rfl, hb, hc⟩ := Txts.at (Strs.below hs HB : Txts wr A L) k hlt
    have hxk := hx _ (List.getElem_mem hlt)
    have e1 : L.getD k [] = L[k] := by rw [List.getD, List.getElem?_eq_getElem hlt]; rfl
    have hm := List.getElem_mem hlt
    have ht : L.take (k + 1) = L.take k ++ [L[k]] := by rw [List.take_add_one, List.getElem?_eq_getElem hlt]; rfl
    rw [e1] at hc
    generalize L[k] = x at *
    have HT := Lib.hid ht
    have HA := Lib.hid hall
    clear ht hall e1 hx hs
    by_cases h32 : x.length = 32
    ·have h32i : (x.length : Int) = 32 := by omega
     have h33 : ((x.length : Int) != 32) = false := by simp; omega
     go_wp2_with fail
     go_roundw
     case rel => exact ⟨k + 1, by omega, by go_num, by rw [HT.out]; intro y hy; rcases List.mem_append.1 hy with hy | hy; exact HA.out y hy; rw [List.mem_singleton.1 hy]; exact h32, HB⟩
     case measure => simp [intOf]; omega
    ·have h33 : ((x.length : Int) != 32) = true := by simp; omega
     have hN := Lib.hid (show ¬ RightP L 2 from fun h => h32 (hR.out.1 h x hm))
     go_wp2_with fail
     go_ret
     first | exact ⟨.inl ⟨rfl, hN.out⟩, HB⟩ | exact ⟨⟨false, rfl, by simp [hN.out]⟩, HB⟩
   ·obtain rfl : k = L.length := by omega
    rw [List.take_of_length_le (Nat.le_refl _)] at hall
    have hY := Lib.hid (hR.out.2 hall)
    clear hall hx hs
    go_wp2_with fail
    go_ret
    first | exact ⟨.inr ⟨rfl, hY.out⟩, HB⟩ | exact ⟨⟨true, rfl, by simp [hY.out]⟩, HB⟩
 ·have hR := Lib.hid (show ¬ RightP L 2 from fun h => by have h1 := h.2.2.1; have h2 : L.length ≤ 4 := h.2.2.2.1; omega)
  by_cases hp : 4 < L.length
  ·go_enter Tryz.func141, Tryz.ntmps141
   go_wp2_with fail
   go_ret
   first | exact ⟨.inl ⟨rfl, hR.out⟩, Below.refl _ _⟩ | exact ⟨⟨false, rfl, by simp [hR.out]⟩, Below.refl _ _⟩
  ·exact absurd (by omega) hl
set_option maxRecDepth 100000 in
theorem rright_at3 (A : Option Addr) (c : Nat) (L : List Bytes) (hx : ∀ x ∈ L, x.length ≤ 9223372036854775807) (w : World) (hs : Txts w A L) :
  Calls Tryz.prog 141 #[.slice A L.length c, .int .i64 3] w (fun e w' => (∃ r : Bool, e = .returned (.bool r) ∧ (r = true ↔ RightP L 3)) ∧ Below w.heap.size w w') := by
 by_cases hl : L.length ≤ 8
 ·have hl1 : (L.length : Int) ≤ 8 := by omega
  have hl2 : (L.length : Int) ≤ 256 := by omega
  have hl3 : ¬ (8 < L.length) := by omega
  have hl4 : ¬ (256 < L.length) := by omega
  have hR := Lib.hid (show RightP L 3 ↔ ∀ x ∈ L, x.length = 32 from ⟨fun h => h.2.2.2.2, fun h => ⟨by omega, by omega, by omega, by show L.length ≤ 8; omega, h⟩⟩)
  go_enter Tryz.func141, Tryz.ntmps141
  go_wp2_with fail
  go_loopw [5] (fun i wr => ∃ k : Nat, k ≤ L.length ∧ i = .int .i64 k ∧ (∀ x ∈ L.take k, x.length = 32) ∧ Below w.heap.size w wr) (fun i _ => (L.length - intOf i).toNat)
  case atStart => exact ⟨0, by omega, rfl, by simp, Below.refl _ _⟩
  case round =>
   obtain ⟨k, hk, rfl, hall, HB⟩ := hrel
   by_cases hlt : k < L.length
   ·obtain ⟨b, o, rfl, hb, hc⟩ := Txts.at (Strs.below hs HB : Txts wr A L) k hlt
    have hxk := hx _ (List.getElem_mem hlt)
    have e1 : L.getD k [] = L[k] := by rw [List.getD, List.getElem?_eq_getElem hlt]; rfl
    have hm := List.getElem_mem hlt
    have ht : L.take (k + 1) = L.take k ++ [L[k]] := by rw [List.take_add_one, List.getElem?_eq_getElem hlt]; rfl
    rw [e1] at hc
    generalize L[k] = x at *
    have HT := Lib.hid ht
    have HA := Lib.hid hall
    clear ht hall e1 hx hs
    by_cases h32 : x.length = 32
    ·have h32i : (x.length : Int) = 32 := by omega
     have h33 : ((x.length : Int) != 32) = false := by simp; omega
     go_wp2_with fail
     go_roundw
     case rel => exact ⟨k + 1, by omega, by go_num, by rw [HT.out]; intro y hy; rcases List.mem_append.1 hy with hy | hy; exact HA.out y hy; rw [List.mem_singleton.1 hy]; exact h32, HB⟩
     case measure => simp [intOf]; omega
    ·have h33 : ((x.length : Int) != 32) = true := by simp; omega
     have hN := Lib.hid (show ¬ RightP L 3 from fun h => h32 (hR.out.1 h x hm))
     go_wp2_with fail
     go_ret
     first | exact ⟨.inl ⟨rfl, hN.out⟩, HB⟩ | exact ⟨⟨false, rfl, by simp [hN.out]⟩, HB⟩
   ·obtain rfl : k = L.length := by omega
    rw [List.take_of_length_le (Nat.le_refl _)] at hall
    have hY := Lib.hid (hR.out.2 hall)
    clear hall hx hs
    go_wp2_with fail
    go_ret
    first | exact ⟨.inr ⟨rfl, hY.out⟩, HB⟩ | exact ⟨⟨true, rfl, by simp [hY.out]⟩, HB⟩
 ·have hR := Lib.hid (show ¬ RightP L 3 from fun h => by have h1 := h.2.2.1; have h2 : L.length ≤ 8 := h.2.2.2.1; omega)
  by_cases hp : 8 < L.length
  ·go_enter Tryz.func141, Tryz.ntmps141
   go_wp2_with fail
   go_ret
   first | exact ⟨.inl ⟨rfl, hR.out⟩, Below.refl _ _⟩ | exact ⟨⟨false, rfl, by simp [hR.out]⟩, Below.refl _ _⟩
  ·exact absurd (by omega) hl
set_option maxRecDepth 100000 in
theorem rright_at4 (A : Option Addr) (c : Nat) (L : List Bytes) (hx : ∀ x ∈ L, x.length ≤ 9223372036854775807) (w : World) (hs : Txts w A L) :
  Calls Tryz.prog 141 #[.slice A L.length c, .int .i64 4] w (fun e w' => (∃ r : Bool, e = .returned (.bool r) ∧ (r = true ↔ RightP L 4)) ∧ Below w.heap.size w w') := by
 by_cases hl : L.length ≤ 16
 ·have hl1 : (L.length : Int) ≤ 16 := by omega
  have hl2 : (L.length : Int) ≤ 256 := by omega
  have hl3 : ¬ (16 < L.length) := by omega
  have hl4 : ¬ (256 < L.length) := by omega
  have hR := Lib.hid (show RightP L 4 ↔ ∀ x ∈ L, x.length = 32 from ⟨fun h => h.2.2.2.2, fun h => ⟨by omega, by omega, by omega, by show L.length ≤ 16; omega, h⟩⟩)
  go_enter Tryz.func141, Tryz.ntmps141
  go_wp2_with fail
  go_loopw [5] (fun i wr => ∃ k : Nat, k ≤ L.length ∧ i = .int .i64 k ∧ (∀ x ∈ L.take k, x.length = 32) ∧ Below w.heap.size w wr) (fun i _ => (L.length - intOf i).toNat)
  case atStart => exact ⟨0, by omega, rfl, by simp, Below.refl _ _⟩
  case round =>
   obtain ⟨k, hk, rfl, hall, HB⟩ := hrel
   by_cases hlt : k < L.length
   ·obtain ⟨b, o, rfl, hb, hc⟩ := Txts.at (Strs.below hs HB : Txts wr A L) k hlt
    have hxk := hx _ (List.getElem_mem hlt)
    have e1 : L.getD k [] = L[k] := by rw [List.getD, List.getElem?_eq_getElem hlt]; rfl
    have hm := List.getElem_mem hlt
    have ht : L.take (k + 1) = L.take k ++ [L[k]] := by rw [List.take_add_one, List.getElem?_eq_getElem hlt]; rfl
    rw [e1] at hc
    generalize L[k] = x at *
    have HT := Lib.hid ht
    have HA := Lib.hid hall
    clear ht hall e1 hx hs
    by_cases h32 : x.length = 32
    ·have h32i : (x.length : Int) = 32 := by omega
     have h33 : ((x.length : Int) != 32) = false := by simp; omega
     go_wp2_with fail
     go_roundw
     case rel => exact ⟨k + 1, by omega, by go_num, by rw [HT.out]; intro y hy; rcases List.mem_append.1 hy with hy | hy; exact HA.out y hy; rw [List.mem_singleton.1 hy]; exact h32, HB⟩
     case measure => simp [intOf]; omega
    ·have h33 : ((x.length : Int) != 32) = true := by simp; omega
     have hN := Lib.hid (show ¬ RightP L 4 from fun h => h32 (hR.out.1 h x hm))
     go_wp2_with fail
     go_ret
     first | exact ⟨.inl ⟨rfl, hN.out⟩, HB⟩ | exact ⟨⟨false, rfl, by simp [hN.out]⟩, HB⟩
   ·obtain rfl : k = L.length := by omega
    rw [List.take_of_length_le (Nat.le_refl _)] at hall
    have hY := Lib.hid (hR.out.2 hall)
    clear hall hx hs
    go_wp2_with fail
    go_ret
    first | exact ⟨.inr ⟨rfl, hY.out⟩, HB⟩ | exact ⟨⟨true, rfl, by simp [hY.out]⟩, HB⟩
 ·have hR := Lib.hid (show ¬ RightP L 4 from fun h => by have h1 := h.2.2.1; have h2 : L.length ≤ 16 := h.2.2.2.1; omega)
  by_cases hp : 16 < L.length
  ·go_enter Tryz.func141, Tryz.ntmps141
   go_wp2_with fail
   go_ret
   first | exact ⟨.inl ⟨rfl, hR.out⟩, Below.refl _ _⟩ | exact ⟨⟨false, rfl, by simp [hR.out]⟩, Below.refl _ _⟩
  ·exact absurd (by omega) hl
set_option maxRecDepth 100000 in
theorem rright_at5 (A : Option Addr) (c : Nat) (L : List Bytes) (hx : ∀ x ∈ L, x.length ≤ 9223372036854775807) (w : World) (hs : Txts w A L) :
  Calls Tryz.prog 141 #[.slice A L.length c, .int .i64 5] w (fun e w' => (∃ r : Bool, e = .returned (.bool r) ∧ (r = true ↔ RightP L 5)) ∧ Below w.heap.size w w') := by
 by_cases hl : L.length ≤ 32
 ·have hl1 : (L.length : Int) ≤ 32 := by omega
  have hl2 : (L.length : Int) ≤ 256 := by omega
  have hl3 : ¬ (32 < L.length) := by omega
  have hl4 : ¬ (256 < L.length) := by omega
  have hR := Lib.hid (show RightP L 5 ↔ ∀ x ∈ L, x.length = 32 from ⟨fun h => h.2.2.2.2, fun h => ⟨by omega, by omega, by omega, by show L.length ≤ 32; omega, h⟩⟩)
  go_enter Tryz.func141, Tryz.ntmps141
  go_wp2_with fail
  go_loopw [5] (fun i wr => ∃ k : Nat, k ≤ L.length ∧ i = .int .i64 k ∧ (∀ x ∈ L.take k, x.length = 32) ∧ Below w.heap.size w wr) (fun i _ => (L.length - intOf i).toNat)
  case atStart => exact ⟨0, by omega, rfl, by simp, Below.refl _ _⟩
  case round =>
   obtain ⟨k, hk, rfl, hall, HB⟩ := hrel
   by_cases hlt : k < L.length
   ·obtain ⟨b, o, rfl, hb, hc⟩ := Txts.at (Strs.below hs HB : Txts wr A L) k hlt
    have hxk := hx _ (List.getElem_mem hlt)
    have e1 : L.getD k [] = L[k] := by rw [List.getD, List.getElem?_eq_getElem hlt]; rfl
    have hm := List.getElem_mem hlt
    have ht : L.take (k + 1) = L.take k ++ [L[k]] := by rw [List.take_add_one, List.getElem?_eq_getElem hlt]; rfl
    rw [e1] at hc
    generalize L[k] = x at *
    have HT := Lib.hid ht
    have HA := Lib.hid hall
    clear ht hall e1 hx hs
    by_cases h32 : x.length = 32
    ·have h32i : (x.length : Int) = 32 := by omega
     have h33 : ((x.length : Int) != 32) = false := by simp; omega
     go_wp2_with fail
     go_roundw
     case rel => exact ⟨k + 1, by omega, by go_num, by rw [HT.out]; intro y hy; rcases List.mem_append.1 hy with hy | hy; exact HA.out y hy; rw [List.mem_singleton.1 hy]; exact h32, HB⟩
     case measure => simp [intOf]; omega
    ·have h33 : ((x.length : Int) != 32) = true := by simp; omega
     have hN := Lib.hid (show ¬ RightP L 5 from fun h => h32 (hR.out.1 h x hm))
     go_wp2_with fail
     go_ret
     first | exact ⟨.inl ⟨rfl, hN.out⟩, HB⟩ | exact ⟨⟨false, rfl, by simp [hN.out]⟩, HB⟩
   ·obtain rfl : k = L.length := by omega
    rw [List.take_of_length_le (Nat.le_refl _)] at hall
    have hY := Lib.hid (hR.out.2 hall)
    clear hall hx hs
    go_wp2_with fail
    go_ret
    first | exact ⟨.inr ⟨rfl, hY.out⟩, HB⟩ | exact ⟨⟨true, rfl, by simp [hY.out]⟩, HB⟩
 ·have hR := Lib.hid (show ¬ RightP L 5 from fun h => by have h1 := h.2.2.1; have h2 : L.length ≤ 32 := h.2.2.2.1; omega)
  by_cases hp : 32 < L.length
  ·go_enter Tryz.func141, Tryz.ntmps141
   go_wp2_with fail
   go_ret
   first | exact ⟨.inl ⟨rfl, hR.out⟩, Below.refl _ _⟩ | exact ⟨⟨false, rfl, by simp [hR.out]⟩, Below.refl _ _⟩
  ·exact absurd (by omega) hl
set_option maxRecDepth 100000 in
theorem rright_at6 (A : Option Addr) (c : Nat) (L : List Bytes) (hx : ∀ x ∈ L, x.length ≤ 9223372036854775807) (w : World) (hs : Txts w A L) :
  Calls Tryz.prog 141 #[.slice A L.length c, .int .i64 6] w (fun e w' => (∃ r : Bool, e = .returned (.bool r) ∧ (r = true ↔ RightP L 6)) ∧ Below w.heap.size w w') := by
 by_cases hl : L.length ≤ 64
 ·have hl1 : (L.length : Int) ≤ 64 := by omega
  have hl2 : (L.length : Int) ≤ 256 := by omega
  have hl3 : ¬ (64 < L.length) := by omega
  have hl4 : ¬ (256 < L.length) := by omega
  have hR := Lib.hid (show RightP L 6 ↔ ∀ x ∈ L, x.length = 32 from ⟨fun h => h.2.2.2.2, fun h => ⟨by omega, by omega, by omega, by show L.length ≤ 64; omega, h⟩⟩)
  go_enter Tryz.func141, Tryz.ntmps141
  go_wp2_with fail
  go_loopw [5] (fun i wr => ∃ k : Nat, k ≤ L.length ∧ i = .int .i64 k ∧ (∀ x ∈ L.take k, x.length = 32) ∧ Below w.heap.size w wr) (fun i _ => (L.length - intOf i).toNat)
  case atStart => exact ⟨0, by omega, rfl, by simp, Below.refl _ _⟩
  case round =>
   obtain ⟨k, hk, rfl, hall, HB⟩ := hrel
   by_cases hlt : k < L.length
   ·obtain ⟨b, o, rfl, hb, hc⟩ := Txts.at (Strs.below hs HB : Txts wr A L) k hlt
    have hxk := hx _ (List.getElem_mem hlt)
    have e1 : L.getD k [] = L[k] := by rw [List.getD, List.getElem?_eq_getElem hlt]; rfl
    have hm := List.getElem_mem hlt
    have ht : L.take (k + 1) = L.take k ++ [L[k]] := by rw [List.take_add_one, List.getElem?_eq_getElem hlt]; rfl
    rw [e1] at hc
    generalize L[k] = x at *
    have HT := Lib.hid ht
    have HA := Lib.hid hall
    clear ht hall e1 hx hs
    by_cases h32 : x.length = 32
    ·have h32i : (x.length : Int) = 32 := by omega
     have h33 : ((x.length : Int) != 32) = false := by simp; omega
     go_wp2_with fail
     go_roundw
     case rel => exact ⟨k + 1, by omega, by go_num, by rw [HT.out]; intro y hy; rcases List.mem_append.1 hy with hy | hy; exact HA.out y hy; rw [List.mem_singleton.1 hy]; exact h32, HB⟩
     case measure => simp [intOf]; omega
    ·have h33 : ((x.length : Int) != 32) = true := by simp; omega
     have hN := Lib.hid (show ¬ RightP L 6 from fun h => h32 (hR.out.1 h x hm))
     go_wp2_with fail
     go_ret
     first | exact ⟨.inl ⟨rfl, hN.out⟩, HB⟩ | exact ⟨⟨false, rfl, by simp [hN.out]⟩, HB⟩
   ·obtain rfl : k = L.length := by omega
    rw [List.take_of_length_le (Nat.le_refl _)] at hall
    have hY := Lib.hid (hR.out.2 hall)
    clear hall hx hs
    go_wp2_with fail
    go_ret
    first | exact ⟨.inr ⟨rfl, hY.out⟩, HB⟩ | exact ⟨⟨true, rfl, by simp [hY.out]⟩, HB⟩
 ·have hR := Lib.hid (show ¬ RightP L 6 from fun h => by have h1 := h.2.2.1; have h2 : L.length ≤ 64 := h.2.2.2.1; omega)
  by_cases hp : 64 < L.length
  ·go_enter Tryz.func141, Tryz.ntmps141
   go_wp2_with fail
   go_ret
   first | exact ⟨.inl ⟨rfl, hR.out⟩, Below.refl _ _⟩ | exact ⟨⟨false, rfl, by simp [hR.out]⟩, Below.refl _ _⟩
  ·exact absurd (by omega) hl
set_option maxRecDepth 100000 in
theorem rright_at7 (A : Option Addr) (c : Nat) (L : List Bytes) (hx : ∀ x ∈ L, x.length ≤ 9223372036854775807) (w : World) (hs : Txts w A L) :
  Calls Tryz.prog 141 #[.slice A L.length c, .int .i64 7] w (fun e w' => (∃ r : Bool, e = .returned (.bool r) ∧ (r = true ↔ RightP L 7)) ∧ Below w.heap.size w w') := by
 by_cases hl : L.length ≤ 128
 ·have hl1 : (L.length : Int) ≤ 128 := by omega
  have hl2 : (L.length : Int) ≤ 256 := by omega
  have hl3 : ¬ (128 < L.length) := by omega
  have hl4 : ¬ (256 < L.length) := by omega
  have hR := Lib.hid (show RightP L 7 ↔ ∀ x ∈ L, x.length = 32 from ⟨fun h => h.2.2.2.2, fun h => ⟨by omega, by omega, by omega, by show L.length ≤ 128; omega, h⟩⟩)
  go_enter Tryz.func141, Tryz.ntmps141
  go_wp2_with fail
  go_loopw [5] (fun i wr => ∃ k : Nat, k ≤ L.length ∧ i = .int .i64 k ∧ (∀ x ∈ L.take k, x.length = 32) ∧ Below w.heap.size w wr) (fun i _ => (L.length - intOf i).toNat)
  case atStart => exact ⟨0, by omega, rfl, by simp, Below.refl _ _⟩
  case round =>
   obtain ⟨k, hk, rfl, hall, HB⟩ := hrel
   by_cases hlt : k < L.length
   ·obtain ⟨b, o, rfl, hb, hc⟩ := Txts.at (Strs.below hs HB : Txts wr A L) k hlt
    have hxk := hx _ (List.getElem_mem hlt)
    have e1 : L.getD k [] = L[k] := by rw [List.getD, List.getElem?_eq_getElem hlt]; rfl
    have hm := List.getElem_mem hlt
    have ht : L.take (k + 1) = L.take k ++ [L[k]] := by rw [List.take_add_one, List.getElem?_eq_getElem hlt]; rfl
    rw [e1] at hc
    generalize L[k] = x at *
    have HT := Lib.hid ht
    have HA := Lib.hid hall
    clear ht hall e1 hx hs
    by_cases h32 : x.length = 32
    ·have h32i : (x.length : Int) = 32 := by omega
     have h33 : ((x.length : Int) != 32) = false := by simp; omega
     go_wp2_with fail
     go_roundw
     case rel => exact ⟨k + 1, by omega, by go_num, by rw [HT.out]; intro y hy; rcases List.mem_append.1 hy with hy | hy; exact HA.out y hy; rw [List.mem_singleton.1 hy]; exact h32, HB⟩
     case measure => simp [intOf]; omega
    ·have h33 : ((x.length : Int) != 32) = true := by simp; omega
     have hN := Lib.hid (show ¬ RightP L 7 from fun h => h32 (hR.out.1 h x hm))
     go_wp2_with fail
     go_ret
     first | exact ⟨.inl ⟨rfl, hN.out⟩, HB⟩ | exact ⟨⟨false, rfl, by simp [hN.out]⟩, HB⟩
   ·obtain rfl : k = L.length := by omega
    rw [List.take_of_length_le (Nat.le_refl _)] at hall
    have hY := Lib.hid (hR.out.2 hall)
    clear hall hx hs
    go_wp2_with fail
    go_ret
    first | exact ⟨.inr ⟨rfl, hY.out⟩, HB⟩ | exact ⟨⟨true, rfl, by simp [hY.out]⟩, HB⟩
 ·have hR := Lib.hid (show ¬ RightP L 7 from fun h => by have h1 := h.2.2.1; have h2 : L.length ≤ 128 := h.2.2.2.1; omega)
  by_cases hp : 128 < L.length
  ·go_enter Tryz.func141, Tryz.ntmps141
   go_wp2_with fail
   go_ret
   first | exact ⟨.inl ⟨rfl, hR.out⟩, Below.refl _ _⟩ | exact ⟨⟨false, rfl, by simp [hR.out]⟩, Below.refl _ _⟩
  ·exact absurd (by omega) hl
set_option maxRecDepth 100000 in
theorem rright_at8 (A : Option Addr) (c : Nat) (L : List Bytes) (hx : ∀ x ∈ L, x.length ≤ 9223372036854775807) (w : World) (hs : Txts w A L) :
  Calls Tryz.prog 141 #[.slice A L.length c, .int .i64 8] w (fun e w' => (∃ r : Bool, e = .returned (.bool r) ∧ (r = true ↔ RightP L 8)) ∧ Below w.heap.size w w') := by
 by_cases hl : L.length ≤ 256
 ·have hl1 : (L.length : Int) ≤ 256 := by omega
  have hl2 : (L.length : Int) ≤ 256 := by omega
  have hl3 : ¬ (256 < L.length) := by omega
  have hl4 : ¬ (256 < L.length) := by omega
  have hR := Lib.hid (show RightP L 8 ↔ ∀ x ∈ L, x.length = 32 from ⟨fun h => h.2.2.2.2, fun h => ⟨by omega, by omega, by omega, by show L.length ≤ 256; omega, h⟩⟩)
  go_enter Tryz.func141, Tryz.ntmps141
  go_wp2_with fail
  go_loopw [5] (fun i wr => ∃ k : Nat, k ≤ L.length ∧ i = .int .i64 k ∧ (∀ x ∈ L.take k, x.length = 32) ∧ Below w.heap.size w wr) (fun i _ => (L.length - intOf i).toNat)
  case atStart => exact ⟨0, by omega, rfl, by simp, Below.refl _ _⟩
  case round =>
   obtain ⟨k, hk, rfl, hall, HB⟩ := hrel
   by_cases hlt : k < L.length
   ·obtain ⟨b, o, rfl, hb, hc⟩ := Txts.at (Strs.below hs HB : Txts wr A L) k hlt
    have hxk := hx _ (List.getElem_mem hlt)
    have e1 : L.getD k [] = L[k] := by rw [List.getD, List.getElem?_eq_getElem hlt]; rfl
    have hm := List.getElem_mem hlt
    have ht : L.take (k + 1) = L.take k ++ [L[k]] := by rw [List.take_add_one, List.getElem?_eq_getElem hlt]; rfl
    rw [e1] at hc
    generalize L[k] = x at *
    have HT := Lib.hid ht
    have HA := Lib.hid hall
    clear ht hall e1 hx hs
    by_cases h32 : x.length = 32
    ·have h32i : (x.length : Int) = 32 := by omega
     have h33 : ((x.length : Int) != 32) = false := by simp; omega
     go_wp2_with fail
     go_roundw
     case rel => exact ⟨k + 1, by omega, by go_num, by rw [HT.out]; intro y hy; rcases List.mem_append.1 hy with hy | hy; exact HA.out y hy; rw [List.mem_singleton.1 hy]; exact h32, HB⟩
     case measure => simp [intOf]; omega
    ·have h33 : ((x.length : Int) != 32) = true := by simp; omega
     have hN := Lib.hid (show ¬ RightP L 8 from fun h => h32 (hR.out.1 h x hm))
     go_wp2_with fail
     go_ret
     first | exact ⟨.inl ⟨rfl, hN.out⟩, HB⟩ | exact ⟨⟨false, rfl, by simp [hN.out]⟩, HB⟩
   ·obtain rfl : k = L.length := by omega
    rw [List.take_of_length_le (Nat.le_refl _)] at hall
    have hY := Lib.hid (hR.out.2 hall)
    clear hall hx hs
    go_wp2_with fail
    go_ret
    first | exact ⟨.inr ⟨rfl, hY.out⟩, HB⟩ | exact ⟨⟨true, rfl, by simp [hY.out]⟩, HB⟩
 ·have hR := Lib.hid (show ¬ RightP L 8 from fun h => by have h1 := h.2.2.1; have h2 : L.length ≤ 256 := h.2.2.2.1; omega)
  by_cases hp : 256 < L.length
  ·go_enter Tryz.func141, Tryz.ntmps141
   go_wp2_with fail
   go_ret
   first | exact ⟨.inl ⟨rfl, hR.out⟩, Below.refl _ _⟩ | exact ⟨⟨false, rfl, by simp [hR.out]⟩, Below.refl _ _⟩
  ·exact absurd (by omega) hl
set_option maxRecDepth 100000 in
theorem rright_at9 (A : Option Addr) (c : Nat) (L : List Bytes) (hx : ∀ x ∈ L, x.length ≤ 9223372036854775807) (w : World) (hs : Txts w A L) :
  Calls Tryz.prog 141 #[.slice A L.length c, .int .i64 9] w (fun e w' => (∃ r : Bool, e = .returned (.bool r) ∧ (r = true ↔ RightP L 9)) ∧ Below w.heap.size w w') := by
 by_cases hl : L.length ≤ 256
 ·have hl1 : (L.length : Int) ≤ 512 := by omega
  have hl2 : (L.length : Int) ≤ 256 := by omega
  have hl3 : ¬ (512 < L.length) := by omega
  have hl4 : ¬ (256 < L.length) := by omega
  have hR := Lib.hid (show RightP L 9 ↔ ∀ x ∈ L, x.length = 32 from ⟨fun h => h.2.2.2.2, fun h => ⟨by omega, by omega, by omega, by show L.length ≤ 512; omega, h⟩⟩)
  go_enter Tryz.func141, Tryz.ntmps141
  go_wp2_with fail
  go_loopw [5] (fun i wr => ∃ k : Nat, k ≤ L.length ∧ i = .int .i64 k ∧ (∀ x ∈ L.take k, x.length = 32) ∧ Below w.heap.size w wr) (fun i _ => (L.length - intOf i).toNat)
  case atStart => exact ⟨0, by omega, rfl, by simp, Below.refl _ _⟩
  case round =>
   obtain ⟨k, hk, rfl, hall, HB⟩ := hrel
   by_cases hlt : k < L.length
   ·obtain ⟨b, o, rfl, hb, hc⟩ := Txts.at (Strs.below hs HB : Txts wr A L) k hlt
    have hxk := hx _ (List.getElem_mem hlt)
    have e1 : L.getD k [] = L[k] := by rw [List.getD, List.getElem?_eq_getElem hlt]; rfl
    have hm := List.getElem_mem hlt
    have ht : L.take (k + 1) = L.take k ++ [L[k]] := by rw [List.take_add_one, List.getElem?_eq_getElem hlt]; rfl
    rw [e1] at hc
    generalize L[k] = x at *
    have HT := Lib.hid ht
    have HA := Lib.hid hall
    clear ht hall e1 hx hs
    by_cases h32 : x.length = 32
    ·have h32i : (x.length : Int) = 32 := by omega
     have h33 : ((x.length : Int) != 32) = false := by simp; omega
     go_wp2_with fail
     go_roundw
     case rel => exact ⟨k + 1, by omega, by go_num, by rw [HT.out]; intro y hy; rcases List.mem_append.1 hy with hy | hy; exact HA.out y hy; rw [List.mem_singleton.1 hy]; exact h32, HB⟩
     case measure => simp [intOf]; omega
    ·have h33 : ((x.length : Int) != 32) = true := by simp; omega
     have hN := Lib.hid (show ¬ RightP L 9 from fun h => h32 (hR.out.1 h x hm))
     go_wp2_with fail
     go_ret
     first | exact ⟨.inl ⟨rfl, hN.out⟩, HB⟩ | exact ⟨⟨false, rfl, by simp [hN.out]⟩, HB⟩
   ·obtain rfl : k = L.length := by omega
    rw [List.take_of_length_le (Nat.le_refl _)] at hall
    have hY := Lib.hid (hR.out.2 hall)
    clear hall hx hs
    go_wp2_with fail
    go_ret
    first | exact ⟨.inr ⟨rfl, hY.out⟩, HB⟩ | exact ⟨⟨true, rfl, by simp [hY.out]⟩, HB⟩
 ·have hR := Lib.hid (show ¬ RightP L 9 from fun h => by have h1 := h.2.2.1; have h2 : L.length ≤ 512 := h.2.2.2.1; omega)
  by_cases hp : 512 < L.length
  ·go_enter Tryz.func141, Tryz.ntmps141
   go_wp2_with fail
   go_ret
   first | exact ⟨.inl ⟨rfl, hR.out⟩, Below.refl _ _⟩ | exact ⟨⟨false, rfl, by simp [hR.out]⟩, Below.refl _ _⟩
  ·have hp2 : 256 < L.length := by omega
   go_enter Tryz.func141, Tryz.ntmps141
   go_wp2_with fail
   go_ret
   first | exact ⟨.inl ⟨rfl, hR.out⟩, Below.refl _ _⟩ | exact ⟨⟨false, rfl, by simp [hR.out]⟩, Below.refl _ _⟩
set_option maxRecDepth 100000 in
theorem rright_at10 (A : Option Addr) (c : Nat) (L : List Bytes) (hx : ∀ x ∈ L, x.length ≤ 9223372036854775807) (w : World) (hs : Txts w A L) :
  Calls Tryz.prog 141 #[.slice A L.length c, .int .i64 10] w (fun e w' => (∃ r : Bool, e = .returned (.bool r) ∧ (r = true ↔ RightP L 10)) ∧ Below w.heap.size w w') := by
 by_cases hl : L.length ≤ 256
 ·have hl1 : (L.length : Int) ≤ 1024 := by omega
  have hl2 : (L.length : Int) ≤ 256 := by omega
  have hl3 : ¬ (1024 < L.length) := by omega
  have hl4 : ¬ (256 < L.length) := by omega
  have hR := Lib.hid (show RightP L 10 ↔ ∀ x ∈ L, x.length = 32 from ⟨fun h => h.2.2.2.2, fun h => ⟨by omega, by omega, by omega, by show L.length ≤ 1024; omega, h⟩⟩)
  go_enter Tryz.func141, Tryz.ntmps141
  go_wp2_with fail
  go_loopw [5] (fun i wr => ∃ k : Nat, k ≤ L.length ∧ i = .int .i64 k ∧ (∀ x ∈ L.take k, x.length = 32) ∧ Below w.heap.size w wr) (fun i _ => (L.length - intOf i).toNat)
  case atStart => exact ⟨0, by omega, rfl, by simp, Below.refl _ _⟩
  case round =>
   obtain ⟨k, hk, rfl, hall, HB⟩ := hrel
   by_cases hlt : k < L.length
   ·obtain ⟨b, o, rfl, hb, hc⟩ := Txts.at (Strs.below hs HB : Txts wr A L) k hlt
    have hxk := hx _ (List.getElem_mem hlt)
    have e1 : L.getD k [] = L[k] := by rw [List.getD, List.getElem?_eq_getElem hlt]; rfl
    have hm := List.getElem_mem hlt
    have ht : L.take (k + 1) = L.take k ++ [L[k]] := by rw [List.take_add_one, List.getElem?_eq_getElem hlt]; rfl
    rw [e1] at hc
    generalize L[k] = x at *
    have HT := Lib.hid ht
    have HA := Lib.hid hall
    clear ht hall e1 hx hs
    by_cases h32 : x.length = 32
    ·have h32i : (x.length : Int) = 32 := by omega
     have h33 : ((x.length : Int) != 32) = false := by simp; omega
     go_wp2_with fail
     go_roundw
     case rel => exact ⟨k + 1, by omega, by go_num, by rw [HT.out]; intro y hy; rcases List.mem_append.1 hy with hy | hy; exact HA.out y hy; rw [List.mem_singleton.1 hy]; exact h32, HB⟩
     case measure => simp [intOf]; omega
    ·have h33 : ((x.length : Int) != 32) = true := by simp; omega
     have hN := Lib.hid (show ¬ RightP L 10 from fun h => h32 (hR.out.1 h x hm))
     go_wp2_with fail
     go_ret
     first | exact ⟨.inl ⟨rfl, hN.out⟩, HB⟩ | exact ⟨⟨false, rfl, by simp [hN.out]⟩, HB⟩
   ·obtain rfl : k = L.length := by omega
    rw [List.take_of_length_le (Nat.le_refl _)] at hall
    have hY := Lib.hid (hR.out.2 hall)
    clear hall hx hs
    go_wp2_with fail
    go_ret
    first | exact ⟨.inr ⟨rfl, hY.out⟩, HB⟩ | exact ⟨⟨true, rfl, by simp [hY.out]⟩, HB⟩
 ·have hR := Lib.hid (show ¬ RightP L 10 from fun h => by have h1 := h.2.2.1; have h2 : L.length ≤ 1024 := h.2.2.2.1; omega)
  by_cases hp : 1024 < L.length
  ·go_enter Tryz.func141, Tryz.ntmps141
   go_wp2_with fail
   go_ret
   first | exact ⟨.inl ⟨rfl, hR.out⟩, Below.refl _ _⟩ | exact ⟨⟨false, rfl, by simp [hR.out]⟩, Below.refl _ _⟩
  ·have hp2 : 256 < L.length := by omega
   go_enter Tryz.func141, Tryz.ntmps141
   go_wp2_with fail
   go_ret
   first | exact ⟨.inl ⟨rfl, hR.out⟩, Below.refl _ _⟩ | exact ⟨⟨false, rfl, by simp [hR.out]⟩, Below.refl _ _⟩
set_option maxRecDepth 100000 in
theorem rright_calls (A : Option Addr) (c : Nat) (L : List Bytes) (d : Int) (hx : ∀ x ∈ L, x.length ≤ 9223372036854775807) (w : World) (hs : Txts w A L) :
  Calls Tryz.prog 141 #[.slice A L.length c, .int .i64 d] w (fun e w' => (∃ r : Bool, e = .returned (.bool r) ∧ (r = true ↔ RightP L d)) ∧ Below w.heap.size w w') := by
 by_cases h0 : 0 ≤ d ∧ d ≤ 10
 ·have hd : d = 0 ∨ d = 1 ∨ d = 2 ∨ d = 3 ∨ d = 4 ∨ d = 5 ∨ d = 6 ∨ d = 7 ∨ d = 8 ∨ d = 9 ∨ d = 10 := by omega
  rcases hd with rfl | rfl | rfl | rfl | rfl | rfl | rfl | rfl | rfl | rfl | rfl
  ·exact rright_at0 A c L hx w hs
  ·exact rright_at1 A c L hx w hs
  ·exact rright_at2 A c L hx w hs
  ·exact rright_at3 A c L hx w hs
  ·exact rright_at4 A c L hx w hs
  ·exact rright_at5 A c L hx w hs
  ·exact rright_at6 A c L hx w hs
  ·exact rright_at7 A c L hx w hs
  ·exact rright_at8 A c L hx w hs
  ·exact rright_at9 A c L hx w hs
  ·exact rright_at10 A c L hx w hs
 ·refine (rright_no A c L d h0 w).mono ?_
  rintro e w1 ⟨rfl, h1⟩
  exact ⟨⟨false, rfl, by simp; exact fun h => h0 ⟨h.1, h.2.1⟩⟩, h1⟩
end Go.Proofs.YtegaaccioppfjaaGreatDoor
end
section
namespace Go.Proofs.YtegaaccioppfjaaGreatDoor
open BigFrame Go.RowKit Go.Phx Go.Shelf
attribute [local go_sem] Oper.semAt_some

theorem rright_ret (A : Option Addr) (c : Nat) (L : List Bytes) (d : Int) (hx : ∀ x ∈ L, x.length ≤ 9223372036854775807) (r : Bool) (hr : decide (RightP L d) = r) (w : World) (hs : Txts w A L) :
  Calls Tryz.prog 141 #[.slice A L.length c, .int .i64 d] w (Ret w (.bool r)) :=
 (rright_calls A c L d hx w hs).mono fun e w' ⟨⟨r', he, h'⟩, hB⟩ => ⟨by
  rw [he, ← hr]
  congr 2
  rw [Bool.eq_iff_iff, h', decide_eq_true_iff], hB⟩
theorem right_le {L : List Bytes} {d : Nat} (hR : RightP L d) : L.length ≤ 2 ^ d := by
 have h := hR.2.2.2.1
 rwa [Int.toNat_natCast] at h
set_option maxRecDepth 100000 in
set_option maxHeartbeats 4000000 in
theorem rroot_yes (A : Option Addr) (c : Nat) (L : List Bytes) (d : Nat) (hR : RightP L d) (w : World) (hs : Txts w A L) :
  Calls Tryz.prog 92 #[.slice A L.length c, .int .i64 d] w (Ret w (.tuple #[.string (bs (rootP L d)), .int .i64 0])) := by
 have hL : L.length ≤ 256 := hR.2.2.1
 have hd : d ≤ 10 := by have := hR.2.1; omega
 have hall := hR.2.2.2.2
 have hx : ∀ x ∈ L, x.length ≤ 9223372036854775807 := fun x h => by have := hall x h; omega
 have hle := right_le hR
 have hroot := Lib.hid (root_full L d hle)
 have hfl := fullL_len L d hle d (Nat.le_refl _)
 rw [Nat.sub_self, Nat.pow_zero] at hfl
 replace hle := Lib.hid hle
 go_enter Tryz.func92, Tryz.ntmps92
 go_wp2_with fail
 refine (rright_ret A c L d hx true (by simpa using hR) _ hs).mono ?_
 rintro e w1 ⟨rfl, hB1⟩
 have hs1 := Txts.below hs hB1
 replace hR := Lib.hid hR
 clear hs
 go_wp2_with fail
 refine (level_calls A c L d d hd hle.out (Nat.le_refl _) hall _ hs1).mono ?_
 rintro e w2 ⟨v, rfl, R, hB2⟩
 have hB := Below.on hB2 hB1
 generalize fullL L d d = F at *
 obtain ⟨g, cap, rfl, _, _⟩ := R.form1 (by intro h; rw [h] at hfl; simp at hfl)
 have c1 := LRow.at R 0 (by omega)
 rw [hroot.out] at c1
 have hi1 := fun W => index_txt g F.length cap 0 0 rfl (by omega) W
 rw [hfl] at hi1 ⊢
 replace hfl := Lib.hid hfl
 clear R hs1 hx hall hB2 hB1
 go_wp2_with fail
 go_ret2
 exact ⟨rfl, hB⟩
set_option maxRecDepth 100000 in
theorem rroot_no (A : Option Addr) (c : Nat) (L : List Bytes) (d : Int) (hR : ¬ RightP L d) (hx : ∀ x ∈ L, x.length ≤ 9223372036854775807) (w : World) (hs : Txts w A L) :
  Calls Tryz.prog 92 #[.slice A L.length c, .int .i64 d] w (Ret w (.tuple #[.string { data := #[] }, .int .i64 80])) := by
 go_enter Tryz.func92, Tryz.ntmps92
 go_wp2_with fail
 refine (rright_ret A c L d hx false (by simpa using hR) _ hs).mono ?_
 rintro e w1 ⟨rfl, hB1⟩
 clear hR hs hx
 go_wp2_with fail
 go_ret2
 exact ⟨rfl, hB1⟩
theorem zrroot_calls (A : Option Addr) (c : Nat) (L : List Bytes) (d : Int) (hx : ∀ x ∈ L, x.length ≤ 9223372036854775807) (w : World) (hs : Txts w A L) :
  Calls Tryz.prog 92 #[.slice A L.length c, .int .i64 d] w (Ret w (rootV L d)) := by
 by_cases hR : RightP L d
 ·have e : ((d.toNat : Nat) : Int) = d := Int.toNat_of_nonneg hR.1
  have := rroot_yes A c L d.toNat (by rw [e]; exact hR) w hs
  rw [e] at this
  unfold rootV
  rw [if_pos hR]
  exact this
 ·unfold rootV
  rw [if_neg hR]
  exact rroot_no A c L d hR hx w hs
end Go.Proofs.YtegaaccioppfjaaGreatDoor
end
section
namespace Go.Proofs.YtegaaccioppfjaaGreatDoor
open BigFrame Go.RowKit Go.Phx Go.Shelf
attribute [local go_sem] Oper.semAt_some

def num8 (n k : Nat) : Bytes := (List.range k).map (fun i => UInt8.ofNat (n / 2 ^ (8 * i)))
theorem num8_succ (n k : Nat) : num8 n (k + 1) = num8 n k ++ [UInt8.ofNat (n / 2 ^ (8 * k))] := by simp [num8, List.range_succ]
theorem num8_len (n k : Nat) : (num8 n k).length = k := by simp [num8]
theorem num8_at (n k : Nat) : (n : Int) / 2 ^ (8 * k) % 256 = ((UInt8.ofNat (n / 2 ^ (8 * k))).toNat : Int) := by
 have e2 : (n : Int) / 2 ^ (8 * k) = ((n / 2 ^ (8 * k) : Nat) : Int) := by simp
 rw [e2]
 simp
set_option maxRecDepth 100000 in
set_option maxHeartbeats 2000000 in
theorem rnumber_calls (n : Nat) (hn : n < 18446744073709551616) (w : World) : Calls Tryz.prog 91 #[.int .u64 n] w (Ret w (.string (bs (numP n)))) := by
 obtain ⟨i0, hi, hz0, hz1, hz2⟩ := info_parts infoU8
 go_enter Tryz.func91, Tryz.ntmps91
 go_wp2_with fail
 go_loopw [3, 4] (fun v i wr => ∃ k : Nat, k ≤ 8 ∧ i = .int .i64 k ∧ wr.ownsRow w.heap.size 5 1 v k ((num8 n k).map bv) ∧ Below w.heap.size w wr) (fun _ i _ => (8 - intOf i).toNat)
 case atStart => exact ⟨0, by omega, rfl, World.ownsRow_nil _ _ _ _, Below.refl _ _⟩
 case round =>
  obtain ⟨k, hk, rfl, OWN, HB⟩ := hrel
  by_cases hlt : k < 8
  ·have hat := Lib.hid (num8_at n k)
   have hsc := Lib.hid (num8_succ n k)
   generalize num8 n k = q at *
   have hbase := HB.size
   replace OWN := Lib.hid OWN
   go_wp2_with (at_builtin; refine wpList_append_own _ rfl _ _ 108 rfl w.heap.size 5 i0 (.int .u8 0) 1 1 Tryz.underlying108 hi hz0 hz1 hz2 rfl (by decide) _ _ _ rfl (OWN.out.alloc _) ⟨wr.heap.size, 0, none⟩ 1 1 [.int .u8 ((n : Int) / 2 ^ (8 * k) % 256)] rfl rfl (news1 _ _ _) (by simp [Value.oneCell']) (by unfold maxLen; omega) (by omega) (by simp; omega) ?_)
   intro v' w' hown hgrow _
   have hown3 := Lib.hid (show w'.ownsRow w.heap.size 5 1 v' (k + 1) ((num8 n (k + 1)).map bv) from by
    rw [hsc.out, List.map_append, List.map_singleton, show bv (UInt8.ofNat (n / 2 ^ (8 * k))) = .int .u8 ((UInt8.ofNat (n / 2 ^ (8 * k))).toNat : Int) from rfl, ← hat.out]
    exact hown)
   have HB3 := (HB.alloc HB.size _).grown hgrow (by have := HB.size; simp; omega) (fun j e => (OWN.out.lt _ e).1)
   clear hown hgrow OWN
   go_wp2_with fail
   go_roundw
   case rel => exact ⟨k + 1, by omega, by go_num, hown3.out, HB3⟩
   case measure => simp [intOf]; omega
  ·obtain rfl : k = 8 := by omega
   have hq8 := num8_len n 8
   have hend : num8 n 8 ++ List.replicate 24 0 = numP n := rfl
   generalize num8 n 8 = q at *
   rw [← hq8] at OWN
   obtain ⟨A, cap, rfl, hcv⟩ := conv_owned wr OWN
   have hcvW : ∀ W, Below wr.heap.size wr W → (convert 108 9 (.slice A q.length cap)).run Tryz.prog W = .ok (.string (bs q)) W := fun W hW => by
    have h2 : W.ownsRow w.heap.size 5 1 (.slice A q.length cap) q.length (q.map bv) := OWN.kept ⟨hW.os, hW.tape, hW.output, hW.size, fun j hj _ => hW.block j hj⟩ (row := none) (by cases (Value.slice A q.length cap).ownBlock with | none => exact .inl rfl | some g => exact .inr (by simp))
    obtain ⟨A', c', hv, h⟩ := conv_owned W h2
    injection hv with e1 e2 e3
    subst e1
    subst e3
    exact h
   rw [hq8] at hcv hcvW ⊢
   replace hcvW := Lib.hid hcvW
   have hcvd : (convert 108 9 (.slice A 8 cap)).run Tryz.prog wr.drew = .ok (.string (bs q)) wr.drew := hcvW.out _ (Below.refl _ _).drew
   clear OWN
   have HE := Lib.hid hend
   have H8 := Lib.hid hq8
   clear hend
   go_wp2_with fail
   go_region_with (go_at_call 140; refine (noughts_calls 24 (by omega) _).mono ?_; rintro e w1 ⟨rfl, h1⟩; have hB1 : Below wr.heap.size wr w1 := Below.on h1 bel; have hcv1 := hcvW.out _ hB1)
   all_goals
    go_wp2_with fail
    go_ret
    exact ⟨by rw [← HE.out]; rfl, HB.trans (hB1.mono HB.size)⟩
end Go.Proofs.YtegaaccioppfjaaGreatDoor
end
section
namespace Go.Proofs.YtegaaccioppfjaaGreatDoor
open BigFrame Go.RowKit Go.Phx Go.Shelf
attribute [local go_sem] Oper.semAt_some

theorem wayT_len : ∀ (r : List Bytes) (x : Bytes) (i : Nat), (wayT x r i).length = r.length
 | [], x, i => rfl
 | s :: r, x, i => by rw [wayT, List.length_cons, wayT_len, List.length_cons]
theorem wayP_le (N : Nat) (hN : 32 ≤ N) : ∀ (r : List Bytes) (x : Bytes) (i : Nat), x.length ≤ N → (wayP x r i).length ≤ N
 | [], x, i, h => h
 | s :: r, x, i, h => by
  unfold wayP
  exact wayP_le N hN r _ _ (by split <;> rw [sha_len] <;> exact hN)
theorem and_one (m : Nat) (h : m < 18446744073709551616) : bits .and .u64 (m : Int) 1 = ((m % 2 : Nat) : Int) := by
 have e : (BitVec.ofInt 64 (m : Int) &&& BitVec.ofInt 64 1).toNat = m % 2 := by
  rw [BitVec.toNat_and]
  have e1 : (BitVec.ofInt 64 (m : Int)).toNat = m := by simp; omega
  have e2 : (BitVec.ofInt 64 1).toNat = 1 := by decide
  rw [e1, e2, Nat.and_one_is_mod]
 show IntKind.u64.wrap ((BitVec.ofInt 64 (m : Int) &&& BitVec.ofInt 64 1).toNat : Int) = _
 rw [e]
 exact IntWalk.u64_in _ (by omega)
set_option maxRecDepth 100000 in
set_option maxHeartbeats 4000000 in
theorem rway_calls (x : Bytes) (A : Option Addr) (c : Nat) (L : List Bytes) (i : Nat) (hx : x.length ≤ 1048576) (hL : L.length ≤ 64) (hi : i < 18446744073709551616)
  (hall : ∀ y ∈ L, y.length ≤ 1048576) (w : World) (hs : Txts w A L) :
  Calls Tryz.prog 94 #[.string (bs x), .slice A L.length c, .int .u64 i] w (fun e w' => ∃ v, e = .returned (.tuple #[v, .string (bs (wayP x L i))]) ∧ LRow w.heap.size w' v (wayT x L i) ∧ Below w.heap.size w w') := by
 go_enter Tryz.func94, Tryz.ntmps94
 go_wp2_with fail
 go_loopw [8, 9, 10] (fun v q n wr => ∃ (u : Value) (k : Nat), u = v ∧ k ≤ L.length ∧ n = .int .i64 k ∧ q = .string (bs (wayP x (L.take k) i)) ∧ LRow w.heap.size wr u (wayT x (L.take k) i) ∧ Below w.heap.size w wr) (fun _ _ n _ => (L.length - intOf n).toNat)
 case atStart => exact ⟨_, 0, rfl, by omega, rfl, rfl, World.ownsRow_nil _ _ _ _, Below.refl _ _⟩
 case round =>
  obtain ⟨v, k, rfl, hk2, rfl, rfl, OWN, HB⟩ := hrel
  by_cases hlt : k < L.length
  ·have hw := Lib.hid (wayP_step L x i k hlt)
   have hT := Lib.hid (wayT_step L x i k hlt)
   have hql := wayP_le 1048576 (by decide) (L.take k) x i hx
   have hTl := wayT_len (L.take k) x i
   rw [List.length_take] at hTl
   obtain ⟨b, o, rfl, hb, hc⟩ := Txts.at (Txts.below hs HB) k hlt
   have hy := hall _ (getD_mem hlt)
   generalize L.getD k [] = y at *
   generalize wayP x (L.take k) i = q at *
   generalize wayT x (L.take k) i = t at *
   have hm : i / 2 ^ k < 18446744073709551616 := Nat.lt_of_le_of_lt (Nat.div_le_self _ _) hi
   have hstep : Phx.stepT y q i k = if i / 2 ^ k % 2 = 1 then y ++ q else q ++ y := rfl
   have hsh : (i : Int) / 2 ^ k = ((i / 2 ^ k : Nat) : Int) := by simp
   rw [hstep] at hw hT
   clear hstep
   generalize i / 2 ^ k = m at *
   have hand := and_one m hm
   have ht2 : t.length ≤ 64 := by omega
   clear hs hall hTl
   replace OWN := Lib.hid OWN
   have hb1 := HB.size
   replace HB := Lib.hid HB
   rcases Nat.mod_two_eq_zero_or_one m with hm2 | hm2
   ·rw [hm2] at hand
    rw [if_neg (by omega)] at hw hT
    clear hm2
    go_wp2_with (at_builtin; refine wpList_append_txt rfl _ _ rfl w.heap.size v t rfl (OWN.out.on _) (q ++ y) ⟨wr.heap.size, 0, none⟩ rfl (new_cell _ _ _) (by omega) (by simp; omega) ?_)
    intro v' w' hown hgrow _
    have OWN1 := Lib.hid hown
    have HB1 := below_app (HB.out.alloc HB.out.size _) (OWN.out.on _) hgrow
    clear hown hgrow OWN
    go_wp2_with fail
    refine (rsum_calls (q ++ y) (by rw [List.length_append]; omega) _).mono ?_
    rintro e w3 ⟨rfl, h3⟩
    have OWN3 := Lib.hid (LRow.below OWN1.out h3)
    have HB3 := Below.on h3 HB1
    clear OWN1 h3
    go_wp2_with fail
    go_roundw
    case rel => exact ⟨_, k + 1, rfl, by omega, by go_num, by rw [hw.out], by rw [hT.out]; exact OWN3.out, HB3⟩
    case measure => simp [intOf]; omega
   ·rw [hm2] at hand
    rw [if_pos hm2] at hw hT
    clear hm2
    go_wp2_with (at_builtin; refine wpList_append_txt rfl _ _ rfl w.heap.size v t rfl (OWN.out.on _) (y ++ q) ⟨wr.heap.size, 0, none⟩ rfl (new_cell _ _ _) (by omega) (by simp; omega) ?_)
    intro v' w' hown hgrow _
    have OWN1 := Lib.hid hown
    have HB1 := below_app (HB.out.alloc HB.out.size _) (OWN.out.on _) hgrow
    clear hown hgrow OWN
    go_wp2_with fail
    refine (rsum_calls (y ++ q) (by rw [List.length_append]; omega) _).mono ?_
    rintro e w3 ⟨rfl, h3⟩
    have OWN3 := Lib.hid (LRow.below OWN1.out h3)
    have HB3 := Below.on h3 HB1
    clear OWN1 h3
    go_wp2_with fail
    go_roundw
    case rel => exact ⟨_, k + 1, rfl, by omega, by go_num, by rw [hw.out], by rw [hT.out]; exact OWN3.out, HB3⟩
    case measure => simp [intOf]; omega
  ·obtain rfl : k = L.length := by omega
   rw [List.take_of_length_le (Nat.le_refl _)] at OWN ⊢
   replace OWN := Lib.hid OWN
   replace HB := Lib.hid HB
   clear hs hall
   go_wp2_with fail
   go_ret2
   exact ⟨_, rfl, OWN.out, HB.out⟩
set_option maxRecDepth 100000 in
set_option maxHeartbeats 4000000 in
theorem rcheck_loop (x : Bytes) (A : Option Addr) (c : Nat) (L : List Bytes) (i : Nat) (root : Bytes) (hx : x.length = 32) (hr : root.length = 32) (hL : L.length ≤ 64) (hi : i < 18446744073709551616) (hib : i < 2 ^ L.length)
  (hall : ∀ y ∈ L, y.length ≤ 1048576) (w : World) (hs : Txts w A L) :
  Calls Tryz.prog 37 #[.string (bs x), .slice A L.length c, .int .u64 i, .string (bs root)] w (Ret w (.bool (decide (CheckP x L i root)))) := by
 have hway := Lib.hid (rway_calls x A c L i (by omega) hL hi hall w hs)
 have e1 : ((x.length : Int) != 32) = false := by simp; omega
 have e2 : ((root.length : Int) != 32) = false := by simp; omega
 have e3 : decide ((64 : Int) < (L.length : Int)) = false := decide_eq_false (by omega)
 have hi0 := Nat.div_eq_of_lt hib
 have hi3 : (i : Int) / 2 ^ L.length = 0 := by
  have : ((i / 2 ^ L.length : Nat) : Int) = 0 := by rw [hi0]; rfl
  simpa using this
 clear hi0
 replace hib := Lib.hid hib
 by_cases h64 : L.length < 64
 ·have e4 : decide ((L.length : Int) < 64) = true := decide_eq_true (by omega)
  go_enter Tryz.func37, Tryz.ntmps37
  go_wp2_with fail
  clear hi3 e4
  clear e1 e2 e3
  go_loopw [9] (fun n wr => ∃ k : Nat, k ≤ L.length ∧ n = .int .i64 k ∧ (∀ y ∈ L.take k, y.length = 32) ∧ wr = w) (fun n _ => (L.length - intOf n).toNat)
  case atStart => exact ⟨0, by omega, rfl, by simp, rfl⟩
  case round =>
   obtain ⟨k, hk2, rfl, h32, rfl⟩ := hrel
   by_cases hlt : k < L.length
   ·obtain ⟨b, o, rfl, hb, hc⟩ := Txts.at hs k hlt
    have htake := Lib.hid (take_step L [] k hlt)
    have hy := hall _ (getD_mem hlt)
    have hmem := Lib.hid (getD_mem hlt)
    generalize L.getD k [] = y at *
    replace h32 := Lib.hid h32
    clear hs hall hway
    by_cases hy32 : y.length = 32
    ·have hy33 : ((y.length : Int) != 32) = false := by simp; omega
     have hnext : ∀ z ∈ L.take (k + 1), z.length = 32 := by
      rw [htake.out]
      intro z hz
      rcases List.mem_append.1 hz with h | h
      ·exact h32.out z h
      ·rw [List.mem_singleton.1 h]; exact hy32
     replace hnext := Lib.hid hnext
     go_wp2_with fail
     go_roundw
     case rel => exact ⟨k + 1, by omega, by go_num, hnext.out, by first | rfl | trivial⟩
     case measure => simp [intOf]; omega
    ·have hy33 : ((y.length : Int) != 32) = true := by simp; omega
     have hno : decide (CheckP x L i root) = false := decide_eq_false fun h => hy32 (h.2.2.2.2.1 y hmem.out)
     replace hno := Lib.hid hno
     go_wp2_with fail
     go_ret
     exact ⟨by rw [hno.out]; rfl, Below.refl _ _⟩
   ·obtain rfl : k = L.length := by omega
    rw [List.take_of_length_le (Nat.le_refl _)] at h32
    have hq : (decide (CheckP x L i root)) = decide (wayP x L i = root) := by
     rw [decide_eq_decide]
     exact ⟨fun h => h.2.2.2.2.2, fun h => ⟨hL, hx, hr, hib.out, h32, h⟩⟩
    replace hq := Lib.hid hq
    clear h32 hs hall
    go_wp2_with fail
    refine hway.out.mono ?_
    rintro e w2 ⟨v, rfl, _, h2⟩
    generalize wayP x L i = q at *
    by_cases hqr : q = root
    ·subst hqr
     go_wp2_with fail
     go_ret
     exact ⟨by rw [hq.out]; simp, h2⟩
    ·have hne : (q == root) = false := by simpa using hqr
     go_wp2_with fail
     go_ret
     exact ⟨by rw [hq.out]; simp [hqr], h2⟩
 ·have e4 : decide ((L.length : Int) < 64) = false := decide_eq_false (by omega)
  clear hi3
  go_enter Tryz.func37, Tryz.ntmps37
  go_wp2_with fail
  clear e4
  clear e1 e2 e3
  go_loopw [9] (fun n wr => ∃ k : Nat, k ≤ L.length ∧ n = .int .i64 k ∧ (∀ y ∈ L.take k, y.length = 32) ∧ wr = w) (fun n _ => (L.length - intOf n).toNat)
  case atStart => exact ⟨0, by omega, rfl, by simp, rfl⟩
  case round =>
   obtain ⟨k, hk2, rfl, h32, rfl⟩ := hrel
   by_cases hlt : k < L.length
   ·obtain ⟨b, o, rfl, hb, hc⟩ := Txts.at hs k hlt
    have htake := Lib.hid (take_step L [] k hlt)
    have hy := hall _ (getD_mem hlt)
    have hmem := Lib.hid (getD_mem hlt)
    generalize L.getD k [] = y at *
    replace h32 := Lib.hid h32
    clear hs hall hway
    by_cases hy32 : y.length = 32
    ·have hy33 : ((y.length : Int) != 32) = false := by simp; omega
     have hnext : ∀ z ∈ L.take (k + 1), z.length = 32 := by
      rw [htake.out]
      intro z hz
      rcases List.mem_append.1 hz with h | h
      ·exact h32.out z h
      ·rw [List.mem_singleton.1 h]; exact hy32
     replace hnext := Lib.hid hnext
     go_wp2_with fail
     go_roundw
     case rel => exact ⟨k + 1, by omega, by go_num, hnext.out, by first | rfl | trivial⟩
     case measure => simp [intOf]; omega
    ·have hy33 : ((y.length : Int) != 32) = true := by simp; omega
     have hno : decide (CheckP x L i root) = false := decide_eq_false fun h => hy32 (h.2.2.2.2.1 y hmem.out)
     replace hno := Lib.hid hno
     go_wp2_with fail
     go_ret
     exact ⟨by rw [hno.out]; rfl, Below.refl _ _⟩
   ·obtain rfl : k = L.length := by omega
    rw [List.take_of_length_le (Nat.le_refl _)] at h32
    have hq : (decide (CheckP x L i root)) = decide (wayP x L i = root) := by
     rw [decide_eq_decide]
     exact ⟨fun h => h.2.2.2.2.2, fun h => ⟨hL, hx, hr, hib.out, h32, h⟩⟩
    replace hq := Lib.hid hq
    clear h32 hs hall
    go_wp2_with fail
    refine hway.out.mono ?_
    rintro e w2 ⟨v, rfl, _, h2⟩
    generalize wayP x L i = q at *
    by_cases hqr : q = root
    ·subst hqr
     go_wp2_with fail
     go_ret
     exact ⟨by rw [hq.out]; simp, h2⟩
    ·have hne : (q == root) = false := by simpa using hqr
     go_wp2_with fail
     go_ret
     exact ⟨by rw [hq.out]; simp [hqr], h2⟩
set_option maxRecDepth 100000 in
set_option maxHeartbeats 4000000 in
theorem rcheck_no (x : Bytes) (A : Option Addr) (c : Nat) (L : List Bytes) (i : Nat) (root : Bytes) (hx : x.length ≤ 1000000000) (hr : root.length ≤ 1000000000) (hL : L.length ≤ 1000000000) (hi : i < 18446744073709551616)
  (hn : x.length ≠ 32 ∨ root.length ≠ 32 ∨ 64 < L.length ∨ x.length = 32 ∧ root.length = 32 ∧ L.length < 64 ∧ i / 2 ^ L.length ≠ 0) (w : World) :
  Calls Tryz.prog 37 #[.string (bs x), .slice A L.length c, .int .u64 i, .string (bs root)] w (Ret w (.bool false)) := by
 by_cases h2 : x.length = 32
 ·have e1 : ((x.length : Int) != 32) = false := by simp; omega
  by_cases h3 : root.length = 32
  ·have e2 : ((root.length : Int) != 32) = false := by simp; omega
   by_cases h1 : 64 < L.length
   ·have e3 : decide ((64 : Int) < (L.length : Int)) = true := decide_eq_true (by omega)
    clear hn
    go_enter Tryz.func37, Tryz.ntmps37
    go_wp2_with fail
    go_ret
    exact ⟨rfl, Below.refl _ _⟩
   ·have e3 : decide ((64 : Int) < (L.length : Int)) = false := decide_eq_false (by omega)
    have h4 : L.length < 64 ∧ i / 2 ^ L.length ≠ 0 := by omega
    have e4 : decide ((L.length : Int) < 64) = true := decide_eq_true (by omega)
    have e5 : ((i : Int) / 2 ^ L.length != 0) = true := by
     have h : ((i / 2 ^ L.length : Nat) : Int) ≠ 0 := fun h => h4.2 (Int.ofNat_eq_zero.1 h)
     simpa using h
    have e6 : L.length < 64 := h4.1
    clear hn h4
    go_enter Tryz.func37, Tryz.ntmps37
    go_wp2_with fail
    go_ret
    exact ⟨rfl, Below.refl _ _⟩
  ·have e2 : ((root.length : Int) != 32) = true := by simp; omega
   clear hn
   go_enter Tryz.func37, Tryz.ntmps37
   go_wp2_with fail
   go_ret
   exact ⟨rfl, Below.refl _ _⟩
 ·have e1 : ((x.length : Int) != 32) = true := by simp; omega
  clear hn
  go_enter Tryz.func37, Tryz.ntmps37
  go_wp2_with fail
  go_ret
  exact ⟨rfl, Below.refl _ _⟩
theorem rcheck_calls (x : Bytes) (A : Option Addr) (c : Nat) (L : List Bytes) (i : Nat) (root : Bytes) (hx : x.length ≤ 1000000000) (hr : root.length ≤ 1000000000) (hL : L.length ≤ 1000000000) (hi : i < 18446744073709551616)
  (hall : ∀ y ∈ L, y.length ≤ 1048576) (w : World) (hs : Txts w A L) :
  Calls Tryz.prog 37 #[.string (bs x), .slice A L.length c, .int .u64 i, .string (bs root)] w (Ret w (.bool (decide (CheckP x L i root)))) := by
 by_cases h : L.length ≤ 64 ∧ x.length = 32 ∧ root.length = 32 ∧ i < 2 ^ L.length
 ·exact rcheck_loop x A c L i root h.2.1 h.2.2.1 h.1 hi h.2.2.2 hall w hs
 ·have e : decide (CheckP x L i root) = false := decide_eq_false fun hc => h ⟨hc.1, hc.2.1, hc.2.2.1, hc.2.2.2.1⟩
  rw [e]
  refine rcheck_no x A c L i root hx hr hL hi ?_ w
  by_cases h2 : x.length = 32
  ·by_cases h3 : root.length = 32
   ·by_cases h1 : 64 < L.length
    ·exact .inr (.inr (.inl h1))
    ·have hib : ¬ i < 2 ^ L.length := fun h4 => h ⟨by omega, h2, h3, h4⟩
     have h64 : L.length < 64 := by
      rcases Nat.lt_or_ge L.length 64 with h5 | h5
      ·exact h5
      ·have : L.length = 64 := by omega
       rw [this] at hib
       exact absurd hi hib
     exact .inr (.inr (.inr ⟨h2, h3, h64, fun h5 => hib ((Nat.div_eq_zero_iff_lt (Nat.two_pow_pos _)).1 h5)⟩))
   ·exact .inr (.inl h3)
  ·exact .inl h2
end Go.Proofs.YtegaaccioppfjaaGreatDoor
end
