/- A root with a length; what is asked of a branch: the small rest by the reference. -/
import Derived.Test.YtpmmjomejackkaaDoorSszF
set_option linter.unusedSimpArgs false
set_option linter.unusedVariables false
namespace Go.Proofs.YtpmmjomejackkaaDoor
open BigFrame Go.RowKit Go.Phx Go.Shelf
attribute [local go_sem] Oper.semAt_some

set_option maxRecDepth 100000 in
/-- the reference's: are chunks ones of a tree of a depth? at a depth that is none -/
theorem rright_no (A : Option Addr) (c : Nat) (L : List Bytes) (d : Int) (hd : ¬ (0 ≤ d ∧ d ≤ 10)) (w : World) :
    Calls Tryd.prog 71 #[.slice A L.length c, .int .i64 d] w (Ret w (.bool false)) := by
  by_cases h0 : d < 0
  · go_enter Tryd.func71, Tryd.ntmps71
    go_wp2_with fail
    go_ret
    exact ⟨rfl, Below.refl _ _⟩
  · have h1 : 10 < d := by omega
    go_enter Tryd.func71, Tryd.ntmps71
    go_wp2_with fail
    go_ret
    exact ⟨rfl, Below.refl _ _⟩
set_option maxRecDepth 100000 in
theorem rright_at0 (A : Option Addr) (c : Nat) (L : List Bytes) (hx : ∀ x ∈ L, x.length ≤ 9223372036854775807) (w : World) (hs : Txts w A L) :
    Calls Tryd.prog 71 #[.slice A L.length c, .int .i64 0] w (fun e w' => (∃ r : Bool, e = .returned (.bool r) ∧ (r = true ↔ RightP L 0)) ∧ Below w.heap.size w w') := by
  by_cases hl : L.length ≤ 1
  · have hl1 : (L.length : Int) ≤ 1 := by omega
    have hl2 : (L.length : Int) ≤ 256 := by omega
    have hl3 : ¬ (1 < L.length) := by omega
    have hl4 : ¬ (256 < L.length) := by omega
    have hR := Lib.hid (show RightP L 0 ↔ ∀ x ∈ L, x.length = 32 from ⟨fun h => h.2.2.2.2, fun h => ⟨by omega, by omega, by omega, by show L.length ≤ 1; omega, h⟩⟩)
    go_enter Tryd.func71, Tryd.ntmps71
    go_wp2_with fail
    go_loopw [5] (fun i wr => ∃ k : Nat, k ≤ L.length ∧ i = .int .i64 k ∧ (∀ x ∈ L.take k, x.length = 32) ∧ Below w.heap.size w wr) (fun i _ => (L.length - intOf i).toNat)
    case atStart => exact ⟨0, by omega, rfl, by simp, Below.refl _ _⟩
    case round =>
      obtain ⟨k, hk, rfl, hall, HB⟩ := hrel
      by_cases hlt : k < L.length
      · obtain ⟨b, o, rfl, hb, hc⟩ := Txts.at (Strs.below hs HB : Txts wr A L) k hlt
        have hxk := hx _ (List.getElem_mem hlt)
        have e1 : L.getD k [] = L[k] := by rw [List.getD, List.getElem?_eq_getElem hlt]; rfl
        have hm := List.getElem_mem hlt
        have ht : L.take (k + 1) = L.take k ++ [L[k]] := by rw [List.take_add_one, List.getElem?_eq_getElem hlt]; rfl
        rw [e1] at hc
        generalize L[k] = x at *
        have HT := Lib.hid ht
        have HA := Lib.hid hall
        clear ht hall e1 hx hs
        by_cases h32 : x.length = 32
        · have h32i : (x.length : Int) = 32 := by omega
          have h33 : ((x.length : Int) != 32) = false := by simp; omega
          go_wp2_with fail
          go_roundw
          case rel => exact ⟨k + 1, by omega, by go_num, by rw [HT.out]; intro y hy; rcases List.mem_append.1 hy with hy | hy; exact HA.out y hy; rw [List.mem_singleton.1 hy]; exact h32, HB⟩
          case measure => simp [intOf]; omega
        · have h33 : ((x.length : Int) != 32) = true := by simp; omega
          have hN := Lib.hid (show ¬ RightP L 0 from fun h => h32 (hR.out.1 h x hm))
          go_wp2_with fail
          go_ret
          first | exact ⟨.inl ⟨rfl, hN.out⟩, HB⟩ | exact ⟨⟨false, rfl, by simp [hN.out]⟩, HB⟩
      · obtain rfl : k = L.length := by omega
        rw [List.take_of_length_le (Nat.le_refl _)] at hall
        have hY := Lib.hid (hR.out.2 hall)
        clear hall hx hs
        go_wp2_with fail
        go_ret
        first | exact ⟨.inr ⟨rfl, hY.out⟩, HB⟩ | exact ⟨⟨true, rfl, by simp [hY.out]⟩, HB⟩
  · have hR := Lib.hid (show ¬ RightP L 0 from fun h => by have h1 := h.2.2.1; have h2 : L.length ≤ 1 := h.2.2.2.1; omega)
    by_cases hp : 1 < L.length
    · go_enter Tryd.func71, Tryd.ntmps71
      go_wp2_with fail
      go_ret
      first | exact ⟨.inl ⟨rfl, hR.out⟩, Below.refl _ _⟩ | exact ⟨⟨false, rfl, by simp [hR.out]⟩, Below.refl _ _⟩
    · exact absurd (by omega) hl
set_option maxRecDepth 100000 in
theorem rright_at1 (A : Option Addr) (c : Nat) (L : List Bytes) (hx : ∀ x ∈ L, x.length ≤ 9223372036854775807) (w : World) (hs : Txts w A L) :
    Calls Tryd.prog 71 #[.slice A L.length c, .int .i64 1] w (fun e w' => (∃ r : Bool, e = .returned (.bool r) ∧ (r = true ↔ RightP L 1)) ∧ Below w.heap.size w w') := by
  by_cases hl : L.length ≤ 2
  · have hl1 : (L.length : Int) ≤ 2 := by omega
    have hl2 : (L.length : Int) ≤ 256 := by omega
    have hl3 : ¬ (2 < L.length) := by omega
    have hl4 : ¬ (256 < L.length) := by omega
    have hR := Lib.hid (show RightP L 1 ↔ ∀ x ∈ L, x.length = 32 from ⟨fun h => h.2.2.2.2, fun h => ⟨by omega, by omega, by omega, by show L.length ≤ 2; omega, h⟩⟩)
    go_enter Tryd.func71, Tryd.ntmps71
    go_wp2_with fail
    go_loopw [5] (fun i wr => ∃ k : Nat, k ≤ L.length ∧ i = .int .i64 k ∧ (∀ x ∈ L.take k, x.length = 32) ∧ Below w.heap.size w wr) (fun i _ => (L.length - intOf i).toNat)
    case atStart => exact ⟨0, by omega, rfl, by simp, Below.refl _ _⟩
    case round =>
      obtain ⟨k, hk, rfl, hall, HB⟩ := hrel
      by_cases hlt : k < L.length
      · obtain ⟨b, o, rfl, hb, hc⟩ := Txts.at (Strs.below hs HB : Txts wr A L) k hlt
        have hxk := hx _ (List.getElem_mem hlt)
        have e1 : L.getD k [] = L[k] := by rw [List.getD, List.getElem?_eq_getElem hlt]; rfl
        have hm := List.getElem_mem hlt
        have ht : L.take (k + 1) = L.take k ++ [L[k]] := by rw [List.take_add_one, List.getElem?_eq_getElem hlt]; rfl
        rw [e1] at hc
        generalize L[k] = x at *
        have HT := Lib.hid ht
        have HA := Lib.hid hall
        clear ht hall e1 hx hs
        by_cases h32 : x.length = 32
        · have h32i : (x.length : Int) = 32 := by omega
          have h33 : ((x.length : Int) != 32) = false := by simp; omega
          go_wp2_with fail
          go_roundw
          case rel => exact ⟨k + 1, by omega, by go_num, by rw [HT.out]; intro y hy; rcases List.mem_append.1 hy with hy | hy; exact HA.out y hy; rw [List.mem_singleton.1 hy]; exact h32, HB⟩
          case measure => simp [intOf]; omega
        · have h33 : ((x.length : Int) != 32) = true := by simp; omega
          have hN := Lib.hid (show ¬ RightP L 1 from fun h => h32 (hR.out.1 h x hm))
          go_wp2_with fail
          go_ret
          first | exact ⟨.inl ⟨rfl, hN.out⟩, HB⟩ | exact ⟨⟨false, rfl, by simp [hN.out]⟩, HB⟩
      · obtain rfl : k = L.length := by omega
        rw [List.take_of_length_le (Nat.le_refl _)] at hall
        have hY := Lib.hid (hR.out.2 hall)
        clear hall hx hs
        go_wp2_with fail
        go_ret
        first | exact ⟨.inr ⟨rfl, hY.out⟩, HB⟩ | exact ⟨⟨true, rfl, by simp [hY.out]⟩, HB⟩
  · have hR := Lib.hid (show ¬ RightP L 1 from fun h => by have h1 := h.2.2.1; have h2 : L.length ≤ 2 := h.2.2.2.1; omega)
    by_cases hp : 2 < L.length
    · go_enter Tryd.func71, Tryd.ntmps71
      go_wp2_with fail
      go_ret
      first | exact ⟨.inl ⟨rfl, hR.out⟩, Below.refl _ _⟩ | exact ⟨⟨false, rfl, by simp [hR.out]⟩, Below.refl _ _⟩
    · exact absurd (by omega) hl
set_option maxRecDepth 100000 in
theorem rright_at2 (A : Option Addr) (c : Nat) (L : List Bytes) (hx : ∀ x ∈ L, x.length ≤ 9223372036854775807) (w : World) (hs : Txts w A L) :
    Calls Tryd.prog 71 #[.slice A L.length c, .int .i64 2] w (fun e w' => (∃ r : Bool, e = .returned (.bool r) ∧ (r = true ↔ RightP L 2)) ∧ Below w.heap.size w w') := by
  by_cases hl : L.length ≤ 4
  · have hl1 : (L.length : Int) ≤ 4 := by omega
    have hl2 : (L.length : Int) ≤ 256 := by omega
    have hl3 : ¬ (4 < L.length) := by omega
    have hl4 : ¬ (256 < L.length) := by omega
    have hR := Lib.hid (show RightP L 2 ↔ ∀ x ∈ L, x.length = 32 from ⟨fun h => h.2.2.2.2, fun h => ⟨by omega, by omega, by omega, by show L.length ≤ 4; omega, h⟩⟩)
    go_enter Tryd.func71, Tryd.ntmps71
    go_wp2_with fail
    go_loopw [5] (fun i wr => ∃ k : Nat, k ≤ L.length ∧ i = .int .i64 k ∧ (∀ x ∈ L.take k, x.length = 32) ∧ Below w.heap.size w wr) (fun i _ => (L.length - intOf i).toNat)
    case atStart => exact ⟨0, by omega, rfl, by simp, Below.refl _ _⟩
    case round =>
      obtain ⟨k, hk, rfl, hall, HB⟩ := hrel
      by_cases hlt : k < L.length
      · obtain ⟨b, o, rfl, hb, hc⟩ := Txts.at (Strs.below hs HB : Txts wr A L) k hlt
        have hxk := hx _ (List.getElem_mem hlt)
        have e1 : L.getD k [] = L[k] := by rw [List.getD, List.getElem?_eq_getElem hlt]; rfl
        have hm := List.getElem_mem hlt
        have ht : L.take (k + 1) = L.take k ++ [L[k]] := by rw [List.take_add_one, List.getElem?_eq_getElem hlt]; rfl
        rw [e1] at hc
        generalize L[k] = x at *
        have HT := Lib.hid ht
        have HA := Lib.hid hall
        clear ht hall e1 hx hs
        by_cases h32 : x.length = 32
        · have h32i : (x.length : Int) = 32 := by omega
          have h33 : ((x.length : Int) != 32) = false := by simp; omega
          go_wp2_with fail
          go_roundw
          case rel => exact ⟨k + 1, by omega, by go_num, by rw [HT.out]; intro y hy; rcases List.mem_append.1 hy with hy | hy; exact HA.out y hy; rw [List.mem_singleton.1 hy]; exact h32, HB⟩
          case measure => simp [intOf]; omega
        · have h33 : ((x.length : Int) != 32) = true := by simp; omega
          have hN := Lib.hid (show ¬ RightP L 2 from fun h => h32 (hR.out.1 h x hm))
          go_wp2_with fail
          go_ret
          first | exact ⟨.inl ⟨rfl, hN.out⟩, HB⟩ | exact ⟨⟨false, rfl, by simp [hN.out]⟩, HB⟩
      · obtain rfl : k = L.length := by omega
        rw [List.take_of_length_le (Nat.le_refl _)] at hall
        have hY := Lib.hid (hR.out.2 hall)
        clear hall hx hs
        go_wp2_with fail
        go_ret
        first | exact ⟨.inr ⟨rfl, hY.out⟩, HB⟩ | exact ⟨⟨true, rfl, by simp [hY.out]⟩, HB⟩
  · have hR := Lib.hid (show ¬ RightP L 2 from fun h => by have h1 := h.2.2.1; have h2 : L.length ≤ 4 := h.2.2.2.1; omega)
    by_cases hp : 4 < L.length
    · go_enter Tryd.func71, Tryd.ntmps71
      go_wp2_with fail
      go_ret
      first | exact ⟨.inl ⟨rfl, hR.out⟩, Below.refl _ _⟩ | exact ⟨⟨false, rfl, by simp [hR.out]⟩, Below.refl _ _⟩
    · exact absurd (by omega) hl
set_option maxRecDepth 100000 in
theorem rright_at3 (A : Option Addr) (c : Nat) (L : List Bytes) (hx : ∀ x ∈ L, x.length ≤ 9223372036854775807) (w : World) (hs : Txts w A L) :
    Calls Tryd.prog 71 #[.slice A L.length c, .int .i64 3] w (fun e w' => (∃ r : Bool, e = .returned (.bool r) ∧ (r = true ↔ RightP L 3)) ∧ Below w.heap.size w w') := by
  by_cases hl : L.length ≤ 8
  · have hl1 : (L.length : Int) ≤ 8 := by omega
    have hl2 : (L.length : Int) ≤ 256 := by omega
    have hl3 : ¬ (8 < L.length) := by omega
    have hl4 : ¬ (256 < L.length) := by omega
    have hR := Lib.hid (show RightP L 3 ↔ ∀ x ∈ L, x.length = 32 from ⟨fun h => h.2.2.2.2, fun h => ⟨by omega, by omega, by omega, by show L.length ≤ 8; omega, h⟩⟩)
    go_enter Tryd.func71, Tryd.ntmps71
    go_wp2_with fail
    go_loopw [5] (fun i wr => ∃ k : Nat, k ≤ L.length ∧ i = .int .i64 k ∧ (∀ x ∈ L.take k, x.length = 32) ∧ Below w.heap.size w wr) (fun i _ => (L.length - intOf i).toNat)
    case atStart => exact ⟨0, by omega, rfl, by simp, Below.refl _ _⟩
    case round =>
      obtain ⟨k, hk, rfl, hall, HB⟩ := hrel
      by_cases hlt : k < L.length
      · obtain ⟨b, o, rfl, hb, hc⟩ := Txts.at (Strs.below hs HB : Txts wr A L) k hlt
        have hxk := hx _ (List.getElem_mem hlt)
        have e1 : L.getD k [] = L[k] := by rw [List.getD, List.getElem?_eq_getElem hlt]; rfl
        have hm := List.getElem_mem hlt
        have ht : L.take (k + 1) = L.take k ++ [L[k]] := by rw [List.take_add_one, List.getElem?_eq_getElem hlt]; rfl
        rw [e1] at hc
        generalize L[k] = x at *
        have HT := Lib.hid ht
        have HA := Lib.hid hall
        clear ht hall e1 hx hs
        by_cases h32 : x.length = 32
        · have h32i : (x.length : Int) = 32 := by omega
          have h33 : ((x.length : Int) != 32) = false := by simp; omega
          go_wp2_with fail
          go_roundw
          case rel => exact ⟨k + 1, by omega, by go_num, by rw [HT.out]; intro y hy; rcases List.mem_append.1 hy with hy | hy; exact HA.out y hy; rw [List.mem_singleton.1 hy]; exact h32, HB⟩
          case measure => simp [intOf]; omega
        · have h33 : ((x.length : Int) != 32) = true := by simp; omega
          have hN := Lib.hid (show ¬ RightP L 3 from fun h => h32 (hR.out.1 h x hm))
          go_wp2_with fail
          go_ret
          first | exact ⟨.inl ⟨rfl, hN.out⟩, HB⟩ | exact ⟨⟨false, rfl, by simp [hN.out]⟩, HB⟩
      · obtain rfl : k = L.length := by omega
        rw [List.take_of_length_le (Nat.le_refl _)] at hall
        have hY := Lib.hid (hR.out.2 hall)
        clear hall hx hs
        go_wp2_with fail
        go_ret
        first | exact ⟨.inr ⟨rfl, hY.out⟩, HB⟩ | exact ⟨⟨true, rfl, by simp [hY.out]⟩, HB⟩
  · have hR := Lib.hid (show ¬ RightP L 3 from fun h => by have h1 := h.2.2.1; have h2 : L.length ≤ 8 := h.2.2.2.1; omega)
    by_cases hp : 8 < L.length
    · go_enter Tryd.func71, Tryd.ntmps71
      go_wp2_with fail
      go_ret
      first | exact ⟨.inl ⟨rfl, hR.out⟩, Below.refl _ _⟩ | exact ⟨⟨false, rfl, by simp [hR.out]⟩, Below.refl _ _⟩
    · exact absurd (by omega) hl
set_option maxRecDepth 100000 in
theorem rright_at4 (A : Option Addr) (c : Nat) (L : List Bytes) (hx : ∀ x ∈ L, x.length ≤ 9223372036854775807) (w : World) (hs : Txts w A L) :
    Calls Tryd.prog 71 #[.slice A L.length c, .int .i64 4] w (fun e w' => (∃ r : Bool, e = .returned (.bool r) ∧ (r = true ↔ RightP L 4)) ∧ Below w.heap.size w w') := by
  by_cases hl : L.length ≤ 16
  · have hl1 : (L.length : Int) ≤ 16 := by omega
    have hl2 : (L.length : Int) ≤ 256 := by omega
    have hl3 : ¬ (16 < L.length) := by omega
    have hl4 : ¬ (256 < L.length) := by omega
    have hR := Lib.hid (show RightP L 4 ↔ ∀ x ∈ L, x.length = 32 from ⟨fun h => h.2.2.2.2, fun h => ⟨by omega, by omega, by omega, by show L.length ≤ 16; omega, h⟩⟩)
    go_enter Tryd.func71, Tryd.ntmps71
    go_wp2_with fail
    go_loopw [5] (fun i wr => ∃ k : Nat, k ≤ L.length ∧ i = .int .i64 k ∧ (∀ x ∈ L.take k, x.length = 32) ∧ Below w.heap.size w wr) (fun i _ => (L.length - intOf i).toNat)
    case atStart => exact ⟨0, by omega, rfl, by simp, Below.refl _ _⟩
    case round =>
      obtain ⟨k, hk, rfl, hall, HB⟩ := hrel
      by_cases hlt : k < L.length
      · obtain ⟨b, o, rfl, hb, hc⟩ := Txts.at (Strs.below hs HB : Txts wr A L) k hlt
        have hxk := hx _ (List.getElem_mem hlt)
        have e1 : L.getD k [] = L[k] := by rw [List.getD, List.getElem?_eq_getElem hlt]; rfl
        have hm := List.getElem_mem hlt
        have ht : L.take (k + 1) = L.take k ++ [L[k]] := by rw [List.take_add_one, List.getElem?_eq_getElem hlt]; rfl
        rw [e1] at hc
        generalize L[k] = x at *
        have HT := Lib.hid ht
        have HA := Lib.hid hall
        clear ht hall e1 hx hs
        by_cases h32 : x.length = 32
        · have h32i : (x.length : Int) = 32 := by omega
          have h33 : ((x.length : Int) != 32) = false := by simp; omega
          go_wp2_with fail
          go_roundw
          case rel => exact ⟨k + 1, by omega, by go_num, by rw [HT.out]; intro y hy; rcases List.mem_append.1 hy with hy | hy; exact HA.out y hy; rw [List.mem_singleton.1 hy]; exact h32, HB⟩
          case measure => simp [intOf]; omega
        · have h33 : ((x.length : Int) != 32) = true := by simp; omega
          have hN := Lib.hid (show ¬ RightP L 4 from fun h => h32 (hR.out.1 h x hm))
          go_wp2_with fail
          go_ret
          first | exact ⟨.inl ⟨rfl, hN.out⟩, HB⟩ | exact ⟨⟨false, rfl, by simp [hN.out]⟩, HB⟩
      · obtain rfl : k = L.length := by omega
        rw [List.take_of_length_le (Nat.le_refl _)] at hall
        have hY := Lib.hid (hR.out.2 hall)
        clear hall hx hs
        go_wp2_with fail
        go_ret
        first | exact ⟨.inr ⟨rfl, hY.out⟩, HB⟩ | exact ⟨⟨true, rfl, by simp [hY.out]⟩, HB⟩
  · have hR := Lib.hid (show ¬ RightP L 4 from fun h => by have h1 := h.2.2.1; have h2 : L.length ≤ 16 := h.2.2.2.1; omega)
    by_cases hp : 16 < L.length
    · go_enter Tryd.func71, Tryd.ntmps71
      go_wp2_with fail
      go_ret
      first | exact ⟨.inl ⟨rfl, hR.out⟩, Below.refl _ _⟩ | exact ⟨⟨false, rfl, by simp [hR.out]⟩, Below.refl _ _⟩
    · exact absurd (by omega) hl
set_option maxRecDepth 100000 in
theorem rright_at5 (A : Option Addr) (c : Nat) (L : List Bytes) (hx : ∀ x ∈ L, x.length ≤ 9223372036854775807) (w : World) (hs : Txts w A L) :
    Calls Tryd.prog 71 #[.slice A L.length c, .int .i64 5] w (fun e w' => (∃ r : Bool, e = .returned (.bool r) ∧ (r = true ↔ RightP L 5)) ∧ Below w.heap.size w w') := by
  by_cases hl : L.length ≤ 32
  · have hl1 : (L.length : Int) ≤ 32 := by omega
    have hl2 : (L.length : Int) ≤ 256 := by omega
    have hl3 : ¬ (32 < L.length) := by omega
    have hl4 : ¬ (256 < L.length) := by omega
    have hR := Lib.hid (show RightP L 5 ↔ ∀ x ∈ L, x.length = 32 from ⟨fun h => h.2.2.2.2, fun h => ⟨by omega, by omega, by omega, by show L.length ≤ 32; omega, h⟩⟩)
    go_enter Tryd.func71, Tryd.ntmps71
    go_wp2_with fail
    go_loopw [5] (fun i wr => ∃ k : Nat, k ≤ L.length ∧ i = .int .i64 k ∧ (∀ x ∈ L.take k, x.length = 32) ∧ Below w.heap.size w wr) (fun i _ => (L.length - intOf i).toNat)
    case atStart => exact ⟨0, by omega, rfl, by simp, Below.refl _ _⟩
    case round =>
      obtain ⟨k, hk, rfl, hall, HB⟩ := hrel
      by_cases hlt : k < L.length
      · obtain ⟨b, o, rfl, hb, hc⟩ := Txts.at (Strs.below hs HB : Txts wr A L) k hlt
        have hxk := hx _ (List.getElem_mem hlt)
        have e1 : L.getD k [] = L[k] := by rw [List.getD, List.getElem?_eq_getElem hlt]; rfl
        have hm := List.getElem_mem hlt
        have ht : L.take (k + 1) = L.take k ++ [L[k]] := by rw [List.take_add_one, List.getElem?_eq_getElem hlt]; rfl
        rw [e1] at hc
        generalize L[k] = x at *
        have HT := Lib.hid ht
        have HA := Lib.hid hall
        clear ht hall e1 hx hs
        by_cases h32 : x.length = 32
        · have h32i : (x.length : Int) = 32 := by omega
          have h33 : ((x.length : Int) != 32) = false := by simp; omega
          go_wp2_with fail
          go_roundw
          case rel => exact ⟨k + 1, by omega, by go_num, by rw [HT.out]; intro y hy; rcases List.mem_append.1 hy with hy | hy; exact HA.out y hy; rw [List.mem_singleton.1 hy]; exact h32, HB⟩
          case measure => simp [intOf]; omega
        · have h33 : ((x.length : Int) != 32) = true := by simp; omega
          have hN := Lib.hid (show ¬ RightP L 5 from fun h => h32 (hR.out.1 h x hm))
          go_wp2_with fail
          go_ret
          first | exact ⟨.inl ⟨rfl, hN.out⟩, HB⟩ | exact ⟨⟨false, rfl, by simp [hN.out]⟩, HB⟩
      · obtain rfl : k = L.length := by omega
        rw [List.take_of_length_le (Nat.le_refl _)] at hall
        have hY := Lib.hid (hR.out.2 hall)
        clear hall hx hs
        go_wp2_with fail
        go_ret
        first | exact ⟨.inr ⟨rfl, hY.out⟩, HB⟩ | exact ⟨⟨true, rfl, by simp [hY.out]⟩, HB⟩
  · have hR := Lib.hid (show ¬ RightP L 5 from fun h => by have h1 := h.2.2.1; have h2 : L.length ≤ 32 := h.2.2.2.1; omega)
    by_cases hp : 32 < L.length
    · go_enter Tryd.func71, Tryd.ntmps71
      go_wp2_with fail
      go_ret
      first | exact ⟨.inl ⟨rfl, hR.out⟩, Below.refl _ _⟩ | exact ⟨⟨false, rfl, by simp [hR.out]⟩, Below.refl _ _⟩
    · exact absurd (by omega) hl
set_option maxRecDepth 100000 in
theorem rright_at6 (A : Option Addr) (c : Nat) (L : List Bytes) (hx : ∀ x ∈ L, x.length ≤ 9223372036854775807) (w : World) (hs : Txts w A L) :
    Calls Tryd.prog 71 #[.slice A L.length c, .int .i64 6] w (fun e w' => (∃ r : Bool, e = .returned (.bool r) ∧ (r = true ↔ RightP L 6)) ∧ Below w.heap.size w w') := by
  by_cases hl : L.length ≤ 64
  · have hl1 : (L.length : Int) ≤ 64 := by omega
    have hl2 : (L.length : Int) ≤ 256 := by omega
    have hl3 : ¬ (64 < L.length) := by omega
    have hl4 : ¬ (256 < L.length) := by omega
    have hR := Lib.hid (show RightP L 6 ↔ ∀ x ∈ L, x.length = 32 from ⟨fun h => h.2.2.2.2, fun h => ⟨by omega, by omega, by omega, by show L.length ≤ 64; omega, h⟩⟩)
    go_enter Tryd.func71, Tryd.ntmps71
    go_wp2_with fail
    go_loopw [5] (fun i wr => ∃ k : Nat, k ≤ L.length ∧ i = .int .i64 k ∧ (∀ x ∈ L.take k, x.length = 32) ∧ Below w.heap.size w wr) (fun i _ => (L.length - intOf i).toNat)
    case atStart => exact ⟨0, by omega, rfl, by simp, Below.refl _ _⟩
    case round =>
      obtain ⟨k, hk, rfl, hall, HB⟩ := hrel
      by_cases hlt : k < L.length
      · obtain ⟨b, o, rfl, hb, hc⟩ := Txts.at (Strs.below hs HB : Txts wr A L) k hlt
        have hxk := hx _ (List.getElem_mem hlt)
        have e1 : L.getD k [] = L[k] := by rw [List.getD, List.getElem?_eq_getElem hlt]; rfl
        have hm := List.getElem_mem hlt
        have ht : L.take (k + 1) = L.take k ++ [L[k]] := by rw [List.take_add_one, List.getElem?_eq_getElem hlt]; rfl
        rw [e1] at hc
        generalize L[k] = x at *
        have HT := Lib.hid ht
        have HA := Lib.hid hall
        clear ht hall e1 hx hs
        by_cases h32 : x.length = 32
        · have h32i : (x.length : Int) = 32 := by omega
          have h33 : ((x.length : Int) != 32) = false := by simp; omega
          go_wp2_with fail
          go_roundw
          case rel => exact ⟨k + 1, by omega, by go_num, by rw [HT.out]; intro y hy; rcases List.mem_append.1 hy with hy | hy; exact HA.out y hy; rw [List.mem_singleton.1 hy]; exact h32, HB⟩
          case measure => simp [intOf]; omega
        · have h33 : ((x.length : Int) != 32) = true := by simp; omega
          have hN := Lib.hid (show ¬ RightP L 6 from fun h => h32 (hR.out.1 h x hm))
          go_wp2_with fail
          go_ret
          first | exact ⟨.inl ⟨rfl, hN.out⟩, HB⟩ | exact ⟨⟨false, rfl, by simp [hN.out]⟩, HB⟩
      · obtain rfl : k = L.length := by omega
        rw [List.take_of_length_le (Nat.le_refl _)] at hall
        have hY := Lib.hid (hR.out.2 hall)
        clear hall hx hs
        go_wp2_with fail
        go_ret
        first | exact ⟨.inr ⟨rfl, hY.out⟩, HB⟩ | exact ⟨⟨true, rfl, by simp [hY.out]⟩, HB⟩
  · have hR := Lib.hid (show ¬ RightP L 6 from fun h => by have h1 := h.2.2.1; have h2 : L.length ≤ 64 := h.2.2.2.1; omega)
    by_cases hp : 64 < L.length
    · go_enter Tryd.func71, Tryd.ntmps71
      go_wp2_with fail
      go_ret
      first | exact ⟨.inl ⟨rfl, hR.out⟩, Below.refl _ _⟩ | exact ⟨⟨false, rfl, by simp [hR.out]⟩, Below.refl _ _⟩
    · exact absurd (by omega) hl
set_option maxRecDepth 100000 in
theorem rright_at7 (A : Option Addr) (c : Nat) (L : List Bytes) (hx : ∀ x ∈ L, x.length ≤ 9223372036854775807) (w : World) (hs : Txts w A L) :
    Calls Tryd.prog 71 #[.slice A L.length c, .int .i64 7] w (fun e w' => (∃ r : Bool, e = .returned (.bool r) ∧ (r = true ↔ RightP L 7)) ∧ Below w.heap.size w w') := by
  by_cases hl : L.length ≤ 128
  · have hl1 : (L.length : Int) ≤ 128 := by omega
    have hl2 : (L.length : Int) ≤ 256 := by omega
    have hl3 : ¬ (128 < L.length) := by omega
    have hl4 : ¬ (256 < L.length) := by omega
    have hR := Lib.hid (show RightP L 7 ↔ ∀ x ∈ L, x.length = 32 from ⟨fun h => h.2.2.2.2, fun h => ⟨by omega, by omega, by omega, by show L.length ≤ 128; omega, h⟩⟩)
    go_enter Tryd.func71, Tryd.ntmps71
    go_wp2_with fail
    go_loopw [5] (fun i wr => ∃ k : Nat, k ≤ L.length ∧ i = .int .i64 k ∧ (∀ x ∈ L.take k, x.length = 32) ∧ Below w.heap.size w wr) (fun i _ => (L.length - intOf i).toNat)
    case atStart => exact ⟨0, by omega, rfl, by simp, Below.refl _ _⟩
    case round =>
      obtain ⟨k, hk, rfl, hall, HB⟩ := hrel
      by_cases hlt : k < L.length
      · obtain ⟨b, o, rfl, hb, hc⟩ := Txts.at (Strs.below hs HB : Txts wr A L) k hlt
        have hxk := hx _ (List.getElem_mem hlt)
        have e1 : L.getD k [] = L[k] := by rw [List.getD, List.getElem?_eq_getElem hlt]; rfl
        have hm := List.getElem_mem hlt
        have ht : L.take (k + 1) = L.take k ++ [L[k]] := by rw [List.take_add_one, List.getElem?_eq_getElem hlt]; rfl
        rw [e1] at hc
        generalize L[k] = x at *
        have HT := Lib.hid ht
        have HA := Lib.hid hall
        clear ht hall e1 hx hs
        by_cases h32 : x.length = 32
        · have h32i : (x.length : Int) = 32 := by omega
          have h33 : ((x.length : Int) != 32) = false := by simp; omega
          go_wp2_with fail
          go_roundw
          case rel => exact ⟨k + 1, by omega, by go_num, by rw [HT.out]; intro y hy; rcases List.mem_append.1 hy with hy | hy; exact HA.out y hy; rw [List.mem_singleton.1 hy]; exact h32, HB⟩
          case measure => simp [intOf]; omega
        · have h33 : ((x.length : Int) != 32) = true := by simp; omega
          have hN := Lib.hid (show ¬ RightP L 7 from fun h => h32 (hR.out.1 h x hm))
          go_wp2_with fail
          go_ret
          first | exact ⟨.inl ⟨rfl, hN.out⟩, HB⟩ | exact ⟨⟨false, rfl, by simp [hN.out]⟩, HB⟩
      · obtain rfl : k = L.length := by omega
        rw [List.take_of_length_le (Nat.le_refl _)] at hall
        have hY := Lib.hid (hR.out.2 hall)
        clear hall hx hs
        go_wp2_with fail
        go_ret
        first | exact ⟨.inr ⟨rfl, hY.out⟩, HB⟩ | exact ⟨⟨true, rfl, by simp [hY.out]⟩, HB⟩
  · have hR := Lib.hid (show ¬ RightP L 7 from fun h => by have h1 := h.2.2.1; have h2 : L.length ≤ 128 := h.2.2.2.1; omega)
    by_cases hp : 128 < L.length
    · go_enter Tryd.func71, Tryd.ntmps71
      go_wp2_with fail
      go_ret
      first | exact ⟨.inl ⟨rfl, hR.out⟩, Below.refl _ _⟩ | exact ⟨⟨false, rfl, by simp [hR.out]⟩, Below.refl _ _⟩
    · exact absurd (by omega) hl
set_option maxRecDepth 100000 in
theorem rright_at8 (A : Option Addr) (c : Nat) (L : List Bytes) (hx : ∀ x ∈ L, x.length ≤ 9223372036854775807) (w : World) (hs : Txts w A L) :
    Calls Tryd.prog 71 #[.slice A L.length c, .int .i64 8] w (fun e w' => (∃ r : Bool, e = .returned (.bool r) ∧ (r = true ↔ RightP L 8)) ∧ Below w.heap.size w w') := by
  by_cases hl : L.length ≤ 256
  · have hl1 : (L.length : Int) ≤ 256 := by omega
    have hl2 : (L.length : Int) ≤ 256 := by omega
    have hl3 : ¬ (256 < L.length) := by omega
    have hl4 : ¬ (256 < L.length) := by omega
    have hR := Lib.hid (show RightP L 8 ↔ ∀ x ∈ L, x.length = 32 from ⟨fun h => h.2.2.2.2, fun h => ⟨by omega, by omega, by omega, by show L.length ≤ 256; omega, h⟩⟩)
    go_enter Tryd.func71, Tryd.ntmps71
    go_wp2_with fail
    go_loopw [5] (fun i wr => ∃ k : Nat, k ≤ L.length ∧ i = .int .i64 k ∧ (∀ x ∈ L.take k, x.length = 32) ∧ Below w.heap.size w wr) (fun i _ => (L.length - intOf i).toNat)
    case atStart => exact ⟨0, by omega, rfl, by simp, Below.refl _ _⟩
    case round =>
      obtain ⟨k, hk, rfl, hall, HB⟩ := hrel
      by_cases hlt : k < L.length
      · obtain ⟨b, o, rfl, hb, hc⟩ := Txts.at (Strs.below hs HB : Txts wr A L) k hlt
        have hxk := hx _ (List.getElem_mem hlt)
        have e1 : L.getD k [] = L[k] := by rw [List.getD, List.getElem?_eq_getElem hlt]; rfl
        have hm := List.getElem_mem hlt
        have ht : L.take (k + 1) = L.take k ++ [L[k]] := by rw [List.take_add_one, List.getElem?_eq_getElem hlt]; rfl
        rw [e1] at hc
        generalize L[k] = x at *
        have HT := Lib.hid ht
        have HA := Lib.hid hall
        clear ht hall e1 hx hs
        by_cases h32 : x.length = 32
        · have h32i : (x.length : Int) = 32 := by omega
          have h33 : ((x.length : Int) != 32) = false := by simp; omega
          go_wp2_with fail
          go_roundw
          case rel => exact ⟨k + 1, by omega, by go_num, by rw [HT.out]; intro y hy; rcases List.mem_append.1 hy with hy | hy; exact HA.out y hy; rw [List.mem_singleton.1 hy]; exact h32, HB⟩
          case measure => simp [intOf]; omega
        · have h33 : ((x.length : Int) != 32) = true := by simp; omega
          have hN := Lib.hid (show ¬ RightP L 8 from fun h => h32 (hR.out.1 h x hm))
          go_wp2_with fail
          go_ret
          first | exact ⟨.inl ⟨rfl, hN.out⟩, HB⟩ | exact ⟨⟨false, rfl, by simp [hN.out]⟩, HB⟩
      · obtain rfl : k = L.length := by omega
        rw [List.take_of_length_le (Nat.le_refl _)] at hall
        have hY := Lib.hid (hR.out.2 hall)
        clear hall hx hs
        go_wp2_with fail
        go_ret
        first | exact ⟨.inr ⟨rfl, hY.out⟩, HB⟩ | exact ⟨⟨true, rfl, by simp [hY.out]⟩, HB⟩
  · have hR := Lib.hid (show ¬ RightP L 8 from fun h => by have h1 := h.2.2.1; have h2 : L.length ≤ 256 := h.2.2.2.1; omega)
    by_cases hp : 256 < L.length
    · go_enter Tryd.func71, Tryd.ntmps71
      go_wp2_with fail
      go_ret
      first | exact ⟨.inl ⟨rfl, hR.out⟩, Below.refl _ _⟩ | exact ⟨⟨false, rfl, by simp [hR.out]⟩, Below.refl _ _⟩
    · exact absurd (by omega) hl
set_option maxRecDepth 100000 in
theorem rright_at9 (A : Option Addr) (c : Nat) (L : List Bytes) (hx : ∀ x ∈ L, x.length ≤ 9223372036854775807) (w : World) (hs : Txts w A L) :
    Calls Tryd.prog 71 #[.slice A L.length c, .int .i64 9] w (fun e w' => (∃ r : Bool, e = .returned (.bool r) ∧ (r = true ↔ RightP L 9)) ∧ Below w.heap.size w w') := by
  by_cases hl : L.length ≤ 256
  · have hl1 : (L.length : Int) ≤ 512 := by omega
    have hl2 : (L.length : Int) ≤ 256 := by omega
    have hl3 : ¬ (512 < L.length) := by omega
    have hl4 : ¬ (256 < L.length) := by omega
    have hR := Lib.hid (show RightP L 9 ↔ ∀ x ∈ L, x.length = 32 from ⟨fun h => h.2.2.2.2, fun h => ⟨by omega, by omega, by omega, by show L.length ≤ 512; omega, h⟩⟩)
    go_enter Tryd.func71, Tryd.ntmps71
    go_wp2_with fail
    go_loopw [5] (fun i wr => ∃ k : Nat, k ≤ L.length ∧ i = .int .i64 k ∧ (∀ x ∈ L.take k, x.length = 32) ∧ Below w.heap.size w wr) (fun i _ => (L.length - intOf i).toNat)
    case atStart => exact ⟨0, by omega, rfl, by simp, Below.refl _ _⟩
    case round =>
      obtain ⟨k, hk, rfl, hall, HB⟩ := hrel
      by_cases hlt : k < L.length
      · obtain ⟨b, o, rfl, hb, hc⟩ := Txts.at (Strs.below hs HB : Txts wr A L) k hlt
        have hxk := hx _ (List.getElem_mem hlt)
        have e1 : L.getD k [] = L[k] := by rw [List.getD, List.getElem?_eq_getElem hlt]; rfl
        have hm := List.getElem_mem hlt
        have ht : L.take (k + 1) = L.take k ++ [L[k]] := by rw [List.take_add_one, List.getElem?_eq_getElem hlt]; rfl
        rw [e1] at hc
        generalize L[k] = x at *
        have HT := Lib.hid ht
        have HA := Lib.hid hall
        clear ht hall e1 hx hs
        by_cases h32 : x.length = 32
        · have h32i : (x.length : Int) = 32 := by omega
          have h33 : ((x.length : Int) != 32) = false := by simp; omega
          go_wp2_with fail
          go_roundw
          case rel => exact ⟨k + 1, by omega, by go_num, by rw [HT.out]; intro y hy; rcases List.mem_append.1 hy with hy | hy; exact HA.out y hy; rw [List.mem_singleton.1 hy]; exact h32, HB⟩
          case measure => simp [intOf]; omega
        · have h33 : ((x.length : Int) != 32) = true := by simp; omega
          have hN := Lib.hid (show ¬ RightP L 9 from fun h => h32 (hR.out.1 h x hm))
          go_wp2_with fail
          go_ret
          first | exact ⟨.inl ⟨rfl, hN.out⟩, HB⟩ | exact ⟨⟨false, rfl, by simp [hN.out]⟩, HB⟩
      · obtain rfl : k = L.length := by omega
        rw [List.take_of_length_le (Nat.le_refl _)] at hall
        have hY := Lib.hid (hR.out.2 hall)
        clear hall hx hs
        go_wp2_with fail
        go_ret
        first | exact ⟨.inr ⟨rfl, hY.out⟩, HB⟩ | exact ⟨⟨true, rfl, by simp [hY.out]⟩, HB⟩
  · have hR := Lib.hid (show ¬ RightP L 9 from fun h => by have h1 := h.2.2.1; have h2 : L.length ≤ 512 := h.2.2.2.1; omega)
    by_cases hp : 512 < L.length
    · go_enter Tryd.func71, Tryd.ntmps71
      go_wp2_with fail
      go_ret
      first | exact ⟨.inl ⟨rfl, hR.out⟩, Below.refl _ _⟩ | exact ⟨⟨false, rfl, by simp [hR.out]⟩, Below.refl _ _⟩
    · have hp2 : 256 < L.length := by omega
      go_enter Tryd.func71, Tryd.ntmps71
      go_wp2_with fail
      go_ret
      first | exact ⟨.inl ⟨rfl, hR.out⟩, Below.refl _ _⟩ | exact ⟨⟨false, rfl, by simp [hR.out]⟩, Below.refl _ _⟩
set_option maxRecDepth 100000 in
theorem rright_at10 (A : Option Addr) (c : Nat) (L : List Bytes) (hx : ∀ x ∈ L, x.length ≤ 9223372036854775807) (w : World) (hs : Txts w A L) :
    Calls Tryd.prog 71 #[.slice A L.length c, .int .i64 10] w (fun e w' => (∃ r : Bool, e = .returned (.bool r) ∧ (r = true ↔ RightP L 10)) ∧ Below w.heap.size w w') := by
  by_cases hl : L.length ≤ 256
  · have hl1 : (L.length : Int) ≤ 1024 := by omega
    have hl2 : (L.length : Int) ≤ 256 := by omega
    have hl3 : ¬ (1024 < L.length) := by omega
    have hl4 : ¬ (256 < L.length) := by omega
    have hR := Lib.hid (show RightP L 10 ↔ ∀ x ∈ L, x.length = 32 from ⟨fun h => h.2.2.2.2, fun h => ⟨by omega, by omega, by omega, by show L.length ≤ 1024; omega, h⟩⟩)
    go_enter Tryd.func71, Tryd.ntmps71
    go_wp2_with fail
    go_loopw [5] (fun i wr => ∃ k : Nat, k ≤ L.length ∧ i = .int .i64 k ∧ (∀ x ∈ L.take k, x.length = 32) ∧ Below w.heap.size w wr) (fun i _ => (L.length - intOf i).toNat)
    case atStart => exact ⟨0, by omega, rfl, by simp, Below.refl _ _⟩
    case round =>
      obtain ⟨k, hk, rfl, hall, HB⟩ := hrel
      by_cases hlt : k < L.length
      · obtain ⟨b, o, rfl, hb, hc⟩ := Txts.at (Strs.below hs HB : Txts wr A L) k hlt
        have hxk := hx _ (List.getElem_mem hlt)
        have e1 : L.getD k [] = L[k] := by rw [List.getD, List.getElem?_eq_getElem hlt]; rfl
        have hm := List.getElem_mem hlt
        have ht : L.take (k + 1) = L.take k ++ [L[k]] := by rw [List.take_add_one, List.getElem?_eq_getElem hlt]; rfl
        rw [e1] at hc
        generalize L[k] = x at *
        have HT := Lib.hid ht
        have HA := Lib.hid hall
        clear ht hall e1 hx hs
        by_cases h32 : x.length = 32
        · have h32i : (x.length : Int) = 32 := by omega
          have h33 : ((x.length : Int) != 32) = false := by simp; omega
          go_wp2_with fail
          go_roundw
          case rel => exact ⟨k + 1, by omega, by go_num, by rw [HT.out]; intro y hy; rcases List.mem_append.1 hy with hy | hy; exact HA.out y hy; rw [List.mem_singleton.1 hy]; exact h32, HB⟩
          case measure => simp [intOf]; omega
        · have h33 : ((x.length : Int) != 32) = true := by simp; omega
          have hN := Lib.hid (show ¬ RightP L 10 from fun h => h32 (hR.out.1 h x hm))
          go_wp2_with fail
          go_ret
          first | exact ⟨.inl ⟨rfl, hN.out⟩, HB⟩ | exact ⟨⟨false, rfl, by simp [hN.out]⟩, HB⟩
      · obtain rfl : k = L.length := by omega
        rw [List.take_of_length_le (Nat.le_refl _)] at hall
        have hY := Lib.hid (hR.out.2 hall)
        clear hall hx hs
        go_wp2_with fail
        go_ret
        first | exact ⟨.inr ⟨rfl, hY.out⟩, HB⟩ | exact ⟨⟨true, rfl, by simp [hY.out]⟩, HB⟩
  · have hR := Lib.hid (show ¬ RightP L 10 from fun h => by have h1 := h.2.2.1; have h2 : L.length ≤ 1024 := h.2.2.2.1; omega)
    by_cases hp : 1024 < L.length
    · go_enter Tryd.func71, Tryd.ntmps71
      go_wp2_with fail
      go_ret
      first | exact ⟨.inl ⟨rfl, hR.out⟩, Below.refl _ _⟩ | exact ⟨⟨false, rfl, by simp [hR.out]⟩, Below.refl _ _⟩
    · have hp2 : 256 < L.length := by omega
      go_enter Tryd.func71, Tryd.ntmps71
      go_wp2_with fail
      go_ret
      first | exact ⟨.inl ⟨rfl, hR.out⟩, Below.refl _ _⟩ | exact ⟨⟨false, rfl, by simp [hR.out]⟩, Below.refl _ _⟩
set_option maxRecDepth 100000 in
theorem rright_calls (A : Option Addr) (c : Nat) (L : List Bytes) (d : Int) (hx : ∀ x ∈ L, x.length ≤ 9223372036854775807) (w : World) (hs : Txts w A L) :
    Calls Tryd.prog 71 #[.slice A L.length c, .int .i64 d] w (fun e w' => (∃ r : Bool, e = .returned (.bool r) ∧ (r = true ↔ RightP L d)) ∧ Below w.heap.size w w') := by
  by_cases h0 : 0 ≤ d ∧ d ≤ 10
  · have hd : d = 0 ∨ d = 1 ∨ d = 2 ∨ d = 3 ∨ d = 4 ∨ d = 5 ∨ d = 6 ∨ d = 7 ∨ d = 8 ∨ d = 9 ∨ d = 10 := by omega
    rcases hd with rfl | rfl | rfl | rfl | rfl | rfl | rfl | rfl | rfl | rfl | rfl
    · exact rright_at0 A c L hx w hs
    · exact rright_at1 A c L hx w hs
    · exact rright_at2 A c L hx w hs
    · exact rright_at3 A c L hx w hs
    · exact rright_at4 A c L hx w hs
    · exact rright_at5 A c L hx w hs
    · exact rright_at6 A c L hx w hs
    · exact rright_at7 A c L hx w hs
    · exact rright_at8 A c L hx w hs
    · exact rright_at9 A c L hx w hs
    · exact rright_at10 A c L hx w hs
  · refine (rright_no A c L d h0 w).mono ?_
    rintro e w1 ⟨rfl, h1⟩
    exact ⟨⟨false, rfl, by simp; exact fun h => h0 ⟨h.1, h.2.1⟩⟩, h1⟩
end Go.Proofs.YtpmmjomejackkaaDoor
