/- What the later texts stand on (SszF, SszQ, SszL): plain laws and walks, each by its own conditions. -/
import Derived.Test.YthflonnkmkjddaaDoorG6
import Derived.Test.YthflonnkmkjddaaDoorG3
import Derived.Test.YthflonnkmkjddaaDoorG7
set_option linter.unusedSimpArgs false
set_option linter.unusedVariables false
section
set_option linter.unusedSimpArgs false
set_option linter.unusedVariables false
namespace Go.Proofs.YthflonnkmkjddaaDoor
open BigFrame Go.RowKit Go.Phx Go.Shelf
attribute [local go_sem] Oper.semAt_some

/-- are chunks ones of a tree of a depth? -/
def RightP (L : List Bytes) (d : Int) : Prop := 0 ≤ d ∧ d ≤ 10 ∧ L.length ≤ 256 ∧ L.length ≤ 2 ^ d.toNat ∧ ∀ x ∈ L, x.length = 32
set_option maxRecDepth 100000 in
theorem right_at0 (A : Option Addr) (c : Nat) (L : List Bytes) (hL : L.length ≤ 9223372036854775807) (hx : ∀ x ∈ L, x.length ≤ 9223372036854775807) (w : World) (hs : Txts w A L) :
    Calls Tryd.prog 12 #[.slice A L.length c, .int .i64 0] w (fun e w' => (∃ r : Bool, e = .returned (.bool r) ∧ (r = true ↔ RightP L 0)) ∧ Below w.heap.size w w') := by
  by_cases hl : L.length ≤ 1
  · have hl' : (L.length : Int) ≤ 1 := by omega
    have hR := Lib.hid (show RightP L 0 ↔ ∀ x ∈ L, x.length = 32 from ⟨fun h => h.2.2.2.2, fun h => ⟨by omega, by omega, by omega, by show L.length ≤ 1; omega, h⟩⟩)
    go_enter Tryd.func12, Tryd.ntmps12
    go_wp2_with fail
    refine (containsFunc_calls A c L hL hx _ hs).mono ?_
    rintro e w1 ⟨⟨r, rfl, hr⟩, h1⟩
    replace hr := Lib.hid hr
    go_wp2_with fail
    go_ret
    refine ⟨⟨_, rfl, ?_⟩, h1⟩
    rw [hR.out, Bool.not_eq_true', ← Bool.not_eq_true, hr.out]
    constructor
    · intro h x hx1
      exact Classical.byContradiction fun hn => h ⟨x, hx1, hn⟩
    · rintro h ⟨x, hx1, hn⟩
      exact hn (h x hx1)
  · have hl' : ¬ (L.length : Int) ≤ 1 := by omega
    have hR := Lib.hid (show ¬ RightP L 0 from fun h => by have h1 := h.2.2.1; have h2 : L.length ≤ 1 := h.2.2.2.1; omega)
    go_enter Tryd.func12, Tryd.ntmps12
    go_wp2_with fail
    go_ret
    first | exact ⟨.inl ⟨rfl, hR.out⟩, Below.refl _ _⟩ | exact ⟨⟨false, rfl, by simp [hR.out]⟩, Below.refl _ _⟩
set_option maxRecDepth 100000 in
theorem right_at1 (A : Option Addr) (c : Nat) (L : List Bytes) (hL : L.length ≤ 9223372036854775807) (hx : ∀ x ∈ L, x.length ≤ 9223372036854775807) (w : World) (hs : Txts w A L) :
    Calls Tryd.prog 12 #[.slice A L.length c, .int .i64 1] w (fun e w' => (∃ r : Bool, e = .returned (.bool r) ∧ (r = true ↔ RightP L 1)) ∧ Below w.heap.size w w') := by
  by_cases hl : L.length ≤ 2
  · have hl' : (L.length : Int) ≤ 2 := by omega
    have hR := Lib.hid (show RightP L 1 ↔ ∀ x ∈ L, x.length = 32 from ⟨fun h => h.2.2.2.2, fun h => ⟨by omega, by omega, by omega, by show L.length ≤ 2; omega, h⟩⟩)
    go_enter Tryd.func12, Tryd.ntmps12
    go_wp2_with fail
    refine (containsFunc_calls A c L hL hx _ hs).mono ?_
    rintro e w1 ⟨⟨r, rfl, hr⟩, h1⟩
    replace hr := Lib.hid hr
    go_wp2_with fail
    go_ret
    refine ⟨⟨_, rfl, ?_⟩, h1⟩
    rw [hR.out, Bool.not_eq_true', ← Bool.not_eq_true, hr.out]
    constructor
    · intro h x hx1
      exact Classical.byContradiction fun hn => h ⟨x, hx1, hn⟩
    · rintro h ⟨x, hx1, hn⟩
      exact hn (h x hx1)
  · have hl' : ¬ (L.length : Int) ≤ 2 := by omega
    have hR := Lib.hid (show ¬ RightP L 1 from fun h => by have h1 := h.2.2.1; have h2 : L.length ≤ 2 := h.2.2.2.1; omega)
    go_enter Tryd.func12, Tryd.ntmps12
    go_wp2_with fail
    go_ret
    first | exact ⟨.inl ⟨rfl, hR.out⟩, Below.refl _ _⟩ | exact ⟨⟨false, rfl, by simp [hR.out]⟩, Below.refl _ _⟩
set_option maxRecDepth 100000 in
theorem right_at2 (A : Option Addr) (c : Nat) (L : List Bytes) (hL : L.length ≤ 9223372036854775807) (hx : ∀ x ∈ L, x.length ≤ 9223372036854775807) (w : World) (hs : Txts w A L) :
    Calls Tryd.prog 12 #[.slice A L.length c, .int .i64 2] w (fun e w' => (∃ r : Bool, e = .returned (.bool r) ∧ (r = true ↔ RightP L 2)) ∧ Below w.heap.size w w') := by
  by_cases hl : L.length ≤ 4
  · have hl' : (L.length : Int) ≤ 4 := by omega
    have hR := Lib.hid (show RightP L 2 ↔ ∀ x ∈ L, x.length = 32 from ⟨fun h => h.2.2.2.2, fun h => ⟨by omega, by omega, by omega, by show L.length ≤ 4; omega, h⟩⟩)
    go_enter Tryd.func12, Tryd.ntmps12
    go_wp2_with fail
    refine (containsFunc_calls A c L hL hx _ hs).mono ?_
    rintro e w1 ⟨⟨r, rfl, hr⟩, h1⟩
    replace hr := Lib.hid hr
    go_wp2_with fail
    go_ret
    refine ⟨⟨_, rfl, ?_⟩, h1⟩
    rw [hR.out, Bool.not_eq_true', ← Bool.not_eq_true, hr.out]
    constructor
    · intro h x hx1
      exact Classical.byContradiction fun hn => h ⟨x, hx1, hn⟩
    · rintro h ⟨x, hx1, hn⟩
      exact hn (h x hx1)
  · have hl' : ¬ (L.length : Int) ≤ 4 := by omega
    have hR := Lib.hid (show ¬ RightP L 2 from fun h => by have h1 := h.2.2.1; have h2 : L.length ≤ 4 := h.2.2.2.1; omega)
    go_enter Tryd.func12, Tryd.ntmps12
    go_wp2_with fail
    go_ret
    first | exact ⟨.inl ⟨rfl, hR.out⟩, Below.refl _ _⟩ | exact ⟨⟨false, rfl, by simp [hR.out]⟩, Below.refl _ _⟩
set_option maxRecDepth 100000 in
theorem right_at3 (A : Option Addr) (c : Nat) (L : List Bytes) (hL : L.length ≤ 9223372036854775807) (hx : ∀ x ∈ L, x.length ≤ 9223372036854775807) (w : World) (hs : Txts w A L) :
    Calls Tryd.prog 12 #[.slice A L.length c, .int .i64 3] w (fun e w' => (∃ r : Bool, e = .returned (.bool r) ∧ (r = true ↔ RightP L 3)) ∧ Below w.heap.size w w') := by
  by_cases hl : L.length ≤ 8
  · have hl' : (L.length : Int) ≤ 8 := by omega
    have hR := Lib.hid (show RightP L 3 ↔ ∀ x ∈ L, x.length = 32 from ⟨fun h => h.2.2.2.2, fun h => ⟨by omega, by omega, by omega, by show L.length ≤ 8; omega, h⟩⟩)
    go_enter Tryd.func12, Tryd.ntmps12
    go_wp2_with fail
    refine (containsFunc_calls A c L hL hx _ hs).mono ?_
    rintro e w1 ⟨⟨r, rfl, hr⟩, h1⟩
    replace hr := Lib.hid hr
    go_wp2_with fail
    go_ret
    refine ⟨⟨_, rfl, ?_⟩, h1⟩
    rw [hR.out, Bool.not_eq_true', ← Bool.not_eq_true, hr.out]
    constructor
    · intro h x hx1
      exact Classical.byContradiction fun hn => h ⟨x, hx1, hn⟩
    · rintro h ⟨x, hx1, hn⟩
      exact hn (h x hx1)
  · have hl' : ¬ (L.length : Int) ≤ 8 := by omega
    have hR := Lib.hid (show ¬ RightP L 3 from fun h => by have h1 := h.2.2.1; have h2 : L.length ≤ 8 := h.2.2.2.1; omega)
    go_enter Tryd.func12, Tryd.ntmps12
    go_wp2_with fail
    go_ret
    first | exact ⟨.inl ⟨rfl, hR.out⟩, Below.refl _ _⟩ | exact ⟨⟨false, rfl, by simp [hR.out]⟩, Below.refl _ _⟩
set_option maxRecDepth 100000 in
theorem right_at4 (A : Option Addr) (c : Nat) (L : List Bytes) (hL : L.length ≤ 9223372036854775807) (hx : ∀ x ∈ L, x.length ≤ 9223372036854775807) (w : World) (hs : Txts w A L) :
    Calls Tryd.prog 12 #[.slice A L.length c, .int .i64 4] w (fun e w' => (∃ r : Bool, e = .returned (.bool r) ∧ (r = true ↔ RightP L 4)) ∧ Below w.heap.size w w') := by
  by_cases hl : L.length ≤ 16
  · have hl' : (L.length : Int) ≤ 16 := by omega
    have hR := Lib.hid (show RightP L 4 ↔ ∀ x ∈ L, x.length = 32 from ⟨fun h => h.2.2.2.2, fun h => ⟨by omega, by omega, by omega, by show L.length ≤ 16; omega, h⟩⟩)
    go_enter Tryd.func12, Tryd.ntmps12
    go_wp2_with fail
    refine (containsFunc_calls A c L hL hx _ hs).mono ?_
    rintro e w1 ⟨⟨r, rfl, hr⟩, h1⟩
    replace hr := Lib.hid hr
    go_wp2_with fail
    go_ret
    refine ⟨⟨_, rfl, ?_⟩, h1⟩
    rw [hR.out, Bool.not_eq_true', ← Bool.not_eq_true, hr.out]
    constructor
    · intro h x hx1
      exact Classical.byContradiction fun hn => h ⟨x, hx1, hn⟩
    · rintro h ⟨x, hx1, hn⟩
      exact hn (h x hx1)
  · have hl' : ¬ (L.length : Int) ≤ 16 := by omega
    have hR := Lib.hid (show ¬ RightP L 4 from fun h => by have h1 := h.2.2.1; have h2 : L.length ≤ 16 := h.2.2.2.1; omega)
    go_enter Tryd.func12, Tryd.ntmps12
    go_wp2_with fail
    go_ret
    first | exact ⟨.inl ⟨rfl, hR.out⟩, Below.refl _ _⟩ | exact ⟨⟨false, rfl, by simp [hR.out]⟩, Below.refl _ _⟩
set_option maxRecDepth 100000 in
theorem right_at5 (A : Option Addr) (c : Nat) (L : List Bytes) (hL : L.length ≤ 9223372036854775807) (hx : ∀ x ∈ L, x.length ≤ 9223372036854775807) (w : World) (hs : Txts w A L) :
    Calls Tryd.prog 12 #[.slice A L.length c, .int .i64 5] w (fun e w' => (∃ r : Bool, e = .returned (.bool r) ∧ (r = true ↔ RightP L 5)) ∧ Below w.heap.size w w') := by
  by_cases hl : L.length ≤ 32
  · have hl' : (L.length : Int) ≤ 32 := by omega
    have hR := Lib.hid (show RightP L 5 ↔ ∀ x ∈ L, x.length = 32 from ⟨fun h => h.2.2.2.2, fun h => ⟨by omega, by omega, by omega, by show L.length ≤ 32; omega, h⟩⟩)
    go_enter Tryd.func12, Tryd.ntmps12
    go_wp2_with fail
    refine (containsFunc_calls A c L hL hx _ hs).mono ?_
    rintro e w1 ⟨⟨r, rfl, hr⟩, h1⟩
    replace hr := Lib.hid hr
    go_wp2_with fail
    go_ret
    refine ⟨⟨_, rfl, ?_⟩, h1⟩
    rw [hR.out, Bool.not_eq_true', ← Bool.not_eq_true, hr.out]
    constructor
    · intro h x hx1
      exact Classical.byContradiction fun hn => h ⟨x, hx1, hn⟩
    · rintro h ⟨x, hx1, hn⟩
      exact hn (h x hx1)
  · have hl' : ¬ (L.length : Int) ≤ 32 := by omega
    have hR := Lib.hid (show ¬ RightP L 5 from fun h => by have h1 := h.2.2.1; have h2 : L.length ≤ 32 := h.2.2.2.1; omega)
    go_enter Tryd.func12, Tryd.ntmps12
    go_wp2_with fail
    go_ret
    first | exact ⟨.inl ⟨rfl, hR.out⟩, Below.refl _ _⟩ | exact ⟨⟨false, rfl, by simp [hR.out]⟩, Below.refl _ _⟩
set_option maxRecDepth 100000 in
theorem right_at6 (A : Option Addr) (c : Nat) (L : List Bytes) (hL : L.length ≤ 9223372036854775807) (hx : ∀ x ∈ L, x.length ≤ 9223372036854775807) (w : World) (hs : Txts w A L) :
    Calls Tryd.prog 12 #[.slice A L.length c, .int .i64 6] w (fun e w' => (∃ r : Bool, e = .returned (.bool r) ∧ (r = true ↔ RightP L 6)) ∧ Below w.heap.size w w') := by
  by_cases hl : L.length ≤ 64
  · have hl' : (L.length : Int) ≤ 64 := by omega
    have hR := Lib.hid (show RightP L 6 ↔ ∀ x ∈ L, x.length = 32 from ⟨fun h => h.2.2.2.2, fun h => ⟨by omega, by omega, by omega, by show L.length ≤ 64; omega, h⟩⟩)
    go_enter Tryd.func12, Tryd.ntmps12
    go_wp2_with fail
    refine (containsFunc_calls A c L hL hx _ hs).mono ?_
    rintro e w1 ⟨⟨r, rfl, hr⟩, h1⟩
    replace hr := Lib.hid hr
    go_wp2_with fail
    go_ret
    refine ⟨⟨_, rfl, ?_⟩, h1⟩
    rw [hR.out, Bool.not_eq_true', ← Bool.not_eq_true, hr.out]
    constructor
    · intro h x hx1
      exact Classical.byContradiction fun hn => h ⟨x, hx1, hn⟩
    · rintro h ⟨x, hx1, hn⟩
      exact hn (h x hx1)
  · have hl' : ¬ (L.length : Int) ≤ 64 := by omega
    have hR := Lib.hid (show ¬ RightP L 6 from fun h => by have h1 := h.2.2.1; have h2 : L.length ≤ 64 := h.2.2.2.1; omega)
    go_enter Tryd.func12, Tryd.ntmps12
    go_wp2_with fail
    go_ret
    first | exact ⟨.inl ⟨rfl, hR.out⟩, Below.refl _ _⟩ | exact ⟨⟨false, rfl, by simp [hR.out]⟩, Below.refl _ _⟩
set_option maxRecDepth 100000 in
theorem right_at7 (A : Option Addr) (c : Nat) (L : List Bytes) (hL : L.length ≤ 9223372036854775807) (hx : ∀ x ∈ L, x.length ≤ 9223372036854775807) (w : World) (hs : Txts w A L) :
    Calls Tryd.prog 12 #[.slice A L.length c, .int .i64 7] w (fun e w' => (∃ r : Bool, e = .returned (.bool r) ∧ (r = true ↔ RightP L 7)) ∧ Below w.heap.size w w') := by
  by_cases hl : L.length ≤ 128
  · have hl' : (L.length : Int) ≤ 128 := by omega
    have hR := Lib.hid (show RightP L 7 ↔ ∀ x ∈ L, x.length = 32 from ⟨fun h => h.2.2.2.2, fun h => ⟨by omega, by omega, by omega, by show L.length ≤ 128; omega, h⟩⟩)
    go_enter Tryd.func12, Tryd.ntmps12
    go_wp2_with fail
    refine (containsFunc_calls A c L hL hx _ hs).mono ?_
    rintro e w1 ⟨⟨r, rfl, hr⟩, h1⟩
    replace hr := Lib.hid hr
    go_wp2_with fail
    go_ret
    refine ⟨⟨_, rfl, ?_⟩, h1⟩
    rw [hR.out, Bool.not_eq_true', ← Bool.not_eq_true, hr.out]
    constructor
    · intro h x hx1
      exact Classical.byContradiction fun hn => h ⟨x, hx1, hn⟩
    · rintro h ⟨x, hx1, hn⟩
      exact hn (h x hx1)
  · have hl' : ¬ (L.length : Int) ≤ 128 := by omega
    have hR := Lib.hid (show ¬ RightP L 7 from fun h => by have h1 := h.2.2.1; have h2 : L.length ≤ 128 := h.2.2.2.1; omega)
    go_enter Tryd.func12, Tryd.ntmps12
    go_wp2_with fail
    go_ret
    first | exact ⟨.inl ⟨rfl, hR.out⟩, Below.refl _ _⟩ | exact ⟨⟨false, rfl, by simp [hR.out]⟩, Below.refl _ _⟩
set_option maxRecDepth 100000 in
theorem right_at8 (A : Option Addr) (c : Nat) (L : List Bytes) (hL : L.length ≤ 9223372036854775807) (hx : ∀ x ∈ L, x.length ≤ 9223372036854775807) (w : World) (hs : Txts w A L) :
    Calls Tryd.prog 12 #[.slice A L.length c, .int .i64 8] w (fun e w' => (∃ r : Bool, e = .returned (.bool r) ∧ (r = true ↔ RightP L 8)) ∧ Below w.heap.size w w') := by
  by_cases hl : L.length ≤ 256
  · have hl' : (L.length : Int) ≤ 256 := by omega
    have hR := Lib.hid (show RightP L 8 ↔ ∀ x ∈ L, x.length = 32 from ⟨fun h => h.2.2.2.2, fun h => ⟨by omega, by omega, by omega, by show L.length ≤ 256; omega, h⟩⟩)
    go_enter Tryd.func12, Tryd.ntmps12
    go_wp2_with fail
    refine (containsFunc_calls A c L hL hx _ hs).mono ?_
    rintro e w1 ⟨⟨r, rfl, hr⟩, h1⟩
    replace hr := Lib.hid hr
    go_wp2_with fail
    go_ret
    refine ⟨⟨_, rfl, ?_⟩, h1⟩
    rw [hR.out, Bool.not_eq_true', ← Bool.not_eq_true, hr.out]
    constructor
    · intro h x hx1
      exact Classical.byContradiction fun hn => h ⟨x, hx1, hn⟩
    · rintro h ⟨x, hx1, hn⟩
      exact hn (h x hx1)
  · have hl' : ¬ (L.length : Int) ≤ 256 := by omega
    have hR := Lib.hid (show ¬ RightP L 8 from fun h => by have h1 := h.2.2.1; have h2 : L.length ≤ 256 := h.2.2.2.1; omega)
    go_enter Tryd.func12, Tryd.ntmps12
    go_wp2_with fail
    go_ret
    first | exact ⟨.inl ⟨rfl, hR.out⟩, Below.refl _ _⟩ | exact ⟨⟨false, rfl, by simp [hR.out]⟩, Below.refl _ _⟩
set_option maxRecDepth 100000 in
theorem right_at9 (A : Option Addr) (c : Nat) (L : List Bytes) (hL : L.length ≤ 9223372036854775807) (hx : ∀ x ∈ L, x.length ≤ 9223372036854775807) (w : World) (hs : Txts w A L) :
    Calls Tryd.prog 12 #[.slice A L.length c, .int .i64 9] w (fun e w' => (∃ r : Bool, e = .returned (.bool r) ∧ (r = true ↔ RightP L 9)) ∧ Below w.heap.size w w') := by
  by_cases hl : L.length ≤ 256
  · have hl' : (L.length : Int) ≤ 256 := by omega
    have hR := Lib.hid (show RightP L 9 ↔ ∀ x ∈ L, x.length = 32 from ⟨fun h => h.2.2.2.2, fun h => ⟨by omega, by omega, by omega, by show L.length ≤ 512; omega, h⟩⟩)
    go_enter Tryd.func12, Tryd.ntmps12
    go_wp2_with fail
    refine (containsFunc_calls A c L hL hx _ hs).mono ?_
    rintro e w1 ⟨⟨r, rfl, hr⟩, h1⟩
    replace hr := Lib.hid hr
    go_wp2_with fail
    go_ret
    refine ⟨⟨_, rfl, ?_⟩, h1⟩
    rw [hR.out, Bool.not_eq_true', ← Bool.not_eq_true, hr.out]
    constructor
    · intro h x hx1
      exact Classical.byContradiction fun hn => h ⟨x, hx1, hn⟩
    · rintro h ⟨x, hx1, hn⟩
      exact hn (h x hx1)
  · have hl' : ¬ (L.length : Int) ≤ 256 := by omega
    have hR := Lib.hid (show ¬ RightP L 9 from fun h => by have h1 := h.2.2.1; have h2 : L.length ≤ 512 := h.2.2.2.1; omega)
    go_enter Tryd.func12, Tryd.ntmps12
    go_wp2_with fail
    go_ret
    first | exact ⟨.inl ⟨rfl, hR.out⟩, Below.refl _ _⟩ | exact ⟨⟨false, rfl, by simp [hR.out]⟩, Below.refl _ _⟩
set_option maxRecDepth 100000 in
theorem right_at10 (A : Option Addr) (c : Nat) (L : List Bytes) (hL : L.length ≤ 9223372036854775807) (hx : ∀ x ∈ L, x.length ≤ 9223372036854775807) (w : World) (hs : Txts w A L) :
    Calls Tryd.prog 12 #[.slice A L.length c, .int .i64 10] w (fun e w' => (∃ r : Bool, e = .returned (.bool r) ∧ (r = true ↔ RightP L 10)) ∧ Below w.heap.size w w') := by
  by_cases hl : L.length ≤ 256
  · have hl' : (L.length : Int) ≤ 256 := by omega
    have hR := Lib.hid (show RightP L 10 ↔ ∀ x ∈ L, x.length = 32 from ⟨fun h => h.2.2.2.2, fun h => ⟨by omega, by omega, by omega, by show L.length ≤ 1024; omega, h⟩⟩)
    go_enter Tryd.func12, Tryd.ntmps12
    go_wp2_with fail
    refine (containsFunc_calls A c L hL hx _ hs).mono ?_
    rintro e w1 ⟨⟨r, rfl, hr⟩, h1⟩
    replace hr := Lib.hid hr
    go_wp2_with fail
    go_ret
    refine ⟨⟨_, rfl, ?_⟩, h1⟩
    rw [hR.out, Bool.not_eq_true', ← Bool.not_eq_true, hr.out]
    constructor
    · intro h x hx1
      exact Classical.byContradiction fun hn => h ⟨x, hx1, hn⟩
    · rintro h ⟨x, hx1, hn⟩
      exact hn (h x hx1)
  · have hl' : ¬ (L.length : Int) ≤ 256 := by omega
    have hR := Lib.hid (show ¬ RightP L 10 from fun h => by have h1 := h.2.2.1; have h2 : L.length ≤ 1024 := h.2.2.2.1; omega)
    go_enter Tryd.func12, Tryd.ntmps12
    go_wp2_with fail
    go_ret
    first | exact ⟨.inl ⟨rfl, hR.out⟩, Below.refl _ _⟩ | exact ⟨⟨false, rfl, by simp [hR.out]⟩, Below.refl _ _⟩
set_option maxRecDepth 100000 in
theorem right_calls (A : Option Addr) (c : Nat) (L : List Bytes) (d : Int) (hL : L.length ≤ 9223372036854775807) (hx : ∀ x ∈ L, x.length ≤ 9223372036854775807) (w : World) (hs : Txts w A L) :
    Calls Tryd.prog 12 #[.slice A L.length c, .int .i64 d] w (fun e w' => (∃ r : Bool, e = .returned (.bool r) ∧ (r = true ↔ RightP L d)) ∧ Below w.heap.size w w') := by
  by_cases h0 : 0 ≤ d
  · by_cases h10 : d ≤ 10
    · have hd : d = 0 ∨ d = 1 ∨ d = 2 ∨ d = 3 ∨ d = 4 ∨ d = 5 ∨ d = 6 ∨ d = 7 ∨ d = 8 ∨ d = 9 ∨ d = 10 := by omega
      rcases hd with rfl | rfl | rfl | rfl | rfl | rfl | rfl | rfl | rfl | rfl | rfl
      · exact right_at0 A c L hL hx w hs
      · exact right_at1 A c L hL hx w hs
      · exact right_at2 A c L hL hx w hs
      · exact right_at3 A c L hL hx w hs
      · exact right_at4 A c L hL hx w hs
      · exact right_at5 A c L hL hx w hs
      · exact right_at6 A c L hL hx w hs
      · exact right_at7 A c L hL hx w hs
      · exact right_at8 A c L hL hx w hs
      · exact right_at9 A c L hL hx w hs
      · exact right_at10 A c L hL hx w hs
    · have hR := Lib.hid (show ¬ RightP L d from fun h => h10 h.2.1)
      go_enter Tryd.func12, Tryd.ntmps12
      go_wp2_with fail
      go_ret
      first | exact ⟨.inl ⟨rfl, hR.out⟩, Below.refl _ _⟩ | exact ⟨⟨false, rfl, by simp [hR.out]⟩, Below.refl _ _⟩
  · have hR := Lib.hid (show ¬ RightP L d from fun h => h0 h.1)
    go_enter Tryd.func12, Tryd.ntmps12
    go_wp2_with fail
    go_ret
    first | exact ⟨.inl ⟨rfl, hR.out⟩, Below.refl _ _⟩ | exact ⟨⟨false, rfl, by simp [hR.out]⟩, Below.refl _ _⟩
end Go.Proofs.YthflonnkmkjddaaDoor
end
section
namespace Go.Phx

/-- what stands at a place of a level -/
def nodeP (c : List Bytes) (k i : Nat) : Bytes := atP (levP c k) (zeroH k) i
theorem rootP_node (c : List Bytes) (d : Nat) : rootP c d = nodeP c d 0 := rfl
theorem evenUp_at (z : Bytes) (l : List Bytes) (m : Nat) (h : m < (evenUp z l).length) : (evenUp z l).getD m [] = atP l z m := by
  unfold atP
  have h2 := evenUp_len z l
  unfold evenUp at h h2 ⊢
  split at h
  · rename_i ho
    rw [if_pos ho] at h2 ⊢
    by_cases hm : m < l.length
    · rw [List.getD, List.getD, List.getElem?_append_left hm, List.getElem?_eq_getElem hm]
      rfl
    · rw [List.length_append, List.length_singleton] at h
      obtain rfl : m = l.length := by omega
      rw [List.getD, List.getD, List.getElem?_append_right (Nat.le_refl _), Nat.sub_self, List.getElem?_eq_none (Nat.le_refl _)]
      rfl
  · rename_i ho
    rw [if_neg ho]
    rw [List.getD, List.getD, List.getElem?_eq_getElem h]
    rfl
theorem node_succ (c : List Bytes) (k j : Nat) : nodeP c (k + 1) j = sha (nodeP c k (2 * j) ++ nodeP c k (2 * j + 1)) := by
  unfold nodeP
  have hl := levP_len_succ c k
  have he := evenUp_len (zeroH k) (levP c k)
  by_cases h : j < ((levP c k).length + 1) / 2
  · rw [← evenUp_at _ _ _ (show 2 * j < (evenUp (zeroH k) (levP c k)).length by omega), ← evenUp_at _ _ _ (show 2 * j + 1 < (evenUp (zeroH k) (levP c k)).length by omega), ← pairUp_at _ _ (by omega)]
    unfold atP
    rw [levP] at hl ⊢
    rw [List.getD, List.getD, List.getElem?_eq_getElem (by omega)]
    rfl
  · unfold atP
    rw [List.getD, List.getD, List.getD, List.getElem?_eq_none (by omega), List.getElem?_eq_none (by omega), List.getElem?_eq_none (by omega)]
    rfl
theorem node_len (c : List Bytes) (hc : ∀ x ∈ c, x.length = 32) : ∀ k i, (nodeP c k i).length = 32
  | 0, i => by
    unfold nodeP atP levP
    by_cases h : i < c.length
    · rw [List.getD, List.getElem?_eq_getElem h]
      exact hc _ (List.getElem_mem h)
    · rw [List.getD, List.getElem?_eq_none (by omega)]
      rfl
  | k + 1, i => by rw [node_succ]; exact sha_len _
theorem xor_one (m : Nat) : (m % 2 = 1 → m ^^^ 1 = 2 * (m / 2)) ∧ (m % 2 = 0 → m ^^^ 1 = 2 * (m / 2) + 1) := by
  have h1 : (m ^^^ 1) / 2 = m / 2 := by rw [Nat.xor_div_two]; simp
  have h2 : (m ^^^ 1) % 2 = 1 ↔ ¬ m % 2 = 1 := by rw [Nat.xor_mod_two_eq_one]; simp
  omega
theorem wayP_snoc' : ∀ (r : List Bytes) (x s : Bytes) (i : Nat), wayP x (r ++ [s]) i = if i / 2 ^ r.length % 2 = 1 then sha (s ++ wayP x r i) else sha (wayP x r i ++ s)
  | [], x, s, i => by simp [wayP]
  | t :: r, x, s, i => by
    simp only [List.cons_append, wayP]
    rw [wayP_snoc' r _ s (i / 2), List.length_cons, Nat.pow_succ, Nat.div_div_eq_div_mul, Nat.mul_comm 2]
theorem branchP_len (c : List Bytes) (i d : Nat) : (branchP c i d).length = d := by simp [branchP]
theorem branchP_succ (c : List Bytes) (i d : Nat) : branchP c i (d + 1) = branchP c i d ++ [nodeP c d ((i / 2 ^ d) ^^^ 1)] := by
  unfold branchP
  rw [List.range_succ, List.map_append]
  rfl
/-- halves -/
theorem node_take (c : List Bytes) (d : Nat) : ∀ k i, k ≤ d → i < 2 ^ (d - k) → nodeP (c.take (2 ^ d)) k i = nodeP c k i
  | 0, i, _, hi => by
    unfold nodeP atP levP
    rw [Nat.sub_zero] at hi
    rw [List.getD, List.getD, List.getElem?_take_of_lt hi]
  | k + 1, i, hk, hi => by
    have e2 : 2 ^ (d - k) = 2 * 2 ^ (d - (k + 1)) := by rw [show d - k = (d - (k + 1)) + 1 by omega, Nat.pow_succ]; omega
    rw [node_succ, node_succ, node_take c d k _ (by omega) (by omega), node_take c d k _ (by omega) (by omega)]
theorem node_drop (c : List Bytes) (d : Nat) : ∀ k i, k ≤ d → nodeP (c.drop (2 ^ d)) k i = nodeP c k (i + 2 ^ (d - k))
  | 0, i, _ => by
    unfold nodeP atP levP
    rw [List.getD, List.getD, List.getElem?_drop, Nat.sub_zero, Nat.add_comm]
  | k + 1, i, hk => by
    have e2 : 2 ^ (d - k) = 2 * 2 ^ (d - (k + 1)) := by rw [show d - k = (d - (k + 1)) + 1 by omega, Nat.pow_succ]; omega
    rw [node_succ, node_succ, node_drop c d k _ (by omega), node_drop c d k _ (by omega), e2]
    rw [show 2 * (i + 2 ^ (d - (k + 1))) = 2 * i + 2 * 2 ^ (d - (k + 1)) by omega, show 2 * i + 2 * 2 ^ (d - (k + 1)) + 1 = 2 * i + 1 + 2 * 2 ^ (d - (k + 1)) by omega]
theorem root_halves (c : List Bytes) (d : Nat) : rootP c (d + 1) = sha (rootP (c.take (2 ^ d)) d ++ rootP (c.drop (2 ^ d)) d) := by
  rw [rootP_node, rootP_node, rootP_node, node_succ, node_take c d d 0 (Nat.le_refl _) (by simp), node_drop c d d 0 (Nat.le_refl _)]
  simp
/-- noughts behind change nothing -/
theorem node_more (c : List Bytes) : ∀ k i, nodeP (c ++ [zero32]) k i = nodeP c k i
  | 0, i => by
    unfold nodeP atP levP zeroH
    by_cases h : i < c.length
    · rw [List.getD, List.getD, List.getElem?_append_left h]
    · rw [List.getD, List.getD, List.getElem?_append_right (by omega), List.getElem?_eq_none (l := c) (by omega)]
      cases i - c.length <;> rfl
  | k + 1, i => by rw [node_succ, node_succ, node_more c k, node_more c k]
theorem root_more (c : List Bytes) (d : Nat) : rootP (c ++ [zero32]) d = rootP c d := node_more c d 0

/-- does a branch check? -/
def CheckP (x : Bytes) (r : List Bytes) (i : Nat) (root : Bytes) : Prop := r.length ≤ 64 ∧ x.length = 32 ∧ root.length = 32 ∧ i < 2 ^ r.length ∧ (∀ s ∈ r, s.length = 32) ∧ wayP x r i = root
instance instCheckP (x : Bytes) (r : List Bytes) (i : Nat) (root : Bytes) : Decidable (CheckP x r i root) := by unfold CheckP; infer_instance

/-- a chunk of bytes -/
def chunkP (s : Bytes) (i : Nat) : Bytes := (s.drop (32 * i)).take 32 ++ List.replicate (32 - ((s.drop (32 * i)).take 32).length) 0
/-- so many chunks of bytes -/
def packN (s : Bytes) (n : Nat) : List Bytes := (List.range n).map (chunkP s)
/-- bytes as chunks -/
def packP (s : Bytes) : List Bytes := packN s ((s.length + 31) / 32)
theorem packN_succ (s : Bytes) (n : Nat) : packN s (n + 1) = packN s n ++ [chunkP s n] := by simp [packN, List.range_succ]
theorem packN_len (s : Bytes) (n : Nat) : (packN s n).length = n := by simp [packN]
theorem chunk_zero (m i : Nat) : chunkP (List.replicate m 0) i = zero32 := by
  unfold chunkP zero32
  rw [List.drop_replicate, List.take_replicate, List.length_replicate, List.replicate_append_replicate]
  congr 1
  omega
theorem pack_zeros (m : Nat) : packP (List.replicate m 0) = List.replicate ((m + 31) / 32) zero32 := by
  unfold packP packN
  rw [List.length_replicate]
  apply List.ext_getElem
  · simp
  · intro i h1 h2
    simp only [List.getElem_map, List.getElem_range, List.getElem_replicate]
    exact chunk_zero _ _
end Go.Phx
end
section
set_option linter.unusedSimpArgs false
set_option linter.unusedVariables false
namespace Go.Proofs.YthflonnkmkjddaaDoor
open BigFrame Go.RowKit Go.Phx Go.Shelf
attribute [local go_sem] Oper.semAt_some

instance instRightP (L : List Bytes) (d : Int) : Decidable (RightP L d) := by unfold RightP; infer_instance
def rootV (L : List Bytes) (d : Int) : Value := if RightP L d then .tuple #[.string (bs (rootP L d.toNat)), .int .i64 0] else .tuple #[.string { data := #[] }, .int .i64 80]
/-- what the root's variable holds behind so many levels -/
def rootI (c : List Bytes) : Nat → Bytes
  | 0 => []
  | k + 1 => nodeP c k 0
theorem levKp_grown {b : Nat} {x : Value} {W W' : World} {r : Option Nat} (hg : W.grownBy W' r) (h0 : r ≠ some b) (h1 : r ≠ some (b + 1)) (h2 : ∀ j, r = some j → x.ownBlock ≠ some j) (h3 : r ≠ some 0) : LevKp b x W W' := by
  refine ⟨hg.size, fun h => h.grown hg (fun e => h3 e.symm), fun j hj cs t fz hx => (hg.block j (Array.getElem?_eq_some_iff.1 hx).1 fun e => ?_).trans hx⟩
  rcases hj with rfl | rfl | hj
  · exact h0 e.symm
  · exact h1 e.symm
  · exact h2 j e.symm hj
theorem levKp_below {b : Nat} {x : Value} {W W' : World} (hB : Below W.heap.size W W') : LevKp b x W W' :=
  levKp_grown (r := none) ⟨hB.os, hB.tape, hB.output, hB.size, fun j hj _ => hB.block j hj⟩ (by simp) (by simp) (by simp) (by simp)
theorem levAt_own {base : Nat} {c : List Bytes} {d : Nat} {pre : List (Value × Bytes)} {y : Value × Bytes} {x : Value} {W : World} (h : LevAt base c d pre y x W) : ∀ j, x.ownBlock = some j → base ≤ j ∧ j < W.heap.size := fun j hj => h.2.2.2.lt j hj
set_option maxRecDepth 100000 in
set_option maxHeartbeats 8000000 in
theorem root_yes (A : Option Addr) (c : Nat) (L : List Bytes) (d : Nat) (hR : RightP L d) (w : World) (hk : HasK w) (hs : Txts w A L) :
    Calls Tryd.prog 5 #[.slice A L.length c, .int .i64 d] w (Ret w (.tuple #[.string (bs (rootP L d)), .int .i64 0])) := by
  have hL : L.length ≤ 256 := hR.2.2.1
  have hd : d ≤ 10 := by have := hR.2.1; omega
  have hall := hR.2.2.2.2
  have hx : ∀ x ∈ L, x.length ≤ 9223372036854775807 := fun x h => by have := hall x h; omega
  refine (callsIn_wide (n := 9)).1 ?_
  have hwf : ∀ f, Fence.wide.fn f := fun _ => trivial
  replace hR := Lib.hid hR
  refine callsIn_of_wp_marks Tryd.func5 rfl trivial ?_ rfl
  simp only [Tryd.ntmps5, List.size_toArray, List.length_cons, List.length_nil, Nat.reduceAdd, Nat.reduceSub, Array.replicate_succ, Array.replicate_zero, List.push_toArray, List.append_toArray, List.nil_append, List.cons_append]
  gi_wp2_with fail
  refine (callsIn_wide.2 (right_calls A c L d (by omega) hx _ hs)).mono ?_
  rintro e w1 ⟨⟨r, rfl, hr⟩, hB1⟩
  obtain rfl : r = true := hr.2 hR.out
  have hs1 := Txts.below hs hB1
  have hk1 := hk.on hB1
  clear hr hs hk hx
  gi_wp2_with (gi_at_call 13; refine (levels_in _ _ _ _ _ _).mono ?_; rintro e w' ⟨rfl, rfl⟩)
  obtain ⟨ro, hro⟩ : ∃ ro, w1.heap.size = ro := ⟨_, rfl⟩
  obtain ⟨W0, hW0⟩ : ∃ W0, ((w1.alloc (.cells #[.string { data := #[] }] 9)).alloc (.cells #[.slice A L.length c] 22)).alloc (.cells #[.int .i64 d] 3) = W0 := ⟨_, rfl⟩
  have hwr : w.heap.size ≤ ro := by rw [← hro]; exact hB1.size
  have hs0 : W0.heap.size = ro + 3 := by rw [← hW0]; simp [hro]
  have KR : Blk W0 ro 9 #[.string (bs [])] := by rw [← hW0, ← hro]; exact ((Blk.new0 _ _ _).alloc _).alloc _
  have KA : Blk W0 (ro + 1) 22 #[.slice A L.length c] := by rw [← hW0, ← hro]; exact (Blk.new1 _ _ _ _).alloc _
  have KC : Blk W0 (ro + 2) 3 #[.int .i64 d] := by rw [← hW0, ← hro]; exact Blk.new2 _ _ _ _ _
  have hB10 : Below w1.heap.size w1 W0 := by rw [← hW0]; exact (by repeat (first | assumption | exact Below.refl _ _ | refine Below.setCell ?_ (by first | exact Nat.le_refl _ | (simp; done) | omega | (simp; omega)) _ | refine Below.alloc ?_ (by first | exact Nat.le_refl _ | (simp; done) | omega | (simp; omega)) _ | refine below_drewN ?_ _ | refine Below.drew ?_ | refine Below.on (by assumption) ?_ | refine Below.via (by assumption) (by first | exact Nat.le_refl _ | (simp; done) | omega | (simp; omega)) ?_))
  have hB0 : Below w.heap.size w W0 := Below.on hB10 hB1
  have hs2 := Txts.below hs1 hB10
  have hk2 := hk1.on hB10
  have hkr : 0 < ro := by rw [← hro]; exact hk1.2
  simp only [hro, World.size_alloc]
  rw [hW0]
  clear hW0 hB10 hs1 hk1 hB1 hro
  have hf := enters_of Tryd.func22 (by kernel_rfl) rfl
  refine wpIn_rangeFunc_st rfl (by decide) (gf := 22) (lb := #[.pointer (some ⟨ro + 1, 0, none⟩), .pointer (some ⟨ro + 2, 0, none⟩)]) rfl trivial hf
    (levels_stops 8 (by decide) (ro + 1) A c L d (by omega) hall hd W0 hk2 hs2 KA KC) (fun _ => rfl) (fun _ _ _ _ h k => h.trans k) (fun x W l o o' hl h1 h2 h3 => levKp_put W0 (ro + 1) (by omega) x W l o o' hl h1 h2)
    (fun x A y B k o hab hkk hA ho _ => levAb_keeps _ x A y B k o hab hA ho)
    (fun pre y x W l o o' h _ h1 h2 => levAt_put _ _ _ pre y x W l o o' h h1 h2)
    (fun pre _ W => Blk W ro 9 #[.string (bs (rootI L pre.length))] ∧ Below w.heap.size w W) (fun _ _ _ _ => False)
    (fun _ s A B row h hg hr => ?own) (fun _ _ _ _ _ _ h _ _ => h)
    (fun s x A y B h hab => ?step) (fun _ _ _ _ _ _ h _ => h) ⟨KR, hB0⟩
    (fun y => { tmps := #[.slice A L.length c, .int .i64 d, undef, undef, .string { data := #[] }, .int .i64 0, .pointer (some ⟨ro, 0, none⟩), y.1, .string (bs y.2), .slice A L.length c, .int .i64 d, .bool true, .bool false, .slice A L.length c, .int .i64 d,
      .func (.func 22) #[] #[.pointer (some ⟨ro + 1, 0, none⟩), .pointer (some ⟨ro + 2, 0, none⟩)], y.1, .string (bs y.2), undef, undef, undef, undef], defers := [] })
    ?assign ?body ?done ?stop
  case own =>
    obtain ⟨h1, h3⟩ := h
    have hne : ∀ r, row = some r → W0.heap.size ≤ r := fun r e => (hr r e).1
    exact ⟨h1.grown hg (fun e => by have := hne _ e.symm; omega), h3.grown hg h3.size (fun k e => by have := hne k e; omega)⟩
  case step =>
    obtain ⟨h1, h3⟩ := h
    have hne : ∀ r, x.ownBlock = some r → W0.heap.size ≤ r := fun r e => (hab.2.2 r e).1
    exact ⟨h1.grown hab.1 (fun e => by have := hne _ e.symm; omega), h3.grown hab.1 h3.size (fun k e => by have := hne k e; omega)⟩
  case assign =>
    intro l y W K hK
    gi_wp2
    exact hK
  case body =>
    rintro l pre y x W ⟨h1, h3⟩ hat
    have hown := levAt_own hat
    obtain ⟨e1, e2, e3, R⟩ := hat
    obtain ⟨A2, c2, hx, T⟩ := R.txts
    have hle := levP_le L pre.length
    have hn : atP (levP L pre.length) (zeroH pre.length) 0 = rootI L (pre.length + 1) := rfl
    rw [e1, e2, hx]
    clear R e1 e2
    have K1 := Lib.hid h1
    have H3 := Lib.hid h3
    have HN := Lib.hid hn
    clear h1 h3 hn
    generalize levP L pre.length = Lv at *
    generalize zeroH pre.length = z at *
    gi_wp2_with fail
    refine (CallsIn.inRound l (callsIn_wide.2 (by simpa using at_calls A2 c2 Lv z 0 (by omega) (by omega) W T))).mono ?_
    rintro e w2 ⟨rfl, hB2⟩
    rw [HN.out]
    have K2 := Lib.hid (K1.out.below hB2)
    (have k2 := Blk.cell K2.out; have f2 := Blk.free K2.out; have l2 := Blk.lt K2.out; have m2 := Nat.le_of_lt l2)
    have g2 : Below W.heap.size W (w2.setCell ⟨ro, 0, none⟩ (.string (bs (rootI L (pre.length + 1))))) → True := fun _ => trivial
    gi_wp2
    have hrW : ro < W.heap.size := K1.out.lt
    refine ⟨(KeepsOthers.below hB2).trans (KeepsOthers.setCell _ _ _), (levKp_below hB2).trans (levKp_grown (grown_set (World.grownBy.refl _ _)) (by first | (simp; done) | (simp; omega)) (by first | (simp; done) | (simp; omega)) (fun j hj e => ?_) (by first | (simp; done) | (simp; omega))), ?_, ?_⟩
    · cases hj
      have := (hown ro (by rw [hx]; exact e)).1
      omega
    · have := K2.out.set_ 0 (.string (bs (rootI L (pre.length + 1))))
      simpa using this
    · exact (H3.out.trans (hB2.mono H3.out.size)).setCell (by simp; omega) _
  case done =>
    rintro D xs x W hD hxs ⟨h1, h3⟩ hK
    rw [hxs] at h1
    have K1 := Lib.hid h1
    have hKD := Lib.hid hK
    have H3 := Lib.hid h3
    clear h1 h3 hK
    (have k1 := Blk.cell K1.out; have f1 := Blk.free K1.out; have l1 := Blk.lt K1.out; have m1 := Nat.le_of_lt l1)
    gi_wp2
    refine ⟨by simp, .inl ⟨_, _, rfl, run_takeDeferred hKD.out, ?_⟩⟩
    exact ⟨.tuple #[.string (bs (rootP L d)), .int .i64 0], by simp [results, Tryd.results5, go_sem]; rfl, rfl, below_shut H3.out (Nat.le_refl _) (by omega)⟩
  case stop =>
    rintro D c pre x W _ _ h _
    exact h.elim
set_option maxRecDepth 100000 in
theorem zroot_no (A : Option Addr) (c : Nat) (L : List Bytes) (d : Int) (hR : ¬ RightP L d) (hL : L.length ≤ 9223372036854775807) (hx : ∀ x ∈ L, x.length ≤ 9223372036854775807) (w : World) (hs : Txts w A L) :
    Calls Tryd.prog 5 #[.slice A L.length c, .int .i64 d] w (Ret w (.tuple #[.string { data := #[] }, .int .i64 80])) := by
  replace hR := Lib.hid hR
  go_enter Tryd.func5, Tryd.ntmps5
  go_wp2_with fail
  refine (right_calls A c L d hL hx _ hs).mono ?_
  rintro e w1 ⟨⟨r, rfl, hr⟩, hB1⟩
  obtain rfl : r = false := by
    cases r
    · rfl
    · exact absurd (hr.1 rfl) hR.out
  clear hr hx
  go_wp2_with fail
  go_ret2
  exact ⟨rfl, hB1⟩
theorem zroot_calls (A : Option Addr) (c : Nat) (L : List Bytes) (d : Int) (hL : L.length ≤ 9223372036854775807) (hx : ∀ x ∈ L, x.length ≤ 9223372036854775807) (w : World) (hk : HasK w) (hs : Txts w A L) :
    Calls Tryd.prog 5 #[.slice A L.length c, .int .i64 d] w (Ret w (rootV L d)) := by
  by_cases hR : RightP L d
  · have e : ((d.toNat : Nat) : Int) = d := Int.toNat_of_nonneg hR.1
    have := root_yes A c L d.toNat (by rw [e]; exact hR) w hk hs
    rw [e] at this
    unfold rootV
    rw [if_pos hR]
    exact this
  · unfold rootV
    rw [if_neg hR]
    exact zroot_no A c L d hR hL hx w hs
end Go.Proofs.YthflonnkmkjddaaDoor
end
