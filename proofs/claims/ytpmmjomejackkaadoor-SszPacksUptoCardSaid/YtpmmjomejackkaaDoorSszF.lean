/- Are chunks ones of a tree of a depth? By the program: its walk at each depth. -/
import Derived.Test.YtpmmjomejackkaaDoorSszE
set_option linter.unusedSimpArgs false
set_option linter.unusedVariables false
namespace Go.Proofs.YtpmmjomejackkaaDoor
open BigFrame Go.RowKit Go.Phx Go.Shelf
attribute [local go_sem] Oper.semAt_some

/-- are chunks ones of a tree of a depth? -/
def RightP (L : List Bytes) (d : Int) : Prop := 0 ≤ d ∧ d ≤ 10 ∧ L.length ≤ 256 ∧ L.length ≤ 2 ^ d.toNat ∧ ∀ x ∈ L, x.length = 32
set_option maxRecDepth 100000 in
theorem right_at0 (A : Option Addr) (c : Nat) (L : List Bytes) (hL : L.length ≤ 9223372036854775807) (hx : ∀ x ∈ L, x.length ≤ 9223372036854775807) (w : World) (hs : Txts w A L) :
    Calls Tryd.prog 68 #[.slice A L.length c, .int .i64 0] w (fun e w' => (∃ r : Bool, e = .returned (.bool r) ∧ (r = true ↔ RightP L 0)) ∧ Below w.heap.size w w') := by
  by_cases hl : L.length ≤ 1
  · have hl' : (L.length : Int) ≤ 1 := by omega
    have hR := Lib.hid (show RightP L 0 ↔ ∀ x ∈ L, x.length = 32 from ⟨fun h => h.2.2.2.2, fun h => ⟨by omega, by omega, by omega, by show L.length ≤ 1; omega, h⟩⟩)
    go_enter Tryd.func68, Tryd.ntmps68
    go_wp2_with fail
    refine (containsFunc_calls A c L hL hx _ hs).mono ?_
    rintro e w1 ⟨⟨r, rfl, hr⟩, h1⟩
    replace hr := Lib.hid hr
    go_wp2_with fail
    go_ret
    refine ⟨⟨_, rfl, ?_⟩, h1⟩
    rw [hR.out, Bool.not_eq_true', ← Bool.not_eq_true, hr.out]
    constructor
    · intro h x hx1
      exact Classical.byContradiction fun hn => h ⟨x, hx1, hn⟩
    · rintro h ⟨x, hx1, hn⟩
      exact hn (h x hx1)
  · have hl' : ¬ (L.length : Int) ≤ 1 := by omega
    have hR := Lib.hid (show ¬ RightP L 0 from fun h => by have h1 := h.2.2.1; have h2 : L.length ≤ 1 := h.2.2.2.1; omega)
    go_enter Tryd.func68, Tryd.ntmps68
    go_wp2_with fail
    go_ret
    first | exact ⟨.inl ⟨rfl, hR.out⟩, Below.refl _ _⟩ | exact ⟨⟨false, rfl, by simp [hR.out]⟩, Below.refl _ _⟩
set_option maxRecDepth 100000 in
theorem right_at1 (A : Option Addr) (c : Nat) (L : List Bytes) (hL : L.length ≤ 9223372036854775807) (hx : ∀ x ∈ L, x.length ≤ 9223372036854775807) (w : World) (hs : Txts w A L) :
    Calls Tryd.prog 68 #[.slice A L.length c, .int .i64 1] w (fun e w' => (∃ r : Bool, e = .returned (.bool r) ∧ (r = true ↔ RightP L 1)) ∧ Below w.heap.size w w') := by
  by_cases hl : L.length ≤ 2
  · have hl' : (L.length : Int) ≤ 2 := by omega
    have hR := Lib.hid (show RightP L 1 ↔ ∀ x ∈ L, x.length = 32 from ⟨fun h => h.2.2.2.2, fun h => ⟨by omega, by omega, by omega, by show L.length ≤ 2; omega, h⟩⟩)
    go_enter Tryd.func68, Tryd.ntmps68
    go_wp2_with fail
    refine (containsFunc_calls A c L hL hx _ hs).mono ?_
    rintro e w1 ⟨⟨r, rfl, hr⟩, h1⟩
    replace hr := Lib.hid hr
    go_wp2_with fail
    go_ret
    refine ⟨⟨_, rfl, ?_⟩, h1⟩
    rw [hR.out, Bool.not_eq_true', ← Bool.not_eq_true, hr.out]
    constructor
    · intro h x hx1
      exact Classical.byContradiction fun hn => h ⟨x, hx1, hn⟩
    · rintro h ⟨x, hx1, hn⟩
      exact hn (h x hx1)
  · have hl' : ¬ (L.length : Int) ≤ 2 := by omega
    have hR := Lib.hid (show ¬ RightP L 1 from fun h => by have h1 := h.2.2.1; have h2 : L.length ≤ 2 := h.2.2.2.1; omega)
    go_enter Tryd.func68, Tryd.ntmps68
    go_wp2_with fail
    go_ret
    first | exact ⟨.inl ⟨rfl, hR.out⟩, Below.refl _ _⟩ | exact ⟨⟨false, rfl, by simp [hR.out]⟩, Below.refl _ _⟩
set_option maxRecDepth 100000 in
theorem right_at2 (A : Option Addr) (c : Nat) (L : List Bytes) (hL : L.length ≤ 9223372036854775807) (hx : ∀ x ∈ L, x.length ≤ 9223372036854775807) (w : World) (hs : Txts w A L) :
    Calls Tryd.prog 68 #[.slice A L.length c, .int .i64 2] w (fun e w' => (∃ r : Bool, e = .returned (.bool r) ∧ (r = true ↔ RightP L 2)) ∧ Below w.heap.size w w') := by
  by_cases hl : L.length ≤ 4
  · have hl' : (L.length : Int) ≤ 4 := by omega
    have hR := Lib.hid (show RightP L 2 ↔ ∀ x ∈ L, x.length = 32 from ⟨fun h => h.2.2.2.2, fun h => ⟨by omega, by omega, by omega, by show L.length ≤ 4; omega, h⟩⟩)
    go_enter Tryd.func68, Tryd.ntmps68
    go_wp2_with fail
    refine (containsFunc_calls A c L hL hx _ hs).mono ?_
    rintro e w1 ⟨⟨r, rfl, hr⟩, h1⟩
    replace hr := Lib.hid hr
    go_wp2_with fail
    go_ret
    refine ⟨⟨_, rfl, ?_⟩, h1⟩
    rw [hR.out, Bool.not_eq_true', ← Bool.not_eq_true, hr.out]
    constructor
    · intro h x hx1
      exact Classical.byContradiction fun hn => h ⟨x, hx1, hn⟩
    · rintro h ⟨x, hx1, hn⟩
      exact hn (h x hx1)
  · have hl' : ¬ (L.length : Int) ≤ 4 := by omega
    have hR := Lib.hid (show ¬ RightP L 2 from fun h => by have h1 := h.2.2.1; have h2 : L.length ≤ 4 := h.2.2.2.1; omega)
    go_enter Tryd.func68, Tryd.ntmps68
    go_wp2_with fail
    go_ret
    first | exact ⟨.inl ⟨rfl, hR.out⟩, Below.refl _ _⟩ | exact ⟨⟨false, rfl, by simp [hR.out]⟩, Below.refl _ _⟩
set_option maxRecDepth 100000 in
theorem right_at3 (A : Option Addr) (c : Nat) (L : List Bytes) (hL : L.length ≤ 9223372036854775807) (hx : ∀ x ∈ L, x.length ≤ 9223372036854775807) (w : World) (hs : Txts w A L) :
    Calls Tryd.prog 68 #[.slice A L.length c, .int .i64 3] w (fun e w' => (∃ r : Bool, e = .returned (.bool r) ∧ (r = true ↔ RightP L 3)) ∧ Below w.heap.size w w') := by
  by_cases hl : L.length ≤ 8
  · have hl' : (L.length : Int) ≤ 8 := by omega
    have hR := Lib.hid (show RightP L 3 ↔ ∀ x ∈ L, x.length = 32 from ⟨fun h => h.2.2.2.2, fun h => ⟨by omega, by omega, by omega, by show L.length ≤ 8; omega, h⟩⟩)
    go_enter Tryd.func68, Tryd.ntmps68
    go_wp2_with fail
    refine (containsFunc_calls A c L hL hx _ hs).mono ?_
    rintro e w1 ⟨⟨r, rfl, hr⟩, h1⟩
    replace hr := Lib.hid hr
    go_wp2_with fail
    go_ret
    refine ⟨⟨_, rfl, ?_⟩, h1⟩
    rw [hR.out, Bool.not_eq_true', ← Bool.not_eq_true, hr.out]
    constructor
    · intro h x hx1
      exact Classical.byContradiction fun hn => h ⟨x, hx1, hn⟩
    · rintro h ⟨x, hx1, hn⟩
      exact hn (h x hx1)
  · have hl' : ¬ (L.length : Int) ≤ 8 := by omega
    have hR := Lib.hid (show ¬ RightP L 3 from fun h => by have h1 := h.2.2.1; have h2 : L.length ≤ 8 := h.2.2.2.1; omega)
    go_enter Tryd.func68, Tryd.ntmps68
    go_wp2_with fail
    go_ret
    first | exact ⟨.inl ⟨rfl, hR.out⟩, Below.refl _ _⟩ | exact ⟨⟨false, rfl, by simp [hR.out]⟩, Below.refl _ _⟩
set_option maxRecDepth 100000 in
theorem right_at4 (A : Option Addr) (c : Nat) (L : List Bytes) (hL : L.length ≤ 9223372036854775807) (hx : ∀ x ∈ L, x.length ≤ 9223372036854775807) (w : World) (hs : Txts w A L) :
    Calls Tryd.prog 68 #[.slice A L.length c, .int .i64 4] w (fun e w' => (∃ r : Bool, e = .returned (.bool r) ∧ (r = true ↔ RightP L 4)) ∧ Below w.heap.size w w') := by
  by_cases hl : L.length ≤ 16
  · have hl' : (L.length : Int) ≤ 16 := by omega
    have hR := Lib.hid (show RightP L 4 ↔ ∀ x ∈ L, x.length = 32 from ⟨fun h => h.2.2.2.2, fun h => ⟨by omega, by omega, by omega, by show L.length ≤ 16; omega, h⟩⟩)
    go_enter Tryd.func68, Tryd.ntmps68
    go_wp2_with fail
    refine (containsFunc_calls A c L hL hx _ hs).mono ?_
    rintro e w1 ⟨⟨r, rfl, hr⟩, h1⟩
    replace hr := Lib.hid hr
    go_wp2_with fail
    go_ret
    refine ⟨⟨_, rfl, ?_⟩, h1⟩
    rw [hR.out, Bool.not_eq_true', ← Bool.not_eq_true, hr.out]
    constructor
    · intro h x hx1
      exact Classical.byContradiction fun hn => h ⟨x, hx1, hn⟩
    · rintro h ⟨x, hx1, hn⟩
      exact hn (h x hx1)
  · have hl' : ¬ (L.length : Int) ≤ 16 := by omega
    have hR := Lib.hid (show ¬ RightP L 4 from fun h => by have h1 := h.2.2.1; have h2 : L.length ≤ 16 := h.2.2.2.1; omega)
    go_enter Tryd.func68, Tryd.ntmps68
    go_wp2_with fail
    go_ret
    first | exact ⟨.inl ⟨rfl, hR.out⟩, Below.refl _ _⟩ | exact ⟨⟨false, rfl, by simp [hR.out]⟩, Below.refl _ _⟩
set_option maxRecDepth 100000 in
theorem right_at5 (A : Option Addr) (c : Nat) (L : List Bytes) (hL : L.length ≤ 9223372036854775807) (hx : ∀ x ∈ L, x.length ≤ 9223372036854775807) (w : World) (hs : Txts w A L) :
    Calls Tryd.prog 68 #[.slice A L.length c, .int .i64 5] w (fun e w' => (∃ r : Bool, e = .returned (.bool r) ∧ (r = true ↔ RightP L 5)) ∧ Below w.heap.size w w') := by
  by_cases hl : L.length ≤ 32
  · have hl' : (L.length : Int) ≤ 32 := by omega
    have hR := Lib.hid (show RightP L 5 ↔ ∀ x ∈ L, x.length = 32 from ⟨fun h => h.2.2.2.2, fun h => ⟨by omega, by omega, by omega, by show L.length ≤ 32; omega, h⟩⟩)
    go_enter Tryd.func68, Tryd.ntmps68
    go_wp2_with fail
    refine (containsFunc_calls A c L hL hx _ hs).mono ?_
    rintro e w1 ⟨⟨r, rfl, hr⟩, h1⟩
    replace hr := Lib.hid hr
    go_wp2_with fail
    go_ret
    refine ⟨⟨_, rfl, ?_⟩, h1⟩
    rw [hR.out, Bool.not_eq_true', ← Bool.not_eq_true, hr.out]
    constructor
    · intro h x hx1
      exact Classical.byContradiction fun hn => h ⟨x, hx1, hn⟩
    · rintro h ⟨x, hx1, hn⟩
      exact hn (h x hx1)
  · have hl' : ¬ (L.length : Int) ≤ 32 := by omega
    have hR := Lib.hid (show ¬ RightP L 5 from fun h => by have h1 := h.2.2.1; have h2 : L.length ≤ 32 := h.2.2.2.1; omega)
    go_enter Tryd.func68, Tryd.ntmps68
    go_wp2_with fail
    go_ret
    first | exact ⟨.inl ⟨rfl, hR.out⟩, Below.refl _ _⟩ | exact ⟨⟨false, rfl, by simp [hR.out]⟩, Below.refl _ _⟩
set_option maxRecDepth 100000 in
theorem right_at6 (A : Option Addr) (c : Nat) (L : List Bytes) (hL : L.length ≤ 9223372036854775807) (hx : ∀ x ∈ L, x.length ≤ 9223372036854775807) (w : World) (hs : Txts w A L) :
    Calls Tryd.prog 68 #[.slice A L.length c, .int .i64 6] w (fun e w' => (∃ r : Bool, e = .returned (.bool r) ∧ (r = true ↔ RightP L 6)) ∧ Below w.heap.size w w') := by
  by_cases hl : L.length ≤ 64
  · have hl' : (L.length : Int) ≤ 64 := by omega
    have hR := Lib.hid (show RightP L 6 ↔ ∀ x ∈ L, x.length = 32 from ⟨fun h => h.2.2.2.2, fun h => ⟨by omega, by omega, by omega, by show L.length ≤ 64; omega, h⟩⟩)
    go_enter Tryd.func68, Tryd.ntmps68
    go_wp2_with fail
    refine (containsFunc_calls A c L hL hx _ hs).mono ?_
    rintro e w1 ⟨⟨r, rfl, hr⟩, h1⟩
    replace hr := Lib.hid hr
    go_wp2_with fail
    go_ret
    refine ⟨⟨_, rfl, ?_⟩, h1⟩
    rw [hR.out, Bool.not_eq_true', ← Bool.not_eq_true, hr.out]
    constructor
    · intro h x hx1
      exact Classical.byContradiction fun hn => h ⟨x, hx1, hn⟩
    · rintro h ⟨x, hx1, hn⟩
      exact hn (h x hx1)
  · have hl' : ¬ (L.length : Int) ≤ 64 := by omega
    have hR := Lib.hid (show ¬ RightP L 6 from fun h => by have h1 := h.2.2.1; have h2 : L.length ≤ 64 := h.2.2.2.1; omega)
    go_enter Tryd.func68, Tryd.ntmps68
    go_wp2_with fail
    go_ret
    first | exact ⟨.inl ⟨rfl, hR.out⟩, Below.refl _ _⟩ | exact ⟨⟨false, rfl, by simp [hR.out]⟩, Below.refl _ _⟩
set_option maxRecDepth 100000 in
theorem right_at7 (A : Option Addr) (c : Nat) (L : List Bytes) (hL : L.length ≤ 9223372036854775807) (hx : ∀ x ∈ L, x.length ≤ 9223372036854775807) (w : World) (hs : Txts w A L) :
    Calls Tryd.prog 68 #[.slice A L.length c, .int .i64 7] w (fun e w' => (∃ r : Bool, e = .returned (.bool r) ∧ (r = true ↔ RightP L 7)) ∧ Below w.heap.size w w') := by
  by_cases hl : L.length ≤ 128
  · have hl' : (L.length : Int) ≤ 128 := by omega
    have hR := Lib.hid (show RightP L 7 ↔ ∀ x ∈ L, x.length = 32 from ⟨fun h => h.2.2.2.2, fun h => ⟨by omega, by omega, by omega, by show L.length ≤ 128; omega, h⟩⟩)
    go_enter Tryd.func68, Tryd.ntmps68
    go_wp2_with fail
    refine (containsFunc_calls A c L hL hx _ hs).mono ?_
    rintro e w1 ⟨⟨r, rfl, hr⟩, h1⟩
    replace hr := Lib.hid hr
    go_wp2_with fail
    go_ret
    refine ⟨⟨_, rfl, ?_⟩, h1⟩
    rw [hR.out, Bool.not_eq_true', ← Bool.not_eq_true, hr.out]
    constructor
    · intro h x hx1
      exact Classical.byContradiction fun hn => h ⟨x, hx1, hn⟩
    · rintro h ⟨x, hx1, hn⟩
      exact hn (h x hx1)
  · have hl' : ¬ (L.length : Int) ≤ 128 := by omega
    have hR := Lib.hid (show ¬ RightP L 7 from fun h => by have h1 := h.2.2.1; have h2 : L.length ≤ 128 := h.2.2.2.1; omega)
    go_enter Tryd.func68, Tryd.ntmps68
    go_wp2_with fail
    go_ret
    first | exact ⟨.inl ⟨rfl, hR.out⟩, Below.refl _ _⟩ | exact ⟨⟨false, rfl, by simp [hR.out]⟩, Below.refl _ _⟩
set_option maxRecDepth 100000 in
theorem right_at8 (A : Option Addr) (c : Nat) (L : List Bytes) (hL : L.length ≤ 9223372036854775807) (hx : ∀ x ∈ L, x.length ≤ 9223372036854775807) (w : World) (hs : Txts w A L) :
    Calls Tryd.prog 68 #[.slice A L.length c, .int .i64 8] w (fun e w' => (∃ r : Bool, e = .returned (.bool r) ∧ (r = true ↔ RightP L 8)) ∧ Below w.heap.size w w') := by
  by_cases hl : L.length ≤ 256
  · have hl' : (L.length : Int) ≤ 256 := by omega
    have hR := Lib.hid (show RightP L 8 ↔ ∀ x ∈ L, x.length = 32 from ⟨fun h => h.2.2.2.2, fun h => ⟨by omega, by omega, by omega, by show L.length ≤ 256; omega, h⟩⟩)
    go_enter Tryd.func68, Tryd.ntmps68
    go_wp2_with fail
    refine (containsFunc_calls A c L hL hx _ hs).mono ?_
    rintro e w1 ⟨⟨r, rfl, hr⟩, h1⟩
    replace hr := Lib.hid hr
    go_wp2_with fail
    go_ret
    refine ⟨⟨_, rfl, ?_⟩, h1⟩
    rw [hR.out, Bool.not_eq_true', ← Bool.not_eq_true, hr.out]
    constructor
    · intro h x hx1
      exact Classical.byContradiction fun hn => h ⟨x, hx1, hn⟩
    · rintro h ⟨x, hx1, hn⟩
      exact hn (h x hx1)
  · have hl' : ¬ (L.length : Int) ≤ 256 := by omega
    have hR := Lib.hid (show ¬ RightP L 8 from fun h => by have h1 := h.2.2.1; have h2 : L.length ≤ 256 := h.2.2.2.1; omega)
    go_enter Tryd.func68, Tryd.ntmps68
    go_wp2_with fail
    go_ret
    first | exact ⟨.inl ⟨rfl, hR.out⟩, Below.refl _ _⟩ | exact ⟨⟨false, rfl, by simp [hR.out]⟩, Below.refl _ _⟩
set_option maxRecDepth 100000 in
theorem right_at9 (A : Option Addr) (c : Nat) (L : List Bytes) (hL : L.length ≤ 9223372036854775807) (hx : ∀ x ∈ L, x.length ≤ 9223372036854775807) (w : World) (hs : Txts w A L) :
    Calls Tryd.prog 68 #[.slice A L.length c, .int .i64 9] w (fun e w' => (∃ r : Bool, e = .returned (.bool r) ∧ (r = true ↔ RightP L 9)) ∧ Below w.heap.size w w') := by
  by_cases hl : L.length ≤ 256
  · have hl' : (L.length : Int) ≤ 256 := by omega
    have hR := Lib.hid (show RightP L 9 ↔ ∀ x ∈ L, x.length = 32 from ⟨fun h => h.2.2.2.2, fun h => ⟨by omega, by omega, by omega, by show L.length ≤ 512; omega, h⟩⟩)
    go_enter Tryd.func68, Tryd.ntmps68
    go_wp2_with fail
    refine (containsFunc_calls A c L hL hx _ hs).mono ?_
    rintro e w1 ⟨⟨r, rfl, hr⟩, h1⟩
    replace hr := Lib.hid hr
    go_wp2_with fail
    go_ret
    refine ⟨⟨_, rfl, ?_⟩, h1⟩
    rw [hR.out, Bool.not_eq_true', ← Bool.not_eq_true, hr.out]
    constructor
    · intro h x hx1
      exact Classical.byContradiction fun hn => h ⟨x, hx1, hn⟩
    · rintro h ⟨x, hx1, hn⟩
      exact hn (h x hx1)
  · have hl' : ¬ (L.length : Int) ≤ 256 := by omega
    have hR := Lib.hid (show ¬ RightP L 9 from fun h => by have h1 := h.2.2.1; have h2 : L.length ≤ 512 := h.2.2.2.1; omega)
    go_enter Tryd.func68, Tryd.ntmps68
    go_wp2_with fail
    go_ret
    first | exact ⟨.inl ⟨rfl, hR.out⟩, Below.refl _ _⟩ | exact ⟨⟨false, rfl, by simp [hR.out]⟩, Below.refl _ _⟩
set_option maxRecDepth 100000 in
theorem right_at10 (A : Option Addr) (c : Nat) (L : List Bytes) (hL : L.length ≤ 9223372036854775807) (hx : ∀ x ∈ L, x.length ≤ 9223372036854775807) (w : World) (hs : Txts w A L) :
    Calls Tryd.prog 68 #[.slice A L.length c, .int .i64 10] w (fun e w' => (∃ r : Bool, e = .returned (.bool r) ∧ (r = true ↔ RightP L 10)) ∧ Below w.heap.size w w') := by
  by_cases hl : L.length ≤ 256
  · have hl' : (L.length : Int) ≤ 256 := by omega
    have hR := Lib.hid (show RightP L 10 ↔ ∀ x ∈ L, x.length = 32 from ⟨fun h => h.2.2.2.2, fun h => ⟨by omega, by omega, by omega, by show L.length ≤ 1024; omega, h⟩⟩)
    go_enter Tryd.func68, Tryd.ntmps68
    go_wp2_with fail
    refine (containsFunc_calls A c L hL hx _ hs).mono ?_
    rintro e w1 ⟨⟨r, rfl, hr⟩, h1⟩
    replace hr := Lib.hid hr
    go_wp2_with fail
    go_ret
    refine ⟨⟨_, rfl, ?_⟩, h1⟩
    rw [hR.out, Bool.not_eq_true', ← Bool.not_eq_true, hr.out]
    constructor
    · intro h x hx1
      exact Classical.byContradiction fun hn => h ⟨x, hx1, hn⟩
    · rintro h ⟨x, hx1, hn⟩
      exact hn (h x hx1)
  · have hl' : ¬ (L.length : Int) ≤ 256 := by omega
    have hR := Lib.hid (show ¬ RightP L 10 from fun h => by have h1 := h.2.2.1; have h2 : L.length ≤ 1024 := h.2.2.2.1; omega)
    go_enter Tryd.func68, Tryd.ntmps68
    go_wp2_with fail
    go_ret
    first | exact ⟨.inl ⟨rfl, hR.out⟩, Below.refl _ _⟩ | exact ⟨⟨false, rfl, by simp [hR.out]⟩, Below.refl _ _⟩
set_option maxRecDepth 100000 in
theorem right_calls (A : Option Addr) (c : Nat) (L : List Bytes) (d : Int) (hL : L.length ≤ 9223372036854775807) (hx : ∀ x ∈ L, x.length ≤ 9223372036854775807) (w : World) (hs : Txts w A L) :
    Calls Tryd.prog 68 #[.slice A L.length c, .int .i64 d] w (fun e w' => (∃ r : Bool, e = .returned (.bool r) ∧ (r = true ↔ RightP L d)) ∧ Below w.heap.size w w') := by
  by_cases h0 : 0 ≤ d
  · by_cases h10 : d ≤ 10
    · have hd : d = 0 ∨ d = 1 ∨ d = 2 ∨ d = 3 ∨ d = 4 ∨ d = 5 ∨ d = 6 ∨ d = 7 ∨ d = 8 ∨ d = 9 ∨ d = 10 := by omega
      rcases hd with rfl | rfl | rfl | rfl | rfl | rfl | rfl | rfl | rfl | rfl | rfl
      · exact right_at0 A c L hL hx w hs
      · exact right_at1 A c L hL hx w hs
      · exact right_at2 A c L hL hx w hs
      · exact right_at3 A c L hL hx w hs
      · exact right_at4 A c L hL hx w hs
      · exact right_at5 A c L hL hx w hs
      · exact right_at6 A c L hL hx w hs
      · exact right_at7 A c L hL hx w hs
      · exact right_at8 A c L hL hx w hs
      · exact right_at9 A c L hL hx w hs
      · exact right_at10 A c L hL hx w hs
    · have hR := Lib.hid (show ¬ RightP L d from fun h => h10 h.2.1)
      go_enter Tryd.func68, Tryd.ntmps68
      go_wp2_with fail
      go_ret
      first | exact ⟨.inl ⟨rfl, hR.out⟩, Below.refl _ _⟩ | exact ⟨⟨false, rfl, by simp [hR.out]⟩, Below.refl _ _⟩
  · have hR := Lib.hid (show ¬ RightP L d from fun h => h0 h.1)
    go_enter Tryd.func68, Tryd.ntmps68
    go_wp2_with fail
    go_ret
    first | exact ⟨.inl ⟨rfl, hR.out⟩, Below.refl _ _⟩ | exact ⟨⟨false, rfl, by simp [hR.out]⟩, Below.refl _ _⟩
end Go.Proofs.YtpmmjomejackkaaDoor
