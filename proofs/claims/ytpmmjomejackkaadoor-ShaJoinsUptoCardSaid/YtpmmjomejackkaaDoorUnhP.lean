/- Digits as bytes, as plain functions on lists. No program in sight. -/
import Derived.Test.YtpmmjomejackkaaDoorHex
namespace Go.Proofs.YtpmmjomejackkaaDoor
open Go.Phx

/-- what a digit is worth; 16: it is none -/
def hv (c : UInt8) : Nat := if 48 ≤ c.toNat ∧ c.toNat ≤ 57 then c.toNat - 48 else if 97 ≤ c.toNat ∧ c.toNat ≤ 102 then c.toNat - 97 + 10 else 16
/-- digits as bytes, if they are ones -/
def unhexL : List UInt8 → Option (List UInt8)
  | [] => some []
  | [_] => none
  | a :: b :: r => if hv a < 16 ∧ hv b < 16 then (unhexL r).map (UInt8.ofNat (16 * hv a + hv b) :: ·) else none
theorem unhexL_app : ∀ (n : Nat) (a b : List UInt8), a.length = 2 * n → unhexL (a ++ b) = (unhexL a).bind fun p => (unhexL b).map (p ++ ·)
  | 0, a, b, h => by
    obtain rfl := List.eq_nil_of_length_eq_zero (by omega)
    simp [unhexL]
  | n + 1, [], b, h => by simp at h
  | n + 1, [x], b, h => by simp at h; omega
  | n + 1, x :: y :: r, b, h => by
    have ih := unhexL_app n r b (by simp at h; omega)
    simp only [List.cons_append, unhexL]
    split
    · rw [ih]
      cases unhexL r <;> cases unhexL b <;> simp
    · rfl
theorem unhexL_odd : ∀ (n : Nat) (a : List UInt8), a.length = 2 * n + 1 → unhexL a = none
  | 0, a, h => by
    match a, h with
    | [x], _ => rfl
  | n + 1, [], h => by simp at h
  | n + 1, [x], h => rfl
  | n + 1, x :: y :: r, h => by
    have ih := unhexL_odd n r (by simp at h; omega)
    simp only [unhexL]
    split
    · rw [ih]; rfl
    · rfl
theorem hv_dig : ∀ d : Nat, d < 16 → hv (dig d) = d := by decide +kernel
theorem unhex_hex (l : List UInt8) : unhexL (hexL l) = some l := by
  induction l with
  | nil => rfl
  | cons c l ih =>
    have hc := c.toNat_lt
    show unhexL (dig (c.toNat / 16) :: dig (c.toNat % 16) :: hexL l) = _
    simp only [unhexL]
    rw [hv_dig _ (by omega), hv_dig _ (by omega), if_pos ⟨by omega, by omega⟩, ih, show 16 * (c.toNat / 16) + c.toNat % 16 = c.toNat by omega]
    simp
theorem dig_hv' : ∀ n : Nat, n < 256 → hv (UInt8.ofNat n) < 16 → dig (hv (UInt8.ofNat n)) = UInt8.ofNat n := by decide +kernel
theorem dig_hv (c : UInt8) (h : hv c < 16) : dig (hv c) = c := by
  have := dig_hv' c.toNat c.toNat_lt (by simpa using h)
  simpa using this
theorem hex_unhex : ∀ (n : Nat) (l p : List UInt8), l.length ≤ 2 * n + 1 → unhexL l = some p → hexL p = l
  | _, [], p, _, h => by
    simp only [unhexL, Option.some.injEq] at h
    subst h
    rfl
  | _, [x], p, _, h => by simp [unhexL] at h
  | 0, x :: y :: r, p, hl, h => by simp at hl
  | n + 1, x :: y :: r, p, hl, h => by
    simp only [unhexL] at h
    split at h
    · rename_i hxy
      cases hr : unhexL r with
      | none => rw [hr] at h; simp at h
      | some q =>
        rw [hr] at h
        simp only [Option.map_some, Option.some.injEq] at h
        subst h
        have ih := hex_unhex n r q (by simp at hl; omega) hr
        have e : (UInt8.ofNat (16 * hv x + hv y)).toNat = 16 * hv x + hv y := by simp; omega
        show dig ((UInt8.ofNat (16 * hv x + hv y)).toNat / 16) :: dig ((UInt8.ofNat (16 * hv x + hv y)).toNat % 16) :: hexL q = _
        rw [e, show (16 * hv x + hv y) / 16 = hv x by omega, show (16 * hv x + hv y) % 16 = hv y by omega, dig_hv x hxy.1, dig_hv y hxy.2, ih]
    · cases h
theorem unhex_len (n : Nat) (l p : List UInt8) (hl : l.length ≤ 2 * n + 1) (h : unhexL l = some p) : 2 * p.length = l.length := by
  rw [← hex_unhex n l p hl h, hexL_len]
end Go.Proofs.YtpmmjomejackkaaDoor
