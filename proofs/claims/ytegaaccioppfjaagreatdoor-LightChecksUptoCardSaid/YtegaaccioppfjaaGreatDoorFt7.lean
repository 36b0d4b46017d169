/- Plain laws and walks, each by its own conditions. -/
import Derived.Test.YtegaaccioppfjaaGreatDoorFt6
set_option linter.unusedSimpArgs false
set_option linter.unusedVariables false
set_option maxRecDepth 100000
set_option maxHeartbeats 16000000
section
namespace Go.Proofs.YtegaaccioppfjaaGreatDoor
open Go.RowKit Go.Phx Go.Shelf

theorem byteN (n k : Nat) : (UInt8.ofNat (n / k)).toNat = n / k % 256 := by simp
theorem byteN1 (n : Nat) : (UInt8.ofNat n).toNat = n % 256 := by simp
theorem bytes_word {a b c d : UInt8} (h : wordU a b c d < 2147482867) :
  UInt8.ofNat ((zf (wordU a b c d)).val / 16777216) = a ∧ UInt8.ofNat ((zf (wordU a b c d)).val / 65536) = b ∧ UInt8.ofNat ((zf (wordU a b c d)).val / 256) = c ∧ UInt8.ofNat (zf (wordU a b c d)).val = d := by
 have h0 := (wordU_bd a b c d).1
 have e : vz (zf (wordU a b c d)) = wordU a b c d := by rw [vz_zf, Int.emod_eq_of_lt h0 h]
 generalize (zf (wordU a b c d)) = x at e ⊢
 have := a.toNat_lt
 have := b.toNat_lt
 have := c.toNat_lt
 have := d.toNat_lt
 unfold vz wordU word4 at e
 refine ⟨UInt8.toNat_inj.1 ?_, UInt8.toNat_inj.1 ?_, UInt8.toNat_inj.1 ?_, UInt8.toNat_inj.1 ?_⟩
 ·rw [byteN]; omega
 ·rw [byteN]; omega
 ·rw [byteN]; omega
 ·rw [byteN1]; omega
theorem back_bytes {l : List UInt8} {p : E} (h : fromL l = some p) : inG p = true ∧ bytesE p = l := by
 unfold fromL at h
 split at h
 ·rename_i t a b c d
  have hroot := rootS_cases (zf (wordU a b c d) * zf (wordU a b c d) * zf (wordU a b c d) + zf (wordU a b c d))
  change ((rootAt (wordU a b c d)).2 = false ∧ (rootAt (wordU a b c d)).1 = 0) ∨ ((rootAt (wordU a b c d)).2 = true ∧ _ ∧ vz (rootAt (wordU a b c d)).1 % 2 = 0) at hroot
  unfold from5 at h
  by_cases t0 : t = 0
  ·rw [if_pos t0] at h
   split at h
   ·rename_i hx
    obtain ⟨rfl, rfl, rfl, rfl⟩ := wordU_zero hx
    subst t0
    injection h with h
    subst h
    exact ⟨inG_none, rfl⟩
   ·cases h
  ·rw [if_neg t0] at h
   by_cases t2 : t = 2
   ·rw [if_pos t2] at h
    subst t2
    split at h
    ·rename_i hc
     obtain ⟨hx, h1, hi⟩ := hc
     injection h with h
     subst h
     refine ⟨hi, ?_⟩
     obtain ⟨e1, e2, e3, e4⟩ := bytes_word hx
     have hev : (rootAt (wordU a b c d)).1.val % 2 = 0 := by
      rcases hroot with ⟨h2, _⟩ | ⟨_, _, h2⟩
      ·rw [h1] at h2; cases h2
      ·unfold vz at h2; omega
     show [UInt8.ofNat (2 + (rootAt (wordU a b c d)).1.val % 2), _, _, _, _] = _
     rw [e1, e2, e3, e4, hev]
     rfl
    ·cases h
   ·rw [if_neg t2] at h
    by_cases t3 : t = 3
    ·rw [if_pos t3] at h
     subst t3
     split at h
     ·rename_i hc
      obtain ⟨hx, h1, hy, hi⟩ := hc
      injection h with h
      subst h
      refine ⟨hi, ?_⟩
      obtain ⟨e1, e2, e3, e4⟩ := bytes_word hx
      have hev : (-(rootAt (wordU a b c d)).1).val % 2 = 1 := by
       rcases hroot with ⟨h2, _⟩ | ⟨_, _, h2⟩
       ·rw [h1] at h2; cases h2
       ·have := vz_odd hy h2
        unfold vz at this; omega
      show [UInt8.ofNat (2 + (-(rootAt (wordU a b c d)).1).val % 2), _, _, _, _] = _
      rw [e1, e2, e3, e4, hev]
      rfl
     ·cases h
    ·rw [if_neg t3] at h
     cases h
 ·cases h
end Go.Proofs.YtegaaccioppfjaaGreatDoor
end
