/- Plain laws and walks, each by its own conditions. -/
import Derived.Test.YtegaaccioppfjaaGreatDoorFm5
set_option linter.unusedSimpArgs false
set_option linter.unusedVariables false
set_option maxRecDepth 100000
set_option maxHeartbeats 16000000
section
namespace Go.Proofs.YtegaaccioppfjaaGreatDoor
open Go.RowKit Go.Phx Go.Shelf

theorem rootS_sq (y : F) : (rootS (y * y)).2 = true := by
 have h := root_of_sq y
 by_cases h2 : vz (pw (y * y) 536870717) % 2 = 1
 ·rw [root_odd _ h h2]
 ·rw [root_even _ h h2]
theorem neg_neg' (y : F) : - -y = y := by grind -lia -linarith
theorem rootS_is {y q : F} (h : y * y = q) : (rootS q).2 = true ∧ ((vz y % 2 = 0 → (rootS q).1 = y) ∧ (vz y % 2 = 1 → (rootS q).1 ≠ 0 ∧ -(rootS q).1 = y)) := by
 subst h
 have h1 := rootS_sq y
 refine ⟨h1, ?_⟩
 rcases rootS_cases (y * y) with ⟨h2, _⟩ | ⟨_, h3, h4⟩
 ·rw [h1] at h2
  cases h2
 ·generalize (rootS (y * y)).1 = r at h3 h4 ⊢
  rcases sq_eq h3 with e | e
  ·subst e
   exact ⟨fun _ => rfl, fun h => by omega⟩
  ·by_cases hr : r = 0
   ·subst hr
    have e' : y = 0 := by rw [← neg_neg' y, ← e]; exact neg_0
    subst e'
    exact ⟨fun _ => rfl, fun h => by omega⟩
   ·have hy : y = -r := by rw [e, neg_neg']
    have := vz_odd hr h4
    rw [← hy] at this
    exact ⟨fun h => by omega, fun _ => ⟨hr, hy.symm⟩⟩

theorem byteN (n k : Nat) : (UInt8.ofNat (n / k)).toNat = n / k % 256 := by simp
theorem byteN1 (n : Nat) : (UInt8.ofNat n).toNat = n % 256 := by simp
theorem wordU_bytes (n : Nat) (h : n < 4294967296) : wordU (UInt8.ofNat (n / 16777216)) (UInt8.ofNat (n / 65536)) (UInt8.ofNat (n / 256)) (UInt8.ofNat n) = n := by
 unfold wordU word4
 rw [byteN, byteN, byteN, byteN1]
 omega
theorem back_point {p : E} (h : inG p = true) : fromL (bytesE p) = some p := by
 rcases p with _ | ⟨x, y⟩
 ·show from5 0 0 0 0 0 = some none
  unfold from5
  rw [show wordU 0 0 0 0 = 0 from rfl]
  rfl
 ·show from5 (UInt8.ofNat (2 + y.val % 2)) (UInt8.ofNat (x.val / 16777216)) (UInt8.ofNat (x.val / 65536)) (UInt8.ofNat (x.val / 256)) (UInt8.ofNat x.val) = _
  have hb := vz_lt x
  have hx : wordU (UInt8.ofNat (x.val / 16777216)) (UInt8.ofNat (x.val / 65536)) (UInt8.ofNat (x.val / 256)) (UInt8.ofNat x.val) = vz x := wordU_bytes _ (by unfold vz at hb; omega)
  have hon := (onE_some x y).1 (inG_on h)
  obtain ⟨h1, h2, h3⟩ := rootS_is hon
  have hr : rootAt (vz x) = rootS (x * x * x + x) := by unfold rootAt; rw [zf_vz]
  rcases Nat.mod_two_eq_zero_or_one y.val with hy | hy
  ·rw [hy]
   show from5 2 _ _ _ _ = _
   have e := h2 (by unfold vz; omega)
   unfold from5
   rw [if_neg (by decide), if_pos rfl, hx, hr, zf_vz, e, if_pos ⟨hb, h1, h⟩]
  ·rw [hy]
   show from5 3 _ _ _ _ = _
   obtain ⟨e1, e2⟩ := h3 (by unfold vz; omega)
   unfold from5
   rw [if_neg (by decide), if_neg (by decide), if_pos rfl, hx, hr, zf_vz, e2, if_pos ⟨hb, h1, e1, h⟩]
theorem bytes_word {a b c d : UInt8} (h : wordU a b c d < 2147482867) :
  UInt8.ofNat ((zf (wordU a b c d)).val / 16777216) = a ∧ UInt8.ofNat ((zf (wordU a b c d)).val / 65536) = b ∧ UInt8.ofNat ((zf (wordU a b c d)).val / 256) = c ∧ UInt8.ofNat (zf (wordU a b c d)).val = d := by
 have h0 := (wordU_bd a b c d).1
 have e : vz (zf (wordU a b c d)) = wordU a b c d := by rw [vz_zf, Int.emod_eq_of_lt h0 h]
 generalize (zf (wordU a b c d)) = x at e ⊢
 have := a.toNat_lt
 have := b.toNat_lt
 have := c.toNat_lt
 have := d.toNat_lt
 unfold vz wordU word4 at e
 refine ⟨UInt8.toNat_inj.1 ?_, UInt8.toNat_inj.1 ?_, UInt8.toNat_inj.1 ?_, UInt8.toNat_inj.1 ?_⟩
 ·rw [byteN]; omega
 ·rw [byteN]; omega
 ·rw [byteN]; omega
 ·rw [byteN1]; omega
theorem back_bytes {l : List UInt8} {p : E} (h : fromL l = some p) : inG p = true ∧ bytesE p = l := by
 unfold fromL at h
 split at h
 ·rename_i t a b c d
  have hroot := rootS_cases (zf (wordU a b c d) * zf (wordU a b c d) * zf (wordU a b c d) + zf (wordU a b c d))
  change ((rootAt (wordU a b c d)).2 = false ∧ (rootAt (wordU a b c d)).1 = 0) ∨ ((rootAt (wordU a b c d)).2 = true ∧ _ ∧ vz (rootAt (wordU a b c d)).1 % 2 = 0) at hroot
  unfold from5 at h
  by_cases t0 : t = 0
  ·rw [if_pos t0] at h
   split at h
   ·rename_i hx
    obtain ⟨rfl, rfl, rfl, rfl⟩ := wordU_zero hx
    subst t0
    injection h with h
    subst h
    exact ⟨inG_none, rfl⟩
   ·cases h
  ·rw [if_neg t0] at h
   by_cases t2 : t = 2
   ·rw [if_pos t2] at h
    subst t2
    split at h
    ·rename_i hc
     obtain ⟨hx, h1, hi⟩ := hc
     injection h with h
     subst h
     refine ⟨hi, ?_⟩
     obtain ⟨e1, e2, e3, e4⟩ := bytes_word hx
     have hev : (rootAt (wordU a b c d)).1.val % 2 = 0 := by
      rcases hroot with ⟨h2, _⟩ | ⟨_, _, h2⟩
      ·rw [h1] at h2; cases h2
      ·unfold vz at h2; omega
     show [UInt8.ofNat (2 + (rootAt (wordU a b c d)).1.val % 2), _, _, _, _] = _
     rw [e1, e2, e3, e4, hev]
     rfl
    ·cases h
   ·rw [if_neg t2] at h
    by_cases t3 : t = 3
    ·rw [if_pos t3] at h
     subst t3
     split at h
     ·rename_i hc
      obtain ⟨hx, h1, hy, hi⟩ := hc
      injection h with h
      subst h
      refine ⟨hi, ?_⟩
      obtain ⟨e1, e2, e3, e4⟩ := bytes_word hx
      have hev : (-(rootAt (wordU a b c d)).1).val % 2 = 1 := by
       rcases hroot with ⟨h2, _⟩ | ⟨_, _, h2⟩
       ·rw [h1] at h2; cases h2
       ·have := vz_odd hy h2
        unfold vz at this; omega
      show [UInt8.ofNat (2 + (-(rootAt (wordU a b c d)).1).val % 2), _, _, _, _] = _
      rw [e1, e2, e3, e4, hev]
      rfl
     ·cases h
    ·rw [if_neg t3] at h
     cases h
 ·cases h
theorem bytesE_len (p : E) : (bytesE p).length = 5 := by
 rcases p with _ | ⟨x, y⟩ <;> rfl
end Go.Proofs.YtegaaccioppfjaaGreatDoor
end
