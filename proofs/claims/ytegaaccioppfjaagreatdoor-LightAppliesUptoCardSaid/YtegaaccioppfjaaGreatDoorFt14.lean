/- Plain laws and walks, each by its own conditions. -/
import Derived.Test.YtegaaccioppfjaaGreatDoorFt2
set_option linter.unusedSimpArgs false
set_option linter.unusedVariables false
set_option maxRecDepth 100000
set_option maxHeartbeats 16000000
section
namespace Go.Phx

abbrev Bytes := List UInt8
def zero32 : Bytes := List.replicate 32 0
def zeroH : Nat → Bytes
 | 0 => zero32
 | n + 1 => sha (zeroH n ++ zeroH n)
theorem zeroH_len : ∀ n, (zeroH n).length = 32
 | 0 => rfl
 | _ + 1 => sha_len _
def pairUp : List Bytes → List Bytes
 | a :: b :: r => sha (a ++ b) :: pairUp r
 | _ => []
theorem pairUp_len : ∀ l : List Bytes, (pairUp l).length = l.length / 2
 | [] => rfl
 | [_] => by simp [pairUp]
 | a :: b :: r => by
  simp only [pairUp, List.length_cons, pairUp_len r]
  omega
theorem pairUp_app : ∀ (n : Nat) (a b : List Bytes), a.length = 2 * n → pairUp (a ++ b) = pairUp a ++ pairUp b
 | 0, a, b, h => by
  obtain rfl := List.eq_nil_of_length_eq_zero (by omega)
  rfl
 | n + 1, [], b, h => by simp at h
 | n + 1, [x], b, h => by simp at h; omega
 | n + 1, x :: y :: r, b, h => by
  simp only [List.cons_append, pairUp]
  rw [pairUp_app n r b (by simp at h; omega)]
theorem pairUp_rep (z : Bytes) : ∀ n, pairUp (List.replicate (2 * n) z) = List.replicate n (sha (z ++ z))
 | 0 => rfl
 | n + 1 => by
  rw [show 2 * (n + 1) = 2 * n + 1 + 1 by omega, List.replicate_succ, List.replicate_succ, List.replicate_succ, pairUp, pairUp_rep z n]
theorem pairUp_at : ∀ (l : List Bytes) (i : Nat), 2 * i + 1 < l.length → (pairUp l).getD i [] = sha (l.getD (2 * i) [] ++ l.getD (2 * i + 1) [])
 | [], i, h => by simp at h
 | [_], i, h => by simp at h
 | a :: b :: r, 0, h => rfl
 | a :: b :: r, i + 1, h => by
  have := pairUp_at r i (by simp at h; omega)
  rw [show 2 * (i + 1) = 2 * i + 1 + 1 by omega]
  simpa [pairUp] using this
def evenUp (z : Bytes) (l : List Bytes) : List Bytes := if l.length % 2 = 1 then l ++ [z] else l
theorem evenUp_len (z : Bytes) (l : List Bytes) : (evenUp z l).length = 2 * ((l.length + 1) / 2) := by
 unfold evenUp
 split
 ·rw [List.length_append, List.length_cons, List.length_nil]
  omega
 ·omega
def levP (c : List Bytes) : Nat → List Bytes
 | 0 => c
 | k + 1 => pairUp (evenUp (zeroH k) (levP c k))
theorem levP_len_succ (c : List Bytes) (k : Nat) : (levP c (k + 1)).length = ((levP c k).length + 1) / 2 := by
 rw [levP, pairUp_len, evenUp_len]
 omega
theorem levP_le (c : List Bytes) (k : Nat) : (levP c k).length ≤ c.length := by
 induction k with
 | zero => exact Nat.le_refl _
 | succ k ih => rw [levP_len_succ]; omega
def fullL (c : List Bytes) (d : Nat) : Nat → List Bytes
 | 0 => c ++ List.replicate (2 ^ d - c.length) zero32
 | k + 1 => pairUp (fullL c d k)
theorem full_eq (c : List Bytes) (d : Nat) (hc : c.length ≤ 2 ^ d) : ∀ k, k ≤ d → (levP c k).length ≤ 2 ^ (d - k) ∧ fullL c d k = levP c k ++ List.replicate (2 ^ (d - k) - (levP c k).length) (zeroH k)
 | 0, _ => ⟨hc, rfl⟩
 | k + 1, hk => by
  obtain ⟨h1, h2⟩ := full_eq c d hc k (by omega)
  have e2 : 2 ^ (d - k) = 2 * 2 ^ (d - (k + 1)) := by rw [show d - k = (d - (k + 1)) + 1 by omega, Nat.pow_succ]; omega
  rw [e2] at h1 h2
  generalize 2 ^ (d - (k + 1)) = m at *
  have hl : (levP c (k + 1)).length ≤ m := by rw [levP_len_succ]; omega
  refine ⟨hl, ?_⟩
  rw [fullL, h2, levP, zeroH]
  generalize levP c k = l at *
  have e3 : l ++ List.replicate (2 * m - l.length) (zeroH k) = evenUp (zeroH k) l ++ List.replicate (2 * (m - (l.length + 1) / 2)) (zeroH k) := by
   unfold evenUp
   split
   ·rw [List.append_assoc, show 2 * m - l.length = 1 + 2 * (m - (l.length + 1) / 2) by omega, ← List.replicate_append_replicate]
    rfl
   ·congr 2
    omega
  rw [e3, pairUp_app ((l.length + 1) / 2) _ _ (evenUp_len _ _), pairUp_rep, pairUp_len, evenUp_len]
  congr 2
  omega
theorem fullL_len (c : List Bytes) (d : Nat) (hc : c.length ≤ 2 ^ d) (k : Nat) (hk : k ≤ d) : (fullL c d k).length = 2 ^ (d - k) := by
 obtain ⟨h1, h2⟩ := full_eq c d hc k hk
 rw [h2]
 simp
 omega
def atP (l : List Bytes) (z : Bytes) (i : Nat) : Bytes := l.getD i z
theorem full_at (c : List Bytes) (d : Nat) (hc : c.length ≤ 2 ^ d) (k : Nat) (hk : k ≤ d) (i : Nat) (hi : i < 2 ^ (d - k)) : (fullL c d k).getD i [] = atP (levP c k) (zeroH k) i := by
 obtain ⟨h1, h2⟩ := full_eq c d hc k hk
 rw [h2]
 unfold atP
 by_cases h : i < (levP c k).length
 ·rw [List.getD, List.getD, List.getElem?_append_left h, List.getElem?_eq_getElem h]
  rfl
 ·rw [List.getD, List.getD, List.getElem?_append_right (by omega), List.getElem?_replicate, if_pos (by omega), List.getElem?_eq_none (by omega)]
  rfl
def rootP (c : List Bytes) (d : Nat) : Bytes := atP (levP c d) (zeroH d) 0
def branchP (c : List Bytes) (i : Nat) (d : Nat) : List Bytes := (List.range d).map fun k => atP (levP c k) (zeroH k) ((i / 2 ^ k) ^^^ 1)
def wayP (x : Bytes) : List Bytes → Nat → Bytes
 | [], _ => x
 | s :: r, i => wayP (if i % 2 = 1 then sha (s ++ x) else sha (x ++ s)) r (i / 2)
end Go.Phx
end
