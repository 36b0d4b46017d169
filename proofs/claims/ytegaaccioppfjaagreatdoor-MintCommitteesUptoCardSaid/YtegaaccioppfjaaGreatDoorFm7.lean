/- Plain laws and walks, each by its own conditions. -/
import Derived.Test.YtegaaccioppfjaaGreatDoorFm2
set_option linter.unusedSimpArgs false
set_option linter.unusedVariables false
set_option maxRecDepth 100000
set_option maxHeartbeats 16000000
section
namespace Go.Phx

abbrev Bytes := List UInt8
def zero32 : Bytes := List.replicate 32 0
def zeroH : Nat → Bytes
 | 0 => zero32
 | n + 1 => sha (zeroH n ++ zeroH n)
theorem zeroH_len : ∀ n, (zeroH n).length = 32
 | 0 => rfl
 | _ + 1 => sha_len _
def pairUp : List Bytes → List Bytes
 | a :: b :: r => sha (a ++ b) :: pairUp r
 | _ => []
theorem pairUp_len : ∀ l : List Bytes, (pairUp l).length = l.length / 2
 | [] => rfl
 | [_] => by simp [pairUp]
 | a :: b :: r => by
  simp only [pairUp, List.length_cons, pairUp_len r]
  omega
theorem pairUp_app : ∀ (n : Nat) (a b : List Bytes), a.length = 2 * n → pairUp (a ++ b) = pairUp a ++ pairUp b
 | 0, a, b, h => by
  obtain rfl := List.eq_nil_of_length_eq_zero (by omega)
  rfl
 | n + 1, [], b, h => by simp at h
 | n + 1, [x], b, h => by simp at h; omega
 | n + 1, x :: y :: r, b, h => by
  simp only [List.cons_append, pairUp]
  rw [pairUp_app n r b (by simp at h; omega)]
theorem pairUp_rep (z : Bytes) : ∀ n, pairUp (List.replicate (2 * n) z) = List.replicate n (sha (z ++ z))
 | 0 => rfl
 | n + 1 => by
  rw [show 2 * (n + 1) = 2 * n + 1 + 1 by omega, List.replicate_succ, List.replicate_succ, List.replicate_succ, pairUp, pairUp_rep z n]
theorem pairUp_at : ∀ (l : List Bytes) (i : Nat), 2 * i + 1 < l.length → (pairUp l).getD i [] = sha (l.getD (2 * i) [] ++ l.getD (2 * i + 1) [])
 | [], i, h => by simp at h
 | [_], i, h => by simp at h
 | a :: b :: r, 0, h => rfl
 | a :: b :: r, i + 1, h => by
  have := pairUp_at r i (by simp at h; omega)
  rw [show 2 * (i + 1) = 2 * i + 1 + 1 by omega]
  simpa [pairUp] using this
def evenUp (z : Bytes) (l : List Bytes) : List Bytes := if l.length % 2 = 1 then l ++ [z] else l
theorem evenUp_len (z : Bytes) (l : List Bytes) : (evenUp z l).length = 2 * ((l.length + 1) / 2) := by
 unfold evenUp
 split
 ·rw [List.length_append, List.length_cons, List.length_nil]
  omega
 ·omega
def levP (c : List Bytes) : Nat → List Bytes
 | 0 => c
 | k + 1 => pairUp (evenUp (zeroH k) (levP c k))
theorem levP_len_succ (c : List Bytes) (k : Nat) : (levP c (k + 1)).length = ((levP c k).length + 1) / 2 := by
 rw [levP, pairUp_len, evenUp_len]
 omega
theorem levP_le (c : List Bytes) (k : Nat) : (levP c k).length ≤ c.length := by
 induction k with
 | zero => exact Nat.le_refl _
 | succ k ih => rw [levP_len_succ]; omega
def fullL (c : List Bytes) (d : Nat) : Nat → List Bytes
 | 0 => c ++ List.replicate (2 ^ d - c.length) zero32
 | k + 1 => pairUp (fullL c d k)
theorem full_eq (c : List Bytes) (d : Nat) (hc : c.length ≤ 2 ^ d) : ∀ k, k ≤ d → (levP c k).length ≤ 2 ^ (d - k) ∧ fullL c d k = levP c k ++ List.replicate (2 ^ (d - k) - (levP c k).length) (zeroH k)
 | 0, _ => ⟨hc, rfl⟩
 | k + 1, hk => by
  obtain ⟨h1, h2⟩ := full_eq c d hc k (by omega)
  have e2 : 2 ^ (d - k) = 2 * 2 ^ (d - (k + 1)) := by rw [show d - k = (d - (k + 1)) + 1 by omega, Nat.pow_succ]; omega
  rw [e2] at h1 h2
  generalize 2 ^ (d - (k + 1)) = m at *
  have hl : (levP c (k + 1)).length ≤ m := by rw [levP_len_succ]; omega
  refine ⟨hl, ?_⟩
  rw [fullL, h2, levP, zeroH]
  generalize levP c k = l at *
  have e3 : l ++ List.replicate (2 * m - l.length) (zeroH k) = evenUp (zeroH k) l ++ List.replicate (2 * (m - (l.length + 1) / 2)) (zeroH k) := by
   unfold evenUp
   split
   ·rw [List.append_assoc, show 2 * m - l.length = 1 + 2 * (m - (l.length + 1) / 2) by omega, ← List.replicate_append_replicate]
    rfl
   ·congr 2
    omega
  rw [e3, pairUp_app ((l.length + 1) / 2) _ _ (evenUp_len _ _), pairUp_rep, pairUp_len, evenUp_len]
  congr 2
  omega
theorem fullL_len (c : List Bytes) (d : Nat) (hc : c.length ≤ 2 ^ d) (k : Nat) (hk : k ≤ d) : (fullL c d k).length = 2 ^ (d - k) := by
 obtain ⟨h1, h2⟩ := full_eq c d hc k hk
 rw [h2]
 simp
 omega
def atP (l : List Bytes) (z : Bytes) (i : Nat) : Bytes := l.getD i z
theorem full_at (c : List Bytes) (d : Nat) (hc : c.length ≤ 2 ^ d) (k : Nat) (hk : k ≤ d) (i : Nat) (hi : i < 2 ^ (d - k)) : (fullL c d k).getD i [] = atP (levP c k) (zeroH k) i := by
 obtain ⟨h1, h2⟩ := full_eq c d hc k hk
 rw [h2]
 unfold atP
 by_cases h : i < (levP c k).length
 ·rw [List.getD, List.getD, List.getElem?_append_left h, List.getElem?_eq_getElem h]
  rfl
 ·rw [List.getD, List.getD, List.getElem?_append_right (by omega), List.getElem?_replicate, if_pos (by omega), List.getElem?_eq_none (by omega)]
  rfl
def rootP (c : List Bytes) (d : Nat) : Bytes := atP (levP c d) (zeroH d) 0
def branchP (c : List Bytes) (i : Nat) (d : Nat) : List Bytes := (List.range d).map fun k => atP (levP c k) (zeroH k) ((i / 2 ^ k) ^^^ 1)
def wayP (x : Bytes) : List Bytes → Nat → Bytes
 | [], _ => x
 | s :: r, i => wayP (if i % 2 = 1 then sha (s ++ x) else sha (x ++ s)) r (i / 2)
end Go.Phx
end
section
namespace Go.Phx

def nodeP (c : List Bytes) (k i : Nat) : Bytes := atP (levP c k) (zeroH k) i
theorem rootP_node (c : List Bytes) (d : Nat) : rootP c d = nodeP c d 0 := rfl
theorem evenUp_at (z : Bytes) (l : List Bytes) (m : Nat) (h : m < (evenUp z l).length) : (evenUp z l).getD m [] = atP l z m := by
 unfold atP
 have h2 := evenUp_len z l
 unfold evenUp at h h2 ⊢
 split at h
 ·rename_i ho
  rw [if_pos ho] at h2 ⊢
  by_cases hm : m < l.length
  ·rw [List.getD, List.getD, List.getElem?_append_left hm, List.getElem?_eq_getElem hm]
   rfl
  ·rw [List.length_append, List.length_singleton] at h
   obtain rfl : m = l.length := by omega
   rw [List.getD, List.getD, List.getElem?_append_right (Nat.le_refl _), Nat.sub_self, List.getElem?_eq_none (Nat.le_refl _)]
   rfl
 ·rename_i ho
  rw [if_neg ho]
  rw [List.getD, List.getD, List.getElem?_eq_getElem h]
  rfl
theorem node_succ (c : List Bytes) (k j : Nat) : nodeP c (k + 1) j = sha (nodeP c k (2 * j) ++ nodeP c k (2 * j + 1)) := by
 unfold nodeP
 have hl := levP_len_succ c k
 have he := evenUp_len (zeroH k) (levP c k)
 by_cases h : j < ((levP c k).length + 1) / 2
 ·rw [← evenUp_at _ _ _ (show 2 * j < (evenUp (zeroH k) (levP c k)).length by omega), ← evenUp_at _ _ _ (show 2 * j + 1 < (evenUp (zeroH k) (levP c k)).length by omega), ← pairUp_at _ _ (by omega)]
  unfold atP
  rw [levP] at hl ⊢
  rw [List.getD, List.getD, List.getElem?_eq_getElem (by omega)]
  rfl
 ·unfold atP
  rw [List.getD, List.getD, List.getD, List.getElem?_eq_none (by omega), List.getElem?_eq_none (by omega), List.getElem?_eq_none (by omega)]
  rfl
theorem node_len (c : List Bytes) (hc : ∀ x ∈ c, x.length = 32) : ∀ k i, (nodeP c k i).length = 32
 | 0, i => by
  unfold nodeP atP levP
  by_cases h : i < c.length
  ·rw [List.getD, List.getElem?_eq_getElem h]
   exact hc _ (List.getElem_mem h)
  ·rw [List.getD, List.getElem?_eq_none (by omega)]
   rfl
 | k + 1, i => by rw [node_succ]; exact sha_len _
theorem xor_one (m : Nat) : (m % 2 = 1 → m ^^^ 1 = 2 * (m / 2)) ∧ (m % 2 = 0 → m ^^^ 1 = 2 * (m / 2) + 1) := by
 have h1 : (m ^^^ 1) / 2 = m / 2 := by rw [Nat.xor_div_two]; simp
 have h2 : (m ^^^ 1) % 2 = 1 ↔ ¬ m % 2 = 1 := by rw [Nat.xor_mod_two_eq_one]; simp
 omega
theorem wayP_snoc' : ∀ (r : List Bytes) (x s : Bytes) (i : Nat), wayP x (r ++ [s]) i = if i / 2 ^ r.length % 2 = 1 then sha (s ++ wayP x r i) else sha (wayP x r i ++ s)
 | [], x, s, i => by simp [wayP]
 | t :: r, x, s, i => by
  simp only [List.cons_append, wayP]
  rw [wayP_snoc' r _ s (i / 2), List.length_cons, Nat.pow_succ, Nat.div_div_eq_div_mul, Nat.mul_comm 2]
theorem branchP_len (c : List Bytes) (i d : Nat) : (branchP c i d).length = d := by simp [branchP]
theorem branchP_succ (c : List Bytes) (i d : Nat) : branchP c i (d + 1) = branchP c i d ++ [nodeP c d ((i / 2 ^ d) ^^^ 1)] := by
 unfold branchP
 rw [List.range_succ, List.map_append]
 rfl
theorem branchP_all (c : List Bytes) (hc : ∀ x ∈ c, x.length = 32) (i d : Nat) : ∀ x ∈ branchP c i d, x.length = 32 := by
 intro x hx
 unfold branchP at hx
 obtain ⟨k, _, rfl⟩ := List.mem_map.1 hx
 exact node_len c hc k _
theorem way_back (c : List Bytes) (i : Nat) : ∀ d, wayP (nodeP c 0 i) (branchP c i d) i = nodeP c d (i / 2 ^ d)
 | 0 => by simp [branchP, wayP]
 | d + 1 => by
  rw [branchP_succ, wayP_snoc', branchP_len, way_back c i d, node_succ, Nat.pow_succ, ← Nat.div_div_eq_div_mul]
  generalize i / 2 ^ d = m
  obtain ⟨h1, h2⟩ := xor_one m
  by_cases h : m % 2 = 1
  ·rw [if_pos h, h1 h, show 2 * (m / 2) + 1 = m by omega]
  ·rw [if_neg h, h2 (by omega), show 2 * (m / 2) = m by omega]
def CheckP (x : Bytes) (r : List Bytes) (i : Nat) (root : Bytes) : Prop := r.length ≤ 64 ∧ x.length = 32 ∧ root.length = 32 ∧ i < 2 ^ r.length ∧ (∀ s ∈ r, s.length = 32) ∧ wayP x r i = root
instance instCheckP (x : Bytes) (r : List Bytes) (i : Nat) (root : Bytes) : Decidable (CheckP x r i root) := by unfold CheckP; infer_instance

def chunkP (s : Bytes) (i : Nat) : Bytes := (s.drop (32 * i)).take 32 ++ List.replicate (32 - ((s.drop (32 * i)).take 32).length) 0
def packN (s : Bytes) (n : Nat) : List Bytes := (List.range n).map (chunkP s)
def packP (s : Bytes) : List Bytes := packN s ((s.length + 31) / 32)
theorem packN_succ (s : Bytes) (n : Nat) : packN s (n + 1) = packN s n ++ [chunkP s n] := by simp [packN, List.range_succ]
theorem packN_len (s : Bytes) (n : Nat) : (packN s n).length = n := by simp [packN]
end Go.Phx
end
