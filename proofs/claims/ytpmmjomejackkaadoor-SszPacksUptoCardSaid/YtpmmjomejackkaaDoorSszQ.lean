/- Plain laws of trees: a branch leads to the root; halves; noughts behind; what checks is the leaf, or two texts clash; chunks of bytes. No program in sight. -/
import Derived.Test.YtpmmjomejackkaaDoorSszP
namespace Go.Phx

/-- what stands at a place of a level -/
def nodeP (c : List Bytes) (k i : Nat) : Bytes := atP (levP c k) (zeroH k) i
theorem rootP_node (c : List Bytes) (d : Nat) : rootP c d = nodeP c d 0 := rfl
theorem evenUp_at (z : Bytes) (l : List Bytes) (m : Nat) (h : m < (evenUp z l).length) : (evenUp z l).getD m [] = atP l z m := by
  unfold atP
  have h2 := evenUp_len z l
  unfold evenUp at h h2 ⊢
  split at h
  · rename_i ho
    rw [if_pos ho] at h2 ⊢
    by_cases hm : m < l.length
    · rw [List.getD, List.getD, List.getElem?_append_left hm, List.getElem?_eq_getElem hm]
      rfl
    · rw [List.length_append, List.length_singleton] at h
      obtain rfl : m = l.length := by omega
      rw [List.getD, List.getD, List.getElem?_append_right (Nat.le_refl _), Nat.sub_self, List.getElem?_eq_none (Nat.le_refl _)]
      rfl
  · rename_i ho
    rw [if_neg ho]
    rw [List.getD, List.getD, List.getElem?_eq_getElem h]
    rfl
theorem node_succ (c : List Bytes) (k j : Nat) : nodeP c (k + 1) j = sha (nodeP c k (2 * j) ++ nodeP c k (2 * j + 1)) := by
  unfold nodeP
  have hl := levP_len_succ c k
  have he := evenUp_len (zeroH k) (levP c k)
  by_cases h : j < ((levP c k).length + 1) / 2
  · rw [← evenUp_at _ _ _ (show 2 * j < (evenUp (zeroH k) (levP c k)).length by omega), ← evenUp_at _ _ _ (show 2 * j + 1 < (evenUp (zeroH k) (levP c k)).length by omega), ← pairUp_at _ _ (by omega)]
    unfold atP
    rw [levP] at hl ⊢
    rw [List.getD, List.getD, List.getElem?_eq_getElem (by omega)]
    rfl
  · unfold atP
    rw [List.getD, List.getD, List.getD, List.getElem?_eq_none (by omega), List.getElem?_eq_none (by omega), List.getElem?_eq_none (by omega)]
    rfl
theorem node_len (c : List Bytes) (hc : ∀ x ∈ c, x.length = 32) : ∀ k i, (nodeP c k i).length = 32
  | 0, i => by
    unfold nodeP atP levP
    by_cases h : i < c.length
    · rw [List.getD, List.getElem?_eq_getElem h]
      exact hc _ (List.getElem_mem h)
    · rw [List.getD, List.getElem?_eq_none (by omega)]
      rfl
  | k + 1, i => by rw [node_succ]; exact sha_len _
theorem xor_one (m : Nat) : (m % 2 = 1 → m ^^^ 1 = 2 * (m / 2)) ∧ (m % 2 = 0 → m ^^^ 1 = 2 * (m / 2) + 1) := by
  have h1 : (m ^^^ 1) / 2 = m / 2 := by rw [Nat.xor_div_two]; simp
  have h2 : (m ^^^ 1) % 2 = 1 ↔ ¬ m % 2 = 1 := by rw [Nat.xor_mod_two_eq_one]; simp
  omega
theorem wayP_snoc' : ∀ (r : List Bytes) (x s : Bytes) (i : Nat), wayP x (r ++ [s]) i = if i / 2 ^ r.length % 2 = 1 then sha (s ++ wayP x r i) else sha (wayP x r i ++ s)
  | [], x, s, i => by simp [wayP]
  | t :: r, x, s, i => by
    simp only [List.cons_append, wayP]
    rw [wayP_snoc' r _ s (i / 2), List.length_cons, Nat.pow_succ, Nat.div_div_eq_div_mul, Nat.mul_comm 2]
theorem branchP_len (c : List Bytes) (i d : Nat) : (branchP c i d).length = d := by simp [branchP]
theorem branchP_succ (c : List Bytes) (i d : Nat) : branchP c i (d + 1) = branchP c i d ++ [nodeP c d ((i / 2 ^ d) ^^^ 1)] := by
  unfold branchP
  rw [List.range_succ, List.map_append]
  rfl
theorem branchP_all (c : List Bytes) (hc : ∀ x ∈ c, x.length = 32) (i d : Nat) : ∀ x ∈ branchP c i d, x.length = 32 := by
  intro x hx
  unfold branchP at hx
  obtain ⟨k, _, rfl⟩ := List.mem_map.1 hx
  exact node_len c hc k _
/-- a branch leads from its leaf to the root -/
theorem way_back (c : List Bytes) (i : Nat) : ∀ d, wayP (nodeP c 0 i) (branchP c i d) i = nodeP c d (i / 2 ^ d)
  | 0 => by simp [branchP, wayP]
  | d + 1 => by
    rw [branchP_succ, wayP_snoc', branchP_len, way_back c i d, node_succ, Nat.pow_succ, ← Nat.div_div_eq_div_mul]
    generalize i / 2 ^ d = m
    obtain ⟨h1, h2⟩ := xor_one m
    by_cases h : m % 2 = 1
    · rw [if_pos h, h1 h, show 2 * (m / 2) + 1 = m by omega]
    · rw [if_neg h, h2 (by omega), show 2 * (m / 2) = m by omega]
/-- halves -/
theorem node_take (c : List Bytes) (d : Nat) : ∀ k i, k ≤ d → i < 2 ^ (d - k) → nodeP (c.take (2 ^ d)) k i = nodeP c k i
  | 0, i, _, hi => by
    unfold nodeP atP levP
    rw [Nat.sub_zero] at hi
    rw [List.getD, List.getD, List.getElem?_take_of_lt hi]
  | k + 1, i, hk, hi => by
    have e2 : 2 ^ (d - k) = 2 * 2 ^ (d - (k + 1)) := by rw [show d - k = (d - (k + 1)) + 1 by omega, Nat.pow_succ]; omega
    rw [node_succ, node_succ, node_take c d k _ (by omega) (by omega), node_take c d k _ (by omega) (by omega)]
theorem node_drop (c : List Bytes) (d : Nat) : ∀ k i, k ≤ d → nodeP (c.drop (2 ^ d)) k i = nodeP c k (i + 2 ^ (d - k))
  | 0, i, _ => by
    unfold nodeP atP levP
    rw [List.getD, List.getD, List.getElem?_drop, Nat.sub_zero, Nat.add_comm]
  | k + 1, i, hk => by
    have e2 : 2 ^ (d - k) = 2 * 2 ^ (d - (k + 1)) := by rw [show d - k = (d - (k + 1)) + 1 by omega, Nat.pow_succ]; omega
    rw [node_succ, node_succ, node_drop c d k _ (by omega), node_drop c d k _ (by omega), e2]
    rw [show 2 * (i + 2 ^ (d - (k + 1))) = 2 * i + 2 * 2 ^ (d - (k + 1)) by omega, show 2 * i + 2 * 2 ^ (d - (k + 1)) + 1 = 2 * i + 1 + 2 * 2 ^ (d - (k + 1)) by omega]
theorem root_halves (c : List Bytes) (d : Nat) : rootP c (d + 1) = sha (rootP (c.take (2 ^ d)) d ++ rootP (c.drop (2 ^ d)) d) := by
  rw [rootP_node, rootP_node, rootP_node, node_succ, node_take c d d 0 (Nat.le_refl _) (by simp), node_drop c d d 0 (Nat.le_refl _)]
  simp
/-- noughts behind change nothing -/
theorem node_more (c : List Bytes) : ∀ k i, nodeP (c ++ [zero32]) k i = nodeP c k i
  | 0, i => by
    unfold nodeP atP levP zeroH
    by_cases h : i < c.length
    · rw [List.getD, List.getD, List.getElem?_append_left h]
    · rw [List.getD, List.getD, List.getElem?_append_right (by omega), List.getElem?_eq_none (l := c) (by omega)]
      cases i - c.length <;> rfl
  | k + 1, i => by rw [node_succ, node_succ, node_more c k, node_more c k]
theorem root_more (c : List Bytes) (d : Nat) : rootP (c ++ [zero32]) d = rootP c d := node_more c d 0

/-- the texts that are summed up on the way -/
def wayT (x : Bytes) : List Bytes → Nat → List Bytes
  | [], _ => []
  | s :: r, i => (if i % 2 = 1 then s ++ x else x ++ s) :: wayT (sha (if i % 2 = 1 then s ++ x else x ++ s)) r (i / 2)
/-- pairs, one behind the other -/
def pairT : List Bytes → List Bytes
  | a :: b :: r => (a ++ b) :: pairT r
  | _ => []
theorem pairT_mem : ∀ (l : List Bytes) (i : Nat), 2 * i + 1 < l.length → l.getD (2 * i) [] ++ l.getD (2 * i + 1) [] ∈ pairT l
  | [], i, h => by simp at h
  | [_], i, h => by simp at h
  | a :: b :: r, 0, h => by simp [pairT]
  | a :: b :: r, i + 1, h => by
    have := pairT_mem r i (by simp at h; omega)
    rw [show 2 * (i + 1) = 2 * i + 1 + 1 by omega]
    simpa [pairT] using Or.inr this
theorem pairT_len : ∀ l : List Bytes, (pairT l).length = l.length / 2
  | [] => rfl
  | [_] => by simp [pairT]
  | a :: b :: r => by
    simp only [pairT, List.length_cons, pairT_len r]
    omega
/-- all texts that are summed up in a tree, so many levels -/
def sumsP (c : List Bytes) (d : Nat) (n : Nat) : List Bytes := (List.range n).flatMap fun k => pairT (fullL c d k)
theorem sumsP_succ (c : List Bytes) (d n : Nat) : sumsP c d (n + 1) = sumsP c d n ++ pairT (fullL c d n) := by
  unfold sumsP
  rw [List.range_succ, List.flatMap_append]
  simp
/-- have two unlike texts of some one sum? -/
def Clashes (l : List Bytes) : Prop := ∃ a ∈ l, ∃ b ∈ l, a ≠ b ∧ sha a = sha b
theorem app_inj32 {a b x y : Bytes} (h : a ++ b = x ++ y) (ha : a.length = 32) (hx : x.length = 32) : a = x ∧ b = y := List.append_inj h (by omega)
theorem sound (c : List Bytes) (d : Nat) (hc : ∀ x ∈ c, x.length = 32) (hl : c.length ≤ 2 ^ d) : ∀ (r : List Bytes) (k : Nat) (x : Bytes) (i : Nat), k + r.length = d → x.length = 32 → (∀ s ∈ r, s.length = 32) → i < 2 ^ r.length →
    wayP x r i = nodeP c d 0 → x = nodeP c k i ∨ ∃ a ∈ wayT x r i, ∃ b ∈ sumsP c d d, a ≠ b ∧ sha a = sha b
  | [], k, x, i, hk, hx, _, hi, h => by
    have hi0 : i = 0 := by simpa using hi
    have hk0 : k = d := by simpa using hk
    subst hi0
    subst hk0
    exact .inl h
  | s :: r, k, x, i, hk, hx, hs, hi, h => by
    rw [List.length_cons] at hk hi
    have hs0 : s.length = 32 := hs s (by simp)
    have e1 : wayP x (s :: r) i = wayP (sha (if i % 2 = 1 then s ++ x else x ++ s)) r (i / 2) := by
      rw [wayP]
      split <;> rfl
    rw [e1] at h
    rw [wayT]
    obtain ⟨t, ht⟩ : ∃ t, (if i % 2 = 1 then s ++ x else x ++ s) = t := ⟨_, rfl⟩
    rw [ht] at h ⊢
    rcases sound c d hc hl r (k + 1) (sha t) (i / 2) (by omega) (sha_len _) (fun y hy => hs y (by simp [hy])) (by rw [Nat.pow_succ] at hi; omega) h with h1 | ⟨a, ha, b, hb, hn, he⟩
    · by_cases hu : t = nodeP c k (2 * (i / 2)) ++ nodeP c k (2 * (i / 2) + 1)
      · left
        have hlen := node_len c hc k
        rw [← ht] at hu
        by_cases ho : i % 2 = 1
        · rw [if_pos ho] at hu
          have := (app_inj32 hu hs0 (hlen _)).2
          rw [this, show 2 * (i / 2) + 1 = i by omega]
        · rw [if_neg ho] at hu
          have := (app_inj32 hu hx (hlen _)).1
          rw [this, show 2 * (i / 2) = i by omega]
      · right
        rw [node_succ] at h1
        refine ⟨t, by simp, _, ?_, hu, h1⟩
        have e2 : 2 ^ (d - k) = 2 * 2 ^ r.length := by rw [show d - k = r.length + 1 by omega, Nat.pow_succ]; omega
        have hi2 : i / 2 < 2 ^ r.length := by rw [Nat.pow_succ] at hi; omega
        have := pairT_mem (fullL c d k) (i / 2) (by rw [fullL_len c d hl k (by omega)]; omega)
        rw [full_at c d hl k (by omega) _ (by omega), full_at c d hl k (by omega) _ (by omega)] at this
        unfold sumsP
        exact List.mem_flatMap.2 ⟨k, List.mem_range.2 (by omega), this⟩
    · exact .inr ⟨a, by simp [ha], b, hb, hn, he⟩
/-- what checks is the leaf, or two texts clash -/
theorem sound_root (c : List Bytes) (d : Nat) (hc : ∀ x ∈ c, x.length = 32) (hl : c.length ≤ 2 ^ d) (r : List Bytes) (x : Bytes) (i : Nat) (hr : r.length = d) (hx : x.length = 32) (hs : ∀ s ∈ r, s.length = 32) (hi : i < 2 ^ d)
    (h : wayP x r i = rootP c d) : x = nodeP c 0 i ∨ Clashes (sumsP c d d ++ wayT x r i) := by
  subst hr
  rcases sound c r.length hc hl r 0 x i (by omega) hx hs hi h with h | ⟨a, ha, b, hb, hn, he⟩
  · exact .inl h
  · exact .inr ⟨a, List.mem_append.2 (.inr ha), b, List.mem_append.2 (.inl hb), hn, he⟩
theorem wayT_snoc : ∀ (r : List Bytes) (x s : Bytes) (i : Nat), wayT x (r ++ [s]) i = wayT x r i ++ [if i / 2 ^ r.length % 2 = 1 then s ++ wayP x r i else wayP x r i ++ s]
  | [], x, s, i => by simp [wayT, wayP]
  | t :: r, x, s, i => by
    have e1 : wayP x (t :: r) i = wayP (sha (if i % 2 = 1 then t ++ x else x ++ t)) r (i / 2) := by
      rw [wayP]
      split <;> rfl
    rw [e1]
    simp only [List.cons_append, wayT]
    rw [wayT_snoc r _ s (i / 2), List.length_cons, Nat.pow_succ, Nat.div_div_eq_div_mul, Nat.mul_comm 2]

/-- does a branch check? -/
def CheckP (x : Bytes) (r : List Bytes) (i : Nat) (root : Bytes) : Prop := r.length ≤ 64 ∧ x.length = 32 ∧ root.length = 32 ∧ i < 2 ^ r.length ∧ (∀ s ∈ r, s.length = 32) ∧ wayP x r i = root
instance instCheckP (x : Bytes) (r : List Bytes) (i : Nat) (root : Bytes) : Decidable (CheckP x r i root) := by unfold CheckP; infer_instance

/-- a chunk of bytes -/
def chunkP (s : Bytes) (i : Nat) : Bytes := (s.drop (32 * i)).take 32 ++ List.replicate (32 - ((s.drop (32 * i)).take 32).length) 0
/-- so many chunks of bytes -/
def packN (s : Bytes) (n : Nat) : List Bytes := (List.range n).map (chunkP s)
/-- bytes as chunks -/
def packP (s : Bytes) : List Bytes := packN s ((s.length + 31) / 32)
theorem packN_succ (s : Bytes) (n : Nat) : packN s (n + 1) = packN s n ++ [chunkP s n] := by simp [packN, List.range_succ]
theorem packN_len (s : Bytes) (n : Nat) : (packN s n).length = n := by simp [packN]
theorem packP_len (s : Bytes) : (packP s).length = (s.length + 31) / 32 := packN_len _ _
theorem chunkP_len (s : Bytes) (i : Nat) : (chunkP s i).length = 32 := by
  unfold chunkP
  simp
  omega
theorem packP_all (s : Bytes) : ∀ x ∈ packP s, x.length = 32 := by
  intro x hx
  unfold packP packN at hx
  obtain ⟨k, _, rfl⟩ := List.mem_map.1 hx
  exact chunkP_len _ _
theorem chunk_left (s t : Bytes) (n i : Nat) (hs : s.length = 32 * n) (hi : i < n) : chunkP (s ++ t) i = chunkP s i := by
  unfold chunkP
  rw [List.drop_append_of_le_length (by omega), List.take_append_of_le_length (by rw [List.length_drop]; omega)]
theorem chunk_right (s t : Bytes) (n i : Nat) (hs : s.length = 32 * n) : chunkP (s ++ t) (n + i) = chunkP t i := by
  unfold chunkP
  rw [show 32 * (n + i) = s.length + 32 * i by omega, List.drop_append]
  rw [List.drop_of_length_le (by omega), List.nil_append, show s.length + 32 * i - s.length = 32 * i by omega]
theorem pack_joins (s t : Bytes) (h : s.length % 32 = 0) : packP (s ++ t) = packP s ++ packP t := by
  obtain ⟨n, hn⟩ : ∃ n, s.length = 32 * n := ⟨s.length / 32, by omega⟩
  unfold packP packN
  rw [List.length_append, show (s.length + t.length + 31) / 32 = n + (t.length + 31) / 32 by omega, show (s.length + 31) / 32 = n by omega, List.range_add, List.map_append, List.map_map]
  congr 1
  · exact List.map_congr_left fun i hi => chunk_left s t n i hn (List.mem_range.1 hi)
  · exact List.map_congr_left fun i hi => chunk_right s t n i hn
theorem chunk_zero (m i : Nat) : chunkP (List.replicate m 0) i = zero32 := by
  unfold chunkP zero32
  rw [List.drop_replicate, List.take_replicate, List.length_replicate, List.replicate_append_replicate]
  congr 1
  omega
theorem pack_zeros (m : Nat) : packP (List.replicate m 0) = List.replicate ((m + 31) / 32) zero32 := by
  unfold packP packN
  rw [List.length_replicate]
  apply List.ext_getElem
  · simp
  · intro i h1 h2
    simp only [List.getElem_map, List.getElem_range, List.getElem_replicate]
    exact chunk_zero _ _
end Go.Phx
