/- Plain laws, for the walks through the reference and the statements: pairs step by step, texts summed up, clashes, branches. No program in sight. -/
import Derived.Test.YtpmmjomejackkaaDoorSszQ
namespace Go.Phx

theorem take_step {α : Type} (l : List α) (d : α) (m : Nat) (h : m < l.length) : l.take (m + 1) = l.take m ++ [l.getD m d] := by
  rw [List.take_add_one, List.getElem?_eq_getElem h, List.getD, List.getElem?_eq_getElem h]
  rfl
theorem pairUp_step (l : List Bytes) (m : Nat) (h : 2 * m + 1 < l.length) : (pairUp l).take (m + 1) = (pairUp l).take m ++ [sha (l.getD (2 * m) [] ++ l.getD (2 * m + 1) [])] := by
  rw [take_step _ [] m (by rw [pairUp_len]; omega), pairUp_at l m h]
theorem pairT_at : ∀ (l : List Bytes) (i : Nat), 2 * i + 1 < l.length → (pairT l).getD i [] = l.getD (2 * i) [] ++ l.getD (2 * i + 1) []
  | [], i, h => by simp at h
  | [_], i, h => by simp at h
  | a :: b :: r, 0, h => rfl
  | a :: b :: r, i + 1, h => by
    have := pairT_at r i (by simp at h; omega)
    rw [show 2 * (i + 1) = 2 * i + 1 + 1 by omega]
    simpa [pairT] using this
theorem pairT_step (l : List Bytes) (m : Nat) (h : 2 * m + 1 < l.length) : (pairT l).take (m + 1) = (pairT l).take m ++ [l.getD (2 * m) [] ++ l.getD (2 * m + 1) []] := by
  rw [take_step _ [] m (by rw [pairT_len]; omega), pairT_at l m h]
theorem pad_step (c : List Bytes) (j : Nat) : c ++ List.replicate (j + 1) zero32 = (c ++ List.replicate j zero32) ++ [zero32] := by
  rw [List.replicate_succ', List.append_assoc]
theorem pairUp_all : ∀ (l : List Bytes) (x : Bytes), x ∈ pairUp l → x.length = 32
  | [], x, h => by simp [pairUp] at h
  | [_], x, h => by simp [pairUp] at h
  | a :: b :: r, x, h => by
    simp only [pairUp, List.mem_cons] at h
    rcases h with rfl | h
    · exact sha_len _
    · exact pairUp_all r x h
theorem full_all (c : List Bytes) (d : Nat) (hc : ∀ x ∈ c, x.length = 32) : ∀ k, ∀ x ∈ fullL c d k, x.length = 32
  | 0, x, h => by
    rcases List.mem_append.1 h with h | h
    · exact hc x h
    · rw [List.eq_of_mem_replicate h]; rfl
  | k + 1, x, h => pairUp_all _ x h
theorem root_full (c : List Bytes) (d : Nat) (h : c.length ≤ 2 ^ d) : (fullL c d d).getD 0 [] = rootP c d := by
  rw [full_at c d h d (Nat.le_refl _) 0 (by simp)]
  rfl
theorem node_full (c : List Bytes) (d : Nat) (h : c.length ≤ 2 ^ d) (k : Nat) (hk : k ≤ d) (i : Nat) (hi : i < 2 ^ (d - k)) : (fullL c d k).getD i [] = nodeP c k i := full_at c d h k hk i hi
theorem shift_lt (d k i : Nat) (hk : k ≤ d) (hi : i < 2 ^ d) : i / 2 ^ k < 2 ^ (d - k) := by
  rw [Nat.div_lt_iff_lt_mul (by exact Nat.two_pow_pos k), ← Nat.pow_add, Nat.sub_add_cancel hk]
  exact hi
theorem even_two (d k : Nat) (hk : k < d) : 2 ^ (d - k) = 2 * 2 ^ (d - (k + 1)) := by
  rw [show d - k = (d - (k + 1)) + 1 by omega, Nat.pow_succ]
  omega
theorem branch_odd (c : List Bytes) (d k i : Nat) (h : c.length ≤ 2 ^ d) (hk : k < d) (hi : i < 2 ^ d) (ho : i / 2 ^ k % 2 = 1) : branchP c i (k + 1) = branchP c i k ++ [(fullL c d k).getD (i / 2 ^ k - 1) []] ∧ 1 ≤ i / 2 ^ k ∧ i / 2 ^ k < (fullL c d k).length := by
  have h1 := shift_lt d k i (by omega) hi
  have h3 : i / 2 ^ k - 1 < 2 ^ (d - k) := Nat.lt_of_le_of_lt (Nat.sub_le _ _) h1
  rw [fullL_len c d h k (by omega), node_full c d h k (by omega) _ h3, branchP_succ]
  generalize i / 2 ^ k = m at *
  rw [(xor_one m).1 ho, show 2 * (m / 2) = m - 1 by omega]
  exact ⟨rfl, by omega, h1⟩
theorem branch_even (c : List Bytes) (d k i : Nat) (h : c.length ≤ 2 ^ d) (hk : k < d) (hi : i < 2 ^ d) (he : i / 2 ^ k % 2 = 0) : branchP c i (k + 1) = branchP c i k ++ [(fullL c d k).getD (i / 2 ^ k + 1) []] ∧ i / 2 ^ k + 1 < (fullL c d k).length := by
  have h1 := shift_lt d k i (by omega) hi
  have h2 := even_two d k hk
  have h3 : i / 2 ^ k + 1 < 2 ^ (d - k) := by
    generalize i / 2 ^ k = m at *
    omega
  rw [fullL_len c d h k (by omega), node_full c d h k (by omega) _ h3, branchP_succ]
  generalize i / 2 ^ k = m at *
  rw [(xor_one m).2 he, show 2 * (m / 2) = m by omega]
  exact ⟨rfl, h3⟩
/-- a step of the way -/
def stepT (s x : Bytes) (i k : Nat) : Bytes := if i / 2 ^ k % 2 = 1 then s ++ x else x ++ s
theorem wayT_step (r : List Bytes) (x : Bytes) (i k : Nat) (h : k < r.length) : wayT x (r.take (k + 1)) i = wayT x (r.take k) i ++ [stepT (r.getD k []) (wayP x (r.take k) i) i k] := by
  rw [take_step r [] k h, wayT_snoc, List.length_take, Nat.min_eq_left (by omega)]
  rfl
theorem wayP_step (r : List Bytes) (x : Bytes) (i k : Nat) (h : k < r.length) : wayP x (r.take (k + 1)) i = sha (stepT (r.getD k []) (wayP x (r.take k) i) i k) := by
  rw [take_step r [] k h, wayP_snoc', List.length_take, Nat.min_eq_left (by omega)]
  unfold stepT
  split <;> rfl
theorem wayP_32 : ∀ (r : List Bytes) (x : Bytes) (i : Nat), x.length = 32 → (wayP x r i).length = 32
  | [], x, i, h => h
  | s :: r, x, i, h => by
    unfold wayP
    exact wayP_32 r _ _ (by split <;> exact sha_len _)
theorem getD_mem {l : List Bytes} {k : Nat} (h : k < l.length) : l.getD k [] ∈ l := by
  rw [List.getD, List.getElem?_eq_getElem h]
  exact List.getElem_mem h
theorem way_in (r : List Bytes) (x : Bytes) (i : Nat) : ∀ (n : Nat), (∀ s ∈ r, s.length ≤ n) → x.length ≤ n + 32 → ∀ t ∈ wayT x r i, t.length ≤ 2 * n + 32 := by
  induction r generalizing x i with
  | nil => intro n _ _ t ht; simp [wayT] at ht
  | cons s r ih =>
    intro n hs hx t ht
    have hs0 := hs s (by simp)
    rw [wayT] at ht
    rcases List.mem_cons.1 ht with rfl | ht
    · split <;> rw [List.length_append] <;> omega
    · exact ih _ _ n (fun y hy => hs y (by simp [hy])) (by rw [sha_len]; omega) t ht
theorem pairT_in : ∀ (l : List Bytes), (∀ x ∈ l, x.length = 32) → ∀ t ∈ pairT l, t.length = 64
  | [], _, t, h => by simp [pairT] at h
  | [_], _, t, h => by simp [pairT] at h
  | a :: b :: r, hl, t, h => by
    simp only [pairT, List.mem_cons] at h
    rcases h with rfl | h
    · rw [List.length_append, hl a (by simp), hl b (by simp)]
    · exact pairT_in r (fun x hx => hl x (by simp [hx])) t h
theorem sums_in (c : List Bytes) (d n : Nat) (hc : ∀ x ∈ c, x.length = 32) : ∀ t ∈ sumsP c d n, t.length = 64 := by
  intro t ht
  unfold sumsP at ht
  obtain ⟨k, _, h⟩ := List.mem_flatMap.1 ht
  exact pairT_in _ (full_all c d hc k) t h
theorem sums_len (c : List Bytes) (d : Nat) (h : c.length ≤ 2 ^ d) : ∀ n, n ≤ d → (sumsP c d n).length ≤ n * 2 ^ d
  | 0, _ => by simp [sumsP]
  | n + 1, hn => by
    have := sums_len c d h n (by omega)
    have h2 : 2 ^ (d - n) ≤ 2 ^ d := Nat.pow_le_pow_right (by omega) (by omega)
    rw [sumsP_succ, List.length_append, pairT_len, fullL_len c d h n (by omega), Nat.add_mul]
    omega
/-- two unlike texts of one sum -/
def Bad (l : List Bytes) (i k : Nat) : Prop := l.getD i [] ≠ l.getD k [] ∧ sha (l.getD i []) = sha (l.getD k [])
theorem clash_none (l : List Bytes) (h : ∀ i, i < l.length → ∀ k, k < i → ¬ Bad l i k) : ¬ Clashes l := by
  rintro ⟨a, ha, b, hb, hn, he⟩
  obtain ⟨i, hi, rfl⟩ := List.getElem_of_mem ha
  obtain ⟨k, hk, rfl⟩ := List.getElem_of_mem hb
  have e : ∀ j, (h : j < l.length) → l.getD j [] = l[j] := fun j h => by rw [List.getD, List.getElem?_eq_getElem h]; rfl
  rcases Nat.lt_trichotomy i k with h1 | h1 | h1
  · exact h k hk i h1 ⟨by rw [e i hi, e k hk]; exact fun x => hn x.symm, by rw [e i hi, e k hk]; exact he.symm⟩
  · subst h1; exact hn rfl
  · exact h i hi k h1 ⟨by rw [e i hi, e k hk]; exact hn, by rw [e i hi, e k hk]; exact he⟩
theorem clash_some (l : List Bytes) (i k : Nat) (hi : i < l.length) (hk : k < l.length) (h : Bad l i k) : Clashes l := ⟨_, getD_mem hi, _, getD_mem hk, h.1, h.2⟩
/-- the branch of a tree checks -/
theorem back_checks (c : List Bytes) (d i : Nat) (hc : ∀ x ∈ c, x.length = 32) (hd : d ≤ 64) (hi : i < 2 ^ d) : CheckP (nodeP c 0 i) (branchP c i d) i (rootP c d) := by
  refine ⟨by rw [branchP_len]; exact hd, node_len c hc 0 i, node_len c hc d 0, by rw [branchP_len]; exact hi, branchP_all c hc i d, ?_⟩
  rw [way_back, Nat.div_eq_of_lt hi]
  rfl
set_option maxRecDepth 100000 in
/-- what is shown -/
theorem shown_no : ¬ sha (zero32 ++ sha (zero32 ++ zero32)) = sha (zero32 ++ zero32) := by decide +kernel
theorem shown_pack : packP (List.replicate 33 0) = [zero32, zero32] := by
  rw [pack_zeros, show (33 + 31) / 32 = 2 from rfl, List.replicate_succ, List.replicate_succ, List.replicate_zero]
theorem shown_root : rootP [zero32, zero32] 1 = sha (zero32 ++ zero32) := rfl
theorem shown_branch : branchP [zero32, zero32] 1 1 = [zero32] := rfl
theorem shown_yes : CheckP zero32 [zero32] 1 (sha (zero32 ++ zero32)) := ⟨by simp, rfl, sha_len _, by simp, by simp; rfl, rfl⟩
theorem way_one (x s : Bytes) : wayP x [s] 1 = sha (s ++ x) := rfl
theorem shown_not : ¬ CheckP (sha (zero32 ++ zero32)) [zero32] 1 (sha (zero32 ++ zero32)) := by
  rintro ⟨_, _, _, _, _, h⟩
  rw [way_one] at h
  exact shown_no h
/-- a chunk as the program makes it -/
theorem chunk_prog (s : Bytes) (k n : Nat) (hn : n = min 32 (s.length - 32 * k)) : (s.drop (32 * k)).take n ++ zero32.drop n = chunkP s k := by
  unfold chunkP zero32
  have e : (s.drop (32 * k)).take n = (s.drop (32 * k)).take 32 := by
    rw [hn, ← List.length_drop, Nat.min_def]
    split
    · rfl
    · rw [List.take_of_length_le (Nat.le_refl _), List.take_of_length_le (by omega)]
  rw [e, List.drop_replicate, List.length_take, List.length_drop, ← hn]
theorem pack_end (s : Bytes) (k : Nat) (h1 : k ≤ (s.length + 31) / 32) (h2 : s.length ≤ 32 * k) : packN s k = packP s := by
  unfold packP
  rw [show (s.length + 31) / 32 = k by omega]
end Go.Phx
