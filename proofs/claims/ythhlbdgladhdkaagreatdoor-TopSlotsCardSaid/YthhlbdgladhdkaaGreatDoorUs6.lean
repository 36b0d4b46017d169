/- What the later texts stand on (TriP, NibP, PrfP, Rlp2): plain laws and walks, each by its own conditions. -/
import Derived.Test.YthhlbdgladhdkaaGreatDoorUs4
import Derived.Test.YthhlbdgladhdkaaGreatDoorUs5
set_option linter.unusedSimpArgs false
set_option linter.unusedVariables false
section
namespace Go.Phx

mutual
inductive Nd where
 | leaf (p : Bytes) (v : Bytes)
 | ext (p : Bytes) (n : Nd)
 | br (c : Ch)
inductive Ch where
 | nil
 | cons (h : UInt8) (n : Nd) (c : Ch)
end
mutual
def findN : Nd → Bytes → Bytes
 | .leaf p v, q => if q = p then v else []
 | .ext p n, q => if q.take p.length = p then findN n (q.drop p.length) else []
 | .br c, q => findC c q
def findC : Ch → Bytes → Bytes
 | .nil, _ => []
 | .cons k n c, q => if q.take 1 = [k] then findN n (q.drop 1) else findC c q
end
abbrev Pr := Bytes × Bytes
def commonP : Bytes → Bytes → Nat
 | a :: x, b :: y => if a = b then commonP x y + 1 else 0
 | _, _ => 0
def runsP : List Pr → List (UInt8 × List Pr)
 | [] => []
 | ([], v) :: r => runsP r
 | (h :: p, v) :: r => match runsP r with
  | [] => [(h, [(p, v)])]
  | (k, m) :: s => if h = k then (h, (p, v) :: m) :: s else (h, [(p, v)]) :: (k, m) :: s
def behindP (n : Nat) (l : List Pr) : List Pr := l.map fun x => (x.1.drop n, x.2)
def chOf (f : List Pr → Nd) : List (UInt8 × List Pr) → Ch
 | [] => .nil
 | (k, m) :: s => .cons k (f m) (chOf f s)
def growP : Nat → List Pr → Nd
 | 0, _ => .leaf [] []
 | k + 1, l => match l with
  | [] => .leaf [] []
  | [x] => .leaf x.1 x.2
  | x :: y :: r =>
   let n := commonP x.1 ((x :: y :: r).getLast (by simp)).1
   if 0 < n then .ext (x.1.take n) (growP k (behindP n (x :: y :: r))) else .br (chOf (growP k) (runsP (x :: y :: r)))
def lookP : List Pr → Bytes → Bytes
 | [], _ => []
 | x :: r, q => if q = x.1 then x.2 else lookP r q
def ltB : Bytes → Bytes → Prop
 | [], [] => False
 | [], _ :: _ => True
 | _ :: _, [] => False
 | a :: x, b :: y => a.toNat < b.toNat ∨ a = b ∧ ltB x y
def leB (a b : Bytes) : Prop := a = b ∨ ltB a b
theorem ltB_cons {a b : UInt8} {x y : Bytes} : ltB (a :: x) (b :: y) ↔ a.toNat < b.toNat ∨ a = b ∧ ltB x y := Iff.rfl
theorem leB_cons {a b : UInt8} {x y : Bytes} : leB (a :: x) (b :: y) ↔ a.toNat < b.toNat ∨ a = b ∧ leB x y := by
 unfold leB
 rw [ltB_cons]
 constructor
 ·rintro (h | h | ⟨h, k⟩)
  ·injection h with h1 h2
   exact .inr ⟨h1, .inl h2⟩
  ·exact .inl h
  ·exact .inr ⟨h, .inr k⟩
 ·rintro (h | ⟨rfl, rfl | h⟩)
  ·exact .inr (.inl h)
  ·exact .inl rfl
  ·exact .inr (.inr ⟨rfl, h⟩)
theorem squeeze : ∀ (n : Nat) (a x b : Bytes), leB a x → leB x b → a.take n = b.take n → n ≤ a.length → n ≤ x.length → n ≤ b.length → x.take n = a.take n
 | 0, _, _, _, _, _, _, _, _, _ => by simp
 | n + 1, [], _, _, _, _, _, h, _, _ => by simp at h
 | n + 1, _ :: _, [], _, _, _, _, _, h, _ => by simp at h
 | n + 1, _ :: _, _ :: _, [], _, _, _, _, _, h => by simp at h
 | n + 1, a :: A, x :: X, b :: B, h1, h2, h3, l1, l2, l3 => by
  rw [leB_cons] at h1 h2
  simp only [List.take_succ_cons, List.cons.injEq] at h3 ⊢
  obtain ⟨rfl, h3⟩ := h3
  have hx : x = a := by
   rcases h1 with h1 | ⟨h1, _⟩
   ·rcases h2 with h2 | ⟨h2, _⟩
    ·omega
    ·exact h2
   ·exact h1.symm
  subst hx
  have h1' : leB A X := by rcases h1 with h1 | ⟨_, h1⟩; omega; exact h1
  have h2' : leB X B := by rcases h2 with h2 | ⟨_, h2⟩; omega; exact h2
  exact ⟨rfl, squeeze n A X B h1' h2' h3 (by simpa using l1) (by simpa using l2) (by simpa using l3)⟩
theorem common_take : ∀ (a b : Bytes), a.take (commonP a b) = b.take (commonP a b) ∧ commonP a b ≤ a.length ∧ commonP a b ≤ b.length
 | [], b => by simp [commonP]
 | _ :: _, [] => by simp [commonP]
 | a :: x, b :: y => by
  unfold commonP
  by_cases h : a = b
  ·subst h
   rw [if_pos rfl]
   obtain ⟨h1, h2, h3⟩ := common_take x y
   exact ⟨by simp [h1], by simp; omega, by simp; omega⟩
  ·rw [if_neg h]
   simp
def SortP (l : List Pr) : Prop := l.Pairwise fun a b => ltB a.1 b.1
theorem ltB_drop : ∀ (n : Nat) (a b : Bytes), a.take n = b.take n → n ≤ a.length → n ≤ b.length → ltB a b → ltB (a.drop n) (b.drop n)
 | 0, a, b, _, _, _, h => h
 | n + 1, [], _, _, h, _, _ => by simp at h
 | n + 1, _ :: _, [], _, _, h, _ => by simp at h
 | n + 1, a :: x, b :: y, h, l1, l2, k => by
  simp only [List.take_succ_cons, List.cons.injEq] at h
  obtain ⟨rfl, h⟩ := h
  rw [ltB_cons] at k
  have k' : ltB x y := by rcases k with k | ⟨_, k⟩; omega; exact k
  exact ltB_drop n x y h (by simpa using l1) (by simpa using l2) k'
theorem sort_behind {n : Nat} {l : List Pr} {p : Bytes} (hs : SortP l) (hp : ∀ x ∈ l, x.1.take n = p) (hl : ∀ x ∈ l, n ≤ x.1.length) : SortP (behindP n l) := by
 unfold SortP behindP
 rw [List.pairwise_map]
 exact List.Pairwise.imp_of_mem (fun {a b} ha hb h => ltB_drop n a.1 b.1 ((hp a ha).trans (hp b hb).symm) (hl a ha) (hl b hb) h) hs
theorem look_behind {n : Nat} {p q : Bytes} : ∀ {l : List Pr}, (∀ x ∈ l, x.1.take n = p) → q.take n = p → lookP l q = lookP (behindP n l) (q.drop n)
 | [], _, _ => rfl
 | x :: r, hp, hq => by
  have ih := look_behind (n := n) (p := p) (q := q) (l := r) (fun y hy => hp y (List.mem_cons_of_mem _ hy)) hq
  unfold behindP at ih ⊢
  rw [List.map_cons, lookP, lookP, ih]
  have hx := hp x List.mem_cons_self
  have e : q = x.1 ↔ q.drop n = x.1.drop n := by
   constructor
   ·rintro rfl; rfl
   ·intro h
    rw [← List.take_append_drop n q, ← List.take_append_drop n x.1, h, hq, hx]
  by_cases h : q = x.1
  ·rw [if_pos h, if_pos (e.1 h)]
  ·rw [if_neg h, if_neg fun k => h (e.2 k)]
theorem look_none {q : Bytes} : ∀ {l : List Pr}, (∀ x ∈ l, q ≠ x.1) → lookP l q = []
 | [], _ => rfl
 | x :: r, h => by
  rw [lookP, if_neg (h x List.mem_cons_self)]
  exact look_none fun y hy => h y (List.mem_cons_of_mem _ hy)
theorem runs_all : ∀ (l : List Pr) (k : UInt8) (m : List Pr), (k, m) ∈ runsP l → ∀ x ∈ m, (k :: x.1, x.2) ∈ l
 | [], k, m, h, _, _ => by simp [runsP] at h
 | ([], v) :: r, k, m, h, x, hx => List.mem_cons_of_mem _ (runs_all r k m (by simpa [runsP] using h) x hx)
 | (h0 :: p, v) :: r, k, m, h, x, hx => by
  rw [runsP] at h
  cases e : runsP r with
  | nil =>
   rw [e] at h
   simp only [List.mem_singleton, Prod.mk.injEq] at h
   obtain ⟨rfl, rfl⟩ := h
   simp only [List.mem_singleton] at hx
   subst hx
   exact List.mem_cons_self
  | cons y s =>
   obtain ⟨k2, m2⟩ := y
   rw [e] at h
   dsimp only at h
   by_cases hk : h0 = k2
   ·rw [if_pos hk] at h
    rcases List.mem_cons.1 h with h | h
    ·simp only [Prod.mk.injEq] at h
     obtain ⟨rfl, rfl⟩ := h
     rcases List.mem_cons.1 hx with hx | hx
     ·subst hx; exact List.mem_cons_self
     ·refine List.mem_cons_of_mem _ (runs_all r k m2 ?_ x hx)
      rw [e, hk]; exact List.mem_cons_self
    ·exact List.mem_cons_of_mem _ (runs_all r k m (by rw [e]; exact List.mem_cons_of_mem _ h) x hx)
   ·rw [if_neg hk] at h
    rcases List.mem_cons.1 h with h | h
    ·simp only [Prod.mk.injEq] at h
     obtain ⟨rfl, rfl⟩ := h
     simp only [List.mem_singleton] at hx
     subst hx
     exact List.mem_cons_self
    ·exact List.mem_cons_of_mem _ (runs_all r k m (by rw [e]; exact h) x hx)
theorem runs_head (h : UInt8) (p v : Bytes) (r : List Pr) : ∃ m s, runsP ((h :: p, v) :: r) = (h, m) :: s ∧ (p, v) ∈ m := by
 rw [runsP]
 cases runsP r with
 | nil => exact ⟨_, _, rfl, List.mem_cons_self⟩
 | cons y s =>
  obtain ⟨k, m⟩ := y
  dsimp only
  by_cases hk : h = k
  ·rw [if_pos hk]; exact ⟨_, _, rfl, List.mem_cons_self⟩
  ·rw [if_neg hk]; exact ⟨_, _, rfl, List.mem_cons_self⟩
theorem runs_some : ∀ (l : List Pr) (k : UInt8) (m : List Pr), (k, m) ∈ runsP l → m ≠ []
 | [], k, m, h => by simp [runsP] at h
 | ([], v) :: r, k, m, h => runs_some r k m (by simpa [runsP] using h)
 | (h0 :: p, v) :: r, k, m, h => by
  rw [runsP] at h
  cases e : runsP r with
  | nil =>
   rw [e] at h
   simp only [List.mem_singleton, Prod.mk.injEq] at h
   rw [h.2]; simp
  | cons y s =>
   obtain ⟨k2, m2⟩ := y
   rw [e] at h
   dsimp only at h
   by_cases hk : h0 = k2
   ·rw [if_pos hk] at h
    rcases List.mem_cons.1 h with h | h
    ·simp only [Prod.mk.injEq] at h
     rw [h.2]; simp
    ·exact runs_some r k m (by rw [e]; exact List.mem_cons_of_mem _ h)
   ·rw [if_neg hk] at h
    rcases List.mem_cons.1 h with h | h
    ·simp only [Prod.mk.injEq] at h
     rw [h.2]; simp
    ·exact runs_some r k m (by rw [e]; exact h)
theorem sort_runs : ∀ (l : List Pr), SortP l → ∀ k m, (k, m) ∈ runsP l → SortP m
 | [], _, k, m, h => by simp [runsP] at h
 | ([], v) :: r, hs, k, m, h => sort_runs r (List.Pairwise.of_cons hs) k m (by simpa [runsP] using h)
 | (h0 :: p, v) :: r, hs, k, m, h => by
  have ih := sort_runs r (List.Pairwise.of_cons hs)
  rw [runsP] at h
  cases e : runsP r with
  | nil =>
   rw [e] at h
   simp only [List.mem_singleton, Prod.mk.injEq] at h
   rw [h.2]; exact List.pairwise_singleton _ _
  | cons y s =>
   obtain ⟨k2, m2⟩ := y
   rw [e] at h ih
   dsimp only at h
   by_cases hk : h0 = k2
   ·rw [if_pos hk] at h
    rcases List.mem_cons.1 h with h | h
    ·simp only [Prod.mk.injEq] at h
     rw [h.2]
     refine List.Pairwise.cons (fun x hx => ?_) (ih k2 m2 List.mem_cons_self)
     have hm := runs_all r k2 m2 (by rw [e]; exact List.mem_cons_self) x hx
     have := (List.pairwise_cons.1 hs).1 _ hm
     dsimp only at this
     rw [ltB_cons, hk] at this
     rcases this with h | h
     ·omega
     ·exact h.2
    ·exact ih k m (List.mem_cons_of_mem _ h)
   ·rw [if_neg hk] at h
    rcases List.mem_cons.1 h with h | h
    ·simp only [Prod.mk.injEq] at h
     rw [h.2]; exact List.pairwise_singleton _ _
    ·exact ih k m h
def findR : List (UInt8 × List Pr) → Bytes → Bytes
 | [], _ => []
 | (k, m) :: s, q => if q.take 1 = [k] then lookP m (q.drop 1) else findR s q
theorem look_runs : ∀ (l : List Pr), SortP l → (∀ x ∈ l, x.1 ≠ []) → ∀ q : Bytes, lookP l q = findR (runsP l) q
 | [], _, _, q => rfl
 | ([], v) :: r, _, hn, q => absurd rfl (hn _ List.mem_cons_self)
 | (h0 :: p, v) :: r, hs, hn, q => by
  have ih := look_runs r (List.Pairwise.of_cons hs) (fun x hx => hn x (List.mem_cons_of_mem _ hx)) q
  have eq : q = h0 :: p ↔ q.take 1 = [h0] ∧ q.drop 1 = p := by
   cases q with
   | nil => simp
   | cons a q => simp
  rw [lookP, ih, runsP]
  dsimp only
  cases e : runsP r with
  | nil =>
   dsimp only
   rw [findR, findR]
   by_cases h1 : q.take 1 = [h0]
   ·rw [if_pos h1, lookP]
    by_cases h2 : q.drop 1 = p
    ·rw [if_pos h2, if_pos (eq.2 ⟨h1, h2⟩)]
    ·rw [if_neg h2, if_neg fun k => h2 (eq.1 k).2]
     rfl
   ·rw [if_neg h1, if_neg fun k => h1 (eq.1 k).1]
    rfl
  | cons y s =>
   obtain ⟨k2, m2⟩ := y
   dsimp only
   by_cases hk : h0 = k2
   ·rw [if_pos hk, findR, findR, ← hk]
    by_cases h1 : q.take 1 = [h0]
    ·rw [if_pos h1, if_pos h1, lookP]
     by_cases h2 : q.drop 1 = p
     ·rw [if_pos h2, if_pos (eq.2 ⟨h1, h2⟩)]
     ·rw [if_neg h2, if_neg fun k => h2 (eq.1 k).2]
    ·rw [if_neg h1, if_neg h1, if_neg fun k => h1 (eq.1 k).1]
   ·rw [if_neg hk]
    conv => rhs; rw [findR]
    by_cases h1 : q.take 1 = [h0]
    ·rw [if_pos h1, lookP]
     by_cases h2 : q.drop 1 = p
     ·rw [if_pos h2, if_pos (eq.2 ⟨h1, h2⟩)]
     ·rw [if_neg h2, if_neg fun k => h2 (eq.1 k).2, ← e, ← ih]
      refine look_none fun x hx hqx => ?_
      -- the first of the rest has another half byte ahead, a greater one; so have all
      have hlt : ∀ x ∈ r, ∀ a y, x.1 = a :: y → h0.toNat < a.toNat := by
       match r, e, hs, hn with
       | [], e, _, _ => simp [runsP] at e
       | ([], v2) :: r2, _, _, hn => exact absurd rfl (hn ([], v2) (by simp))
       | (k3 :: p3, v3) :: r2, e, hs, hn =>
        obtain ⟨m3, s3, e3, _⟩ := runs_head k3 p3 v3 r2
        rw [e3] at e
        have hk3 : k3 = k2 := by injection e with e _; injection e
        subst hk3
        have h03 : h0.toNat < k3.toNat := by
         have := (List.pairwise_cons.1 hs).1 _ (List.mem_cons_self)
         dsimp only at this
         rw [ltB_cons] at this
         rcases this with h | h
         ·exact h
         ·exact absurd h.1 hk
        intro x hx a y hxa
        rcases List.mem_cons.1 hx with hx | hx
        ·subst hx
         injection hxa with h _
         rw [← h]; exact h03
        ·have := (List.pairwise_cons.1 (List.Pairwise.of_cons hs)).1 x hx
         dsimp only at this
         rw [hxa, ltB_cons] at this
         rcases this with h | h
         ·omega
         ·rw [← h.1]; exact h03
      have hne := hn x (List.mem_cons_of_mem _ hx)
      match hx1 : x.1, hne with
      | a :: y, _ =>
       have := hlt x hx a y hx1
       rw [hqx, hx1] at h1
       simp only [List.take_succ_cons, List.take_zero, List.cons.injEq, and_true] at h1
       rw [h1] at this
       omega
    ·rw [if_neg h1, if_neg fun k => h1 (eq.1 k).1]
theorem find_ch (f : List Pr → Nd) (L : Nat) : ∀ (s : List (UInt8 × List Pr)), (∀ k m, (k, m) ∈ s → ∀ r : Bytes, r.length = L → findN (f m) r = lookP m r) → ∀ q : Bytes, q.length = L + 1 → findC (chOf f s) q = findR s q
 | [], _, q, _ => rfl
 | (k, m) :: s, h, q, hq => by
  rw [chOf, findC, findR]
  by_cases h1 : q.take 1 = [k]
  ·rw [if_pos h1, if_pos h1]
   exact h k m List.mem_cons_self _ (by simp; omega)
  ·rw [if_neg h1, if_neg h1]
   exact find_ch f L s (fun k m hm => h k m (List.mem_cons_of_mem _ hm)) q hq
theorem sort_last : ∀ (l : List Pr) (hl : l ≠ []), SortP l → ∀ x ∈ l, leB x.1 (l.getLast hl).1
 | [], hl, _, _, _ => absurd rfl hl
 | [y], _, _, x, hx => by
  simp only [List.mem_singleton] at hx
  subst hx
  exact .inl rfl
 | y :: z :: r, hl, hs, x, hx => by
  rw [List.getLast_cons (by simp)]
  rcases List.mem_cons.1 hx with hx | hx
  ·subst hx
   exact .inr ((List.pairwise_cons.1 hs).1 _ (List.getLast_mem _))
  ·exact sort_last (z :: r) (by simp) (List.Pairwise.of_cons hs) x hx
theorem find_grow : ∀ (k : Nat) (l : List Pr) (L : Nat) (q : Bytes), l ≠ [] → SortP l → (∀ x ∈ l, x.1.length = L) → L < k → q.length = L → findN (growP k l) q = lookP l q
 | 0, _, _, _, _, _, _, h, _ => absurd h (by omega)
 | k + 1, [], _, _, h, _, _, _, _ => absurd rfl h
 | k + 1, [x], L, q, _, _, _, _, _ => by
  rw [growP, findN, lookP, lookP]
 | k + 1, x :: y :: r, L, q, _, hs, hlen, hk, hq => by
  rw [growP]
  try dsimp only
  obtain ⟨hc1, hc2, hc3⟩ := common_take x.1 ((x :: y :: r).getLast (by simp)).1
  generalize hn : commonP x.1 ((x :: y :: r).getLast (by simp)).1 = n at *
  have hL1 : 0 < L := by
   rcases Nat.eq_zero_or_pos L with h0 | h0
   ·have hx := hlen x (by simp)
    have hy := hlen y (by simp)
    rw [h0] at hx hy
    have := (List.pairwise_cons.1 hs).1 y (by simp)
    rw [List.eq_nil_of_length_eq_zero hx, List.eq_nil_of_length_eq_zero hy] at this
    exact absurd this (by simp [ltB])
   ·exact h0
  have hnL : n ≤ L := by rw [← hlen x (by simp)]; exact hc2
  by_cases h0 : 0 < n
  ·rw [if_pos h0, findN]
   have hall : ∀ z ∈ x :: y :: r, z.1.take n = x.1.take n := fun z hz => by
    refine squeeze n x.1 z.1 _ ?_ (sort_last _ (by simp) hs z hz) hc1 hc2 ?_ hc3
    ·rcases List.mem_cons.1 hz with hz | hz
     ·subst hz; exact .inl rfl
     ·exact .inr ((List.pairwise_cons.1 hs).1 z hz)
    ·rw [hlen z hz]; exact hnL
   have hpl : (x.1.take n).length = n := by rw [List.length_take]; omega
   rw [hpl]
   by_cases hq1 : q.take n = x.1.take n
   ·rw [if_pos hq1, look_behind hall hq1]
    refine find_grow k _ (L - n) _ (by simp [behindP]) (sort_behind hs hall fun z hz => by rw [hlen z hz]; exact hnL) (fun z hz => ?_) (by omega) (by simp; omega)
    unfold behindP at hz
    obtain ⟨z2, hz2, rfl⟩ := List.mem_map.1 hz
    simp [hlen z2 hz2]
   ·rw [if_neg hq1, look_none fun z hz hqz => hq1 (by rw [hqz]; exact hall z hz)]
  ·rw [if_neg h0, findN, look_runs _ hs (fun z hz h => by have := hlen z hz; rw [h] at this; simp at this; omega)]
   refine find_ch (growP k) (L - 1) _ (fun k2 m hm q2 hq2 => ?_) q (by omega)
   refine find_grow k m (L - 1) q2 (runs_some _ k2 m hm) (sort_runs _ hs k2 m hm) (fun z hz => ?_) (by omega) hq2
   have := hlen _ (runs_all _ k2 m hm z hz)
   simp at this
   omega
end Go.Phx
end
section
namespace Go.Phx

def pathOf : Bytes → Bytes
 | [] => []
 | c :: r => UInt8.ofNat (c.toNat / 16) :: UInt8.ofNat (c.toNat % 16) :: pathOf r
theorem pathOf_len : ∀ s : Bytes, (pathOf s).length = 2 * s.length
 | [] => rfl
 | c :: r => by simp only [pathOf, List.length_cons, pathOf_len r]; omega
def NibP (p : Bytes) : Prop := ∀ h ∈ p, h.toNat < 16
theorem pathOf_nib : ∀ s : Bytes, NibP (pathOf s)
 | [], h, hh => by simp [pathOf] at hh
 | c :: r, h, hh => by
  have hc := c.toNat_lt
  simp only [pathOf, List.mem_cons] at hh
  rcases hh with rfl | rfl | hh
  ·simp only [UInt8.toNat_ofNat']; omega
  ·simp only [UInt8.toNat_ofNat']; omega
  ·exact pathOf_nib r h hh
theorem pathOf_inj : ∀ {a b : Bytes}, pathOf a = pathOf b → a = b
 | [], [], _ => rfl
 | [], _ :: _, h => by simp [pathOf] at h
 | _ :: _, [], h => by simp [pathOf] at h
 | c :: r, d :: s, h => by
  simp only [pathOf, List.cons.injEq] at h
  obtain ⟨h1, h2, h3⟩ := h
  have hc := c.toNat_lt
  have hd := d.toNat_lt
  have h1 := congrArg UInt8.toNat h1
  have h2 := congrArg UInt8.toNat h2
  simp only [UInt8.toNat_ofNat'] at h1 h2
  have : c = d := UInt8.toNat_inj.1 (by omega)
  rw [this, pathOf_inj h3]
theorem NibP.tail {h : UInt8} {p : Bytes} (k : NibP (h :: p)) : NibP p := fun x hx => k x (List.mem_cons_of_mem _ hx)
theorem NibP.head {h : UInt8} {p : Bytes} (k : NibP (h :: p)) : h.toNat < 16 := k h List.mem_cons_self
theorem NibP.drop {p : Bytes} (k : NibP p) (n : Nat) : NibP (p.drop n) := fun x hx => k x (List.mem_of_mem_drop hx)
theorem NibP.take {p : Bytes} (k : NibP p) (n : Nat) : NibP (p.take n) := fun x hx => k x (List.mem_of_mem_take hx)
def twoP : Bytes → Bytes
 | a :: b :: r => UInt8.ofNat (16 * a.toNat + b.toNat) :: twoP r
 | _ => []
theorem path_two : ∀ (p : Bytes), NibP p → p.length % 2 = 0 → pathOf (twoP p) = p
 | [], _, _ => rfl
 | [_], _, h => by simp at h
 | a :: b :: r, hn, h => by
  have ha := hn.head
  have hb := hn.tail.head
  have e1 : UInt8.ofNat ((UInt8.ofNat (16 * a.toNat + b.toNat)).toNat / 16) = a := by
   apply UInt8.toNat_inj.1
   simp only [UInt8.toNat_ofNat']
   omega
  have e2 : UInt8.ofNat ((UInt8.ofNat (16 * a.toNat + b.toNat)).toNat % 16) = b := by
   apply UInt8.toNat_inj.1
   simp only [UInt8.toNat_ofNat']
   omega
  rw [twoP, pathOf, e1, e2, path_two r hn.tail.tail (by simp at h; omega)]
def markP (f : Bool) : Nat := if f then 2 else 0
def formP (p : Bytes) (f : Bool) : Bytes := match p.length % 2 with
 | 0 => UInt8.ofNat (16 * markP f) :: twoP p
 | _ => match p with
  | [] => []
  | a :: r => UInt8.ofNat (16 * (markP f + 1) + a.toNat) :: twoP r
theorem path_form (p : Bytes) (f : Bool) (hn : NibP p) : pathOf (formP p f) = if p.length % 2 = 0 then UInt8.ofNat (markP f) :: 0 :: p else UInt8.ofNat (markP f + 1) :: p := by
 have hm : markP f < 4 := by unfold markP; split <;> omega
 unfold formP
 rcases Nat.mod_two_eq_zero_or_one p.length with h | h
 ·rw [h, if_pos rfl]
  show pathOf (UInt8.ofNat (16 * markP f) :: twoP p) = _
  rw [pathOf, path_two p hn h]
  have e1 : UInt8.ofNat ((UInt8.ofNat (16 * markP f)).toNat / 16) = UInt8.ofNat (markP f) := by
   apply UInt8.toNat_inj.1
   simp only [UInt8.toNat_ofNat']
   omega
  have e2 : UInt8.ofNat ((UInt8.ofNat (16 * markP f)).toNat % 16) = 0 := by
   apply UInt8.toNat_inj.1
   simp only [UInt8.toNat_ofNat']
   have : (0 : UInt8).toNat = 0 := rfl
   omega
  rw [e1, e2]
 ·rw [h, if_neg (by decide)]
  match p, hn, h with
  | a :: r, hn, h =>
   have ha := hn.head
   show pathOf (UInt8.ofNat (16 * (markP f + 1) + a.toNat) :: twoP r) = _
   rw [pathOf, path_two r hn.tail (by simp at h; omega)]
   have e1 : UInt8.ofNat ((UInt8.ofNat (16 * (markP f + 1) + a.toNat)).toNat / 16) = UInt8.ofNat (markP f + 1) := by
    apply UInt8.toNat_inj.1
    simp only [UInt8.toNat_ofNat']
    omega
   have e2 : UInt8.ofNat ((UInt8.ofNat (16 * (markP f + 1) + a.toNat)).toNat % 16) = a := by
    apply UInt8.toNat_inj.1
    simp only [UInt8.toNat_ofNat']
    omega
   rw [e1, e2]
end Go.Phx
end
section
namespace Go.Phx

section
variable (K : Bytes → Bytes)
def refI (x : It) : It := if (putI x).length < 32 then x else .text (K (putI x))
mutual
def itemN : Nd → It
 | .leaf p v => .list [.text (formP p true), .text v]
 | .ext p n => .list [.text (formP p false), refI K (itemN n)]
 | .br c => .list ((List.range 16).map (fun h => atC c h) ++ [.text []])
def atC : Ch → Nat → It
 | .nil, _ => .text []
 | .cons k n c, h => if k.toNat = h then refI K (itemN n) else atC c h
end
def bytesN (n : Nd) : Bytes := putI (itemN K n)
def ownN (f : Bool) (n : Nd) : List Bytes := if f || decide (32 ≤ (bytesN K n).length) then [bytesN K n] else []
mutual
def wayN : Bool → Nd → Bytes → List Bytes
 | f, .leaf p v, q => ownN K f (.leaf p v)
 | f, .ext p n, q => ownN K f (.ext p n) ++ if q.take p.length = p then wayN false n (q.drop p.length) else []
 | f, .br c, q => ownN K f (.br c) ++ wayC c q
def wayC : Ch → Bytes → List Bytes
 | .nil, _ => []
 | .cons k n c, q => if q.take 1 = [k] then wayN false n (q.drop 1) else wayC c q
end
end
mutual
def GoodN : Nd → Prop
 | .leaf p v => NibP p ∧ v ≠ [] ∧ v.length ≤ 1000 ∧ p.length ≤ 128
 | .ext p n => NibP p ∧ p ≠ [] ∧ p.length ≤ 128 ∧ (∃ c, n = .br c) ∧ GoodN n
 | .br c => GoodC c
def GoodC : Ch → Prop
 | .nil => True
 | .cons k n c => k.toNat < 16 ∧ GoodN n ∧ GoodC c
end
theorem common_rest : ∀ (a b : Bytes), commonP (a.drop (commonP a b)) (b.drop (commonP a b)) = 0
 | [], b => by simp [commonP]
 | a :: x, [] => by simp [commonP]
 | a :: x, b :: y => by
  have e : commonP (a :: x) (b :: y) = if a = b then commonP x y + 1 else 0 := by rw [commonP]
  by_cases h : a = b
  ·rw [e, if_pos h]
   exact common_rest x y
  ·rw [e, if_neg h, List.drop_zero, List.drop_zero, e, if_neg h]
theorem last_behind (n : Nat) (l : List Pr) (h : l ≠ []) (h2 : behindP n l ≠ []) : (behindP n l).getLast h2 = ((l.getLast h).1.drop n, (l.getLast h).2) := List.getLast_map (f := fun x : Pr => (x.1.drop n, x.2)) h2
theorem good_ch (f : List Pr → Nd) : ∀ (s : List (UInt8 × List Pr)), (∀ k m, (k, m) ∈ s → k.toNat < 16 ∧ GoodN (f m)) → GoodC (chOf f s)
 | [], _ => trivial
 | (k, m) :: s, h => ⟨(h k m List.mem_cons_self).1, (h k m List.mem_cons_self).2, good_ch f s fun k m hm => h k m (List.mem_cons_of_mem _ hm)⟩
theorem good_grow : ∀ (k : Nat) (l : List Pr) (L : Nat), l ≠ [] → SortP l → (∀ x ∈ l, x.1.length = L ∧ NibP x.1 ∧ x.2 ≠ [] ∧ x.2.length ≤ 1000) → L < k → L ≤ 128 → GoodN (growP k l)
 | 0, _, _, _, _, _, h, _ => absurd h (by omega)
 | k + 1, [], _, h, _, _, _, _ => absurd rfl h
 | k + 1, [x], L, _, _, h, _, h8 => by
  rw [growP, GoodN]
  obtain ⟨h1, h2, h3, h4⟩ := h x List.mem_cons_self
  exact ⟨h2, h3, h4, by omega⟩
 | k + 1, x :: y :: r, L, _, hs, hl, hk, h8 => by
  have hlen : ∀ z ∈ x :: y :: r, z.1.length = L := fun z hz => (hl z hz).1
  rw [growP]
  try dsimp only
  obtain ⟨hc1, hc2, hc3⟩ := common_take x.1 ((x :: y :: r).getLast (by simp)).1
  generalize hn : commonP x.1 ((x :: y :: r).getLast (by simp)).1 = n at *
  have hnL : n ≤ L := by rw [← hlen x (by simp)]; exact hc2
  have hL1 : 0 < L := by
   rcases Nat.eq_zero_or_pos L with h0 | h0
   ·have hx := hlen x (by simp)
    have hy := hlen y (by simp)
    rw [h0] at hx hy
    have := (List.pairwise_cons.1 hs).1 y (by simp)
    rw [List.eq_nil_of_length_eq_zero hx, List.eq_nil_of_length_eq_zero hy] at this
    exact absurd this (by simp [ltB])
   ·exact h0
  by_cases h0 : 0 < n
  ·rw [if_pos h0, GoodN]
   have hall : ∀ z ∈ x :: y :: r, z.1.take n = x.1.take n := fun z hz => by
    refine squeeze n x.1 z.1 _ ?_ (sort_last _ (by simp) hs z hz) hc1 hc2 ?_ hc3
    ·rcases List.mem_cons.1 hz with hz | hz
     ·subst hz; exact .inl rfl
     ·exact .inr ((List.pairwise_cons.1 hs).1 z hz)
    ·rw [hlen z hz]; exact hnL
   have hpl : (x.1.take n).length = n := by rw [List.length_take]; omega
   refine ⟨(hl x (by simp)).2.1.take n, fun h => by rw [h] at hpl; simp at hpl; omega, by omega, ?_, ?_⟩
   ·match k, hk with
    | k + 1, _ =>
     show ∃ c, growP (k + 1) (behindP n (x :: y :: r)) = .br c
     have hb : behindP n (x :: y :: r) = (x.1.drop n, x.2) :: (y.1.drop n, y.2) :: behindP n r := rfl
     have hlast : ((x.1.drop n, x.2) :: (y.1.drop n, y.2) :: behindP n r).getLast (by simp) = ((((x :: y :: r).getLast (by simp)).1).drop n, ((x :: y :: r).getLast (by simp)).2) := by
      exact last_behind n (x :: y :: r) (by simp) (by simp [behindP])
     rw [hb, growP]
     try dsimp only
     rw [hlast]
     dsimp only
     rw [show commonP (x.1.drop n) ((((x :: y :: r).getLast (by simp)).1).drop n) = 0 by rw [← hn]; exact common_rest _ _]
     exact ⟨_, if_neg (by decide)⟩
    | 0, hk => exact absurd hk (by omega)
   refine good_grow k _ (L - n) (by simp [behindP]) (sort_behind hs hall fun z hz => by rw [hlen z hz]; exact hnL) (fun z hz => ?_) (by omega) (by omega)
   unfold behindP at hz
   obtain ⟨z2, hz2, rfl⟩ := List.mem_map.1 hz
   obtain ⟨h1, h2, h3, h4⟩ := hl z2 hz2
   exact ⟨by simp [h1], h2.drop n, h3, h4⟩
  ·rw [if_neg h0, GoodN]
   refine good_ch (growP k) _ fun k2 m hm => ?_
   have hmem : ∀ z ∈ m, (k2 :: z.1, z.2) ∈ x :: y :: r := runs_all _ k2 m hm
   have hne := runs_some _ k2 m hm
   refine ⟨?_, good_grow k m (L - 1) hne (sort_runs _ hs k2 m hm) (fun z hz => ?_) (by omega) (by omega)⟩
   ·obtain ⟨z, hz⟩ := List.exists_mem_of_ne_nil m hne
    exact (hl _ (hmem z hz)).2.1.head
   ·obtain ⟨h1, h2, h3, h4⟩ := hl _ (hmem z hz)
    simp at h1
    exact ⟨by omega, h2.tail, h3, h4⟩
/-! how deep a node is: it is never too deep to be told -/
theorem put_pos (x : It) : 1 ≤ (putI x).length := List.length_pos_iff.2 (put_ne x)
theorem putL_ge : ∀ l : List It, l.length ≤ (putL l).length
 | [] => by simp [putL]
 | x :: r => by
  rw [putL_cons, List.length_append, List.length_cons]
  have := put_pos x
  have := putL_ge r
  omega
theorem put_list_ge (l : List It) : 1 + (putL l).length ≤ (putI (.list l)).length := by
 rw [putI]
 unfold frameF
 rw [List.length_append]
 have : 1 ≤ (headF 192 (putL l).length).length := by unfold headF; split <;> simp
 omega
theorem put_mem : ∀ {l : List It} {y : It}, y ∈ l → (putI y).length + l.length ≤ (putL l).length + 1
 | x :: r, y, h => by
  rw [putL_cons, List.length_append, List.length_cons]
  rcases List.mem_cons.1 h with h | h
  ·subst h
   have := putL_ge r
   omega
  ·have := put_mem h
   have := put_pos x
   omega
theorem deepL_le {m : Nat} : ∀ {l : List It}, (∀ y ∈ l, deepI y ≤ m) → deepL l ≤ m
 | [], _ => by simp [deepL]
 | x :: r, h => by
  rw [deepL]
  have := h x List.mem_cons_self
  have := deepL_le (l := r) fun y hy => h y (List.mem_cons_of_mem _ hy)
  omega
section
variable (K : Bytes → Bytes)
theorem br_ge (c : Ch) : 18 ≤ (putI (itemN K (.br c))).length := by
 rw [itemN]
 have h1 := put_list_ge ((List.range 16).map (fun h => atC K c h) ++ [.text []])
 have h2 := putL_ge ((List.range 16).map (fun h => atC K c h) ++ [.text []])
 simp at h2
 omega
theorem ref_deep (x : It) : deepI (refI K x) = 1 ∨ ((putI x).length < 32 ∧ refI K x = x) := by
 unfold refI
 by_cases h : (putI x).length < 32
 ·rw [if_pos h]; exact .inr ⟨h, rfl⟩
 ·rw [if_neg h]; exact .inl (by rw [deepI])
theorem ref_ge (x : It) (hK : ∀ b, (K b).length = 32) : min (putI x).length 33 ≤ (putI (refI K x)).length := by
 unfold refI
 by_cases h : (putI x).length < 32
 ·rw [if_pos h]; omega
 ·rw [if_neg h]
  have h1 := ins_le (.text (K (putI x)))
  have h2 : (insI (.text (K (putI x)))).length = 32 := hK _
  have h3 : (putI (.text (K (putI x)))).length ≠ 32 := by
   rcases put_is (.text (K (putI x))) with ⟨d, e, _, e2⟩ | ⟨e, _⟩
   ·injection e2 with e2
    have := hK (putI x)
    rw [e2] at this
    simp at this
   ·rw [e]
    unfold frameF headF
    rw [h2]
    simp [h2]
  omega
mutual
theorem deep_node (hK : ∀ b, (K b).length = 32) : ∀ n, GoodN n → ((putI (itemN K n)).length ≤ 14 → deepI (itemN K n) ≤ 2) ∧ ((putI (itemN K n)).length < 32 → deepI (itemN K n) ≤ 4) ∧ deepI (itemN K n) ≤ 5
 | .leaf p v, _ => by
  have : deepI (itemN K (.leaf p v)) = 2 := by simp [itemN, deepI, deepL]
  omega
 | .ext p n, h => by
  rw [GoodN] at h
  obtain ⟨_, _, _, ⟨c, rfl⟩, hg⟩ := h
  rw [GoodN] at hg
  have hs := deep_ch hK c hg
  have hb := br_ge K c
  have hr := ref_ge K (itemN K (.br c)) hK
  have h1 : deepI (refI K (itemN K (.br c))) ≤ 3 := by
   rcases ref_deep K (itemN K (.br c)) with h | ⟨h, e⟩
   ·omega
   ·rw [e, itemN]
    rw [itemN] at h
    have h2 := put_list_ge ((List.range 16).map (fun h => atC K c h) ++ [.text []])
    have : deepL ((List.range 16).map (fun h => atC K c h) ++ [.text []]) ≤ 2 := deepL_le fun y hy => by
     have hm := put_mem hy
     simp only [List.length_append, List.length_map, List.length_range, List.length_singleton] at hm
     rcases List.mem_append.1 hy with hy | hy
     ·obtain ⟨k, _, rfl⟩ := List.mem_map.1 hy
      exact (hs k).1 (by omega)
     ·simp only [List.mem_singleton] at hy
      subst hy
      simp [deepI]
    rw [deepI]
    omega
  have hd : deepI (itemN K (.ext p (.br c))) ≤ 4 := by
   rw [itemN]
   simp only [deepI, deepL]
   omega
  refine ⟨fun h => absurd h ?_, fun _ => hd, by omega⟩
  rw [itemN]
  have h2 := put_list_ge [It.text (formP p false), refI K (itemN K (.br c))]
  simp only [putL, List.length_append, List.length_nil] at h2
  omega
 | .br c, h => by
  rw [GoodN] at h
  have hs := deep_ch hK c h
  have hb := br_ge K c
  have hd : deepI (itemN K (.br c)) ≤ 5 := by
   rw [itemN, deepI]
   have : deepL ((List.range 16).map (fun h => atC K c h) ++ [.text []]) ≤ 4 := deepL_le fun y hy => by
    rcases List.mem_append.1 hy with hy | hy
    ·obtain ⟨k, _, rfl⟩ := List.mem_map.1 hy
     exact (hs k).2
    ·simp only [List.mem_singleton] at hy
     subst hy
     simp [deepI]
   omega
  refine ⟨fun h => absurd h (by omega), fun h => ?_, hd⟩
  rw [itemN] at h ⊢
  have h2 := put_list_ge ((List.range 16).map (fun h => atC K c h) ++ [.text []])
  have : deepL ((List.range 16).map (fun h => atC K c h) ++ [.text []]) ≤ 2 := deepL_le fun y hy => by
   have hm := put_mem hy
   simp only [List.length_append, List.length_map, List.length_range, List.length_singleton] at hm
   rcases List.mem_append.1 hy with hy | hy
   ·obtain ⟨k, _, rfl⟩ := List.mem_map.1 hy
    exact (hs k).1 (by omega)
   ·simp only [List.mem_singleton] at hy
    subst hy
    simp [deepI]
  rw [deepI]
  omega
theorem deep_ch (hK : ∀ b, (K b).length = 32) : ∀ c, GoodC c → ∀ h : Nat, ((putI (atC K c h)).length ≤ 14 → deepI (atC K c h) ≤ 2) ∧ deepI (atC K c h) ≤ 4
 | .nil, _, h => by simp [atC, deepI]
 | .cons k n c, hg, h => by
  rw [GoodC] at hg
  rw [atC]
  by_cases hk : k.toNat = h
  ·rw [if_pos hk]
   obtain ⟨h1, h2, h3⟩ := deep_node hK n hg.2.1
   rcases ref_deep K (itemN K n) with e | ⟨e, e2⟩
   ·omega
   ·rw [e2]
    exact ⟨h1, h2 e⟩
  ·rw [if_neg hk]
   exact deep_ch hK c hg.2.2 h
end
end
end Go.Phx
end
section
namespace Go.Proofs.YthhlbdgladhdkaaGreatDoor
open BigFrame Go.RowKit Go.Phx Go.Shelf
attribute [local go_sem] Oper.semAt_some

theorem be8_len (n : Nat) : (be8 n).length = 8 := rfl
theorem be8_at (n k : Nat) (hk : k < 8) : (((be8 n).getD k 0).toNat : Int) = (n : Int) / 2 ^ (56 - 8 * k) % 256 := by
 have e : ∀ m : Nat, ((UInt8.ofNat (n / m)).toNat : Int) = (n : Int) / (m : Int) % 256 := fun m => by
  rw [UInt8.toNat_ofNat', ← Int.natCast_ediv]
  omega
 match k, hk with
 | 0, _ => exact e 72057594037927936
 | 1, _ => exact e 281474976710656
 | 2, _ => exact e 1099511627776
 | 3, _ => exact e 4294967296
 | 4, _ => exact e 16777216
 | 5, _ => exact e 65536
 | 6, _ => exact e 256
 | 7, _ =>
  have := e 1
  rw [Nat.div_one] at this
  simp [be8, List.getD]
set_option maxRecDepth 100000 in
set_option maxHeartbeats 16000000 in
theorem number_calls' (n : Nat) (hn : n < 18446744073709551616) (w : World) : Calls Tryz.prog 61 #[.int .u64 (n : Int)] w (Ret w (.string (bs (rlpN n)))) := by
 have hDl := be8_len n
 have hDk := be8_at n
 have hTL : Calls Tryz.prog 29 #[.string (bs (be8 n)), .string ⟨#[0]⟩] = Calls Tryz.prog 29 #[.string (bs (be8 n)), .string ⟨#[0]⟩] := rfl
 have n1 := fun w => Tryz.strings_TrimLeft_one (bs (be8 n)) 0 (by decide) w
 have hr : bs (rlpN n) = ⟨(Lib.trimLeftB (bs (be8 n)).data.toList 0).toArray⟩ := rfl
 rw [hr]
 clear hTL hr
 generalize (⟨(Lib.trimLeftB (bs (be8 n)).data.toList 0).toArray⟩ : ByteArray) = R at *
 generalize be8 n = D at *
 replace hDk := Lib.hid hDk
 replace n1 := Lib.hid n1
 go_enter Tryz.func61, Tryz.ntmps61
 go_wp2_with fail
 have HB0 : Below w.heap.size w (w.alloc (.cells (bcells 8 D 0) 149)) := bel
 have KQ := Blk.new0 w 149 (bcells 8 D 0)
 go_loopw [5] (fun i wr => ∃ k : Nat, k ≤ 8 ∧ i = .int .i64 k ∧ Blk wr w.heap.size 149 (bcells 8 D k) ∧ Below w.heap.size w wr) (fun i _ => (8 - intOf i).toNat)
 case atStart => exact ⟨0, Nat.zero_le _, rfl, KQ, HB0⟩
 case round =>
  clear KQ HB0
  obtain ⟨k, hk, rfl, K0, HB⟩ := hrel
  by_cases hkt : k < 8
  ·have hd := hDk.out k hkt
   have g1 := bcells_at 8 D k hkt hDl
   have hset := bcells_set 8 D k hkt hDl _ hd.symm
   have e1 : (56 - 8 * (k : Int)).toNat = 56 - 8 * k := by omega
   have e2 : (0 : Int) ≤ 56 - 8 * (k : Int) := by omega
   replace hset := Lib.hid hset
   replace hd := Lib.hid hd
   replace K0 := Lib.hid K0
   replace HB := Lib.hid HB
   (obtain ⟨k0, f0, l0, m0⟩ := K0.out.rl)
   go_wp2_with fail
   go_roundw
   case rel => exact ⟨k + 1, by omega, by go_num, by rw [← hset.out]; exact K0.out.set_ _ _, HB.out.setCell (by simp) _⟩
   case measure => simp [intOf]; omega
  ·obtain rfl : k = 8 := by omega
   rw [bcells_all 8 D hDl] at K0
   have hcv := fun c => conv_row _ w.heap.size _ D 8 c K0 hDl
   replace K0 := Lib.hid K0
   replace HB := Lib.hid HB
   clear hDk
   simp only [show ((8 : Nat) : Int) = 8 from rfl]
   go_wp2_with fail
   refine (n1.out _).mono ?_
   rintro e w' ⟨rfl, rfl⟩
   go_wp2_with fail
   go_ret
   exact ⟨rfl, HB.out⟩
theorem u8_of (x : Int) (m : Nat) (h : x % 256 = (m : Int) % 256) : UInt8.ofNat (IntKind.u8.wrap x).toNat = UInt8.ofNat m := by
 apply UInt8.toNat_inj.1
 rw [UInt8.toNat_ofNat', UInt8.toNat_ofNat', IntKind.wrap_u8]
 omega
set_option maxRecDepth 100000 in
set_option maxHeartbeats 16000000 in
theorem framed_calls (s : Bytes) (hs : s.length ≤ 1000000000) (f : Nat) (hf : f ≤ 192) (w : World) : Calls Tryz.prog 42 #[.string (bs s), .int .u8 (f : Int)] w (Ret w (.string (bs (frameF f s)))) := by
 obtain ⟨n, hn⟩ : ∃ n, s.length = n := ⟨_, rfl⟩
 by_cases h56 : n < 56
 ·have e : frameF f s = [UInt8.ofNat (f + n)] ++ s := by unfold frameF headF; rw [hn, if_pos h56]
  have h1 : (n : Int) < 56 := by omega
  rw [e]
  clear e
  have hc := fun W => conv1 W 5 (IntKind.u8.wrap ((f : Int) + IntKind.u8.wrap (n : Int)))
  rw [u8_of _ (f + n) (by rw [IntKind.wrap_u8]; omega)] at hc
  have hsz : (bs s).size = n := by rw [bs_size, hn]
  clear hn hs h56
  go_enter Tryz.func42, Tryz.ntmps42
  go_wp2_with fail
  go_ret
  exact ⟨by simp [UInt8.ofNat_add], bel⟩
 ·have e : frameF f s = [UInt8.ofNat (f + 55 + (rlpN n).length)] ++ rlpN n ++ s := by unfold frameF headF; rw [hn, if_neg h56]; simp
  have h1 : ¬ (n : Int) < 56 := by omega
  have h64 : IntKind.u64.wrap (n : Int) = (n : Int) := by rw [IntKind.wrap_u64]; omega
  have hk8 := rlpN_len n
  rw [e]
  clear e
  have nn := fun W => number_calls' n (by omega) W
  have hsz : (bs s).size = n := by rw [bs_size, hn]
  generalize rlpN n = R at *
  have hc := fun W => conv1 W 5 (IntKind.u8.wrap (IntKind.u8.wrap ((f : Int) + 55) + IntKind.u8.wrap (R.length : Int)))
  rw [u8_of _ (f + 55 + R.length) (by rw [IntKind.wrap_u8, IntKind.wrap_u8]; omega)] at hc
  replace nn := Lib.hid nn
  have hb : ¬ 9223372036854775807 < R.length + 1 + n := by omega
  clear hn hs h56
  go_enter Tryz.func42, Tryz.ntmps42
  go_wp2_with fail
  refine (nn.out _).mono ?_
  rintro e w' ⟨rfl, hB⟩
  go_wp2_with fail
  go_ret
  exact ⟨by simp [UInt8.ofNat_add], hB.alloc hB.size _⟩
set_option maxRecDepth 100000 in
set_option maxHeartbeats 16000000 in
theorem put_calls : ∀ (k : Nat) (x : It), deepI x ≤ k → (putI x).length ≤ 1000000000 → ∀ (v : Iv) (w : World), Rep w x v → Calls Tryz.prog 28 #[v.val] w (Ret w (.string (bs (putI x)))) := by
 intro k
 induction k with
 | zero => intro x hx; cases x <;> simp [deepI] at hx
 | succ k ih =>
  intro x hx hp v w R
  cases x with
  | text b =>
   obtain rfl := R.txt
   clear R ih
   have hbl : b.length ≤ 1000000000 := Nat.le_trans (ins_le (.text b)) hp
   by_cases h1 : b.length = 1
   ·obtain ⟨c, rfl⟩ : ∃ c, b = [c] := by
     match b, h1 with
     | [c], _ => exact ⟨c, rfl⟩
    have hix : ∀ h, (bs [c])[0]'h = c := fun _ => rfl
    by_cases hc : c.toNat < 128
    ·have e : putI (.text [c]) = [c] := by rw [putI, if_pos (by simp [isOne, hc])]
     have hc2 : (c.toNat : Int) < 128 := by omega
     rw [e]
     go_enter Tryz.func28, Tryz.ntmps28
     go_wp2_with fail
     go_ret
     exact ⟨rfl, bel⟩
    ·have e : putI (.text [c]) = frameF 128 [c] := by rw [putI, if_neg (by simp [isOne, hc])]
     have hc2 : ¬ (c.toNat : Int) < 128 := by omega
     have n1 := Lib.hid (fun w => framed_calls [c] (by simp) 128 (by omega) w)
     rw [e]
     clear hp hbl
     go_enter Tryz.func28, Tryz.ntmps28
     go_wp2_with fail
     refine (n1.out _).mono ?_
     rintro e w1 ⟨rfl, hB⟩
     go_wp2_with fail
     go_ret
     exact ⟨rfl, bel⟩
   ·have e : putI (.text b) = frameF 128 b := by
     rw [putI, if_neg]
     intro h
     obtain ⟨x, rfl, _⟩ := one_is h
     exact h1 rfl
    have h2 : ¬ (b.length : Int) = 1 := by omega
    have h3 : ((b.length : Int) == 1) = false := by rw [beq_eq_false_iff_ne]; exact h2
    have n1 := Lib.hid (fun w => framed_calls b hbl 128 (by omega) w)
    rw [e]
    clear hp h1
    go_enter Tryz.func28, Tryz.ntmps28
    go_wp2_with fail
    refine (n1.out _).mono ?_
    rintro e w1 ⟨rfl, hB⟩
    go_wp2_with fail
    go_ret
    exact ⟨rfl, bel⟩
  | list l =>
   obtain ⟨f, t, A, n, c⟩ := v
   obtain ⟨h1, h2, h3, hc, hm2, hr⟩ := R.row
   simp only at h1 h2 h3 hc hm2 hr
   subst h1 h2 h3
   have hpl : (putL l).length ≤ 1000000000 := Nat.le_trans (ins_le (.list l)) hp
   have e : putI (.list l) = frameF 192 (putL l) := by rw [putI]
   have n1 := Lib.hid (fun w => framed_calls (putL l) hpl 192 (by omega) w)
   have hlen : l.length ≤ 1000000000 := Nat.le_trans (putL_ge l) hpl
   have hel : ∀ (i : Nat) (y : It), l[i]? = some y → ∀ (v : Iv) (w' : World), Rep w' y v → Calls Tryz.prog 28 #[v.val] w' (Ret w' (.string (bs (putI y)))) := fun i y hy v w' R' => by
    have hm := List.mem_of_getElem? hy
    exact ih y (by rw [deepI] at hx; have := deepL_mem hm; omega) (Nat.le_trans (putL_mem_le hm) hpl) v w' R'
   have hpre : ∀ k, (putL (l.take k)).length ≤ (putL l).length := fun k => by
    conv => rhs; rw [← List.take_append_drop k l, putL_append, List.length_append]
    omega
   rw [e]
   replace hel := Lib.hid hel
   replace hr := Lib.hid hr
   replace hpre := Lib.hid hpre
   clear R ih e hp hc hm2 hx
   go_enter Tryz.func28, Tryz.ntmps28
   go_wp2_with fail
   have HB0 : Below w.heap.size w ((w.alloc (Obj.cells #[.bool true, .string (bs []), .slice A l.length c] 52)).alloc (Obj.cells #[.pointer none, .slice none 0 0] 66)) := bel
   have hb0 : BldAt w.heap.size (w.heap.size + 1) [] ((w.alloc (Obj.cells #[.bool true, .string (bs []), .slice A l.length c] 52)).alloc (Obj.cells #[.pointer none, .slice none 0 0] 66)) := bld_new1 _ _
   go_loopw [11] (fun i wr => ∃ k : Nat, k ≤ l.length ∧ i = .int .i64 k ∧ BldAt w.heap.size (w.heap.size + 1) (putL (l.take k)) wr ∧ Below w.heap.size w wr) (fun i _ => (l.length - intOf i).toNat)
   case atStart => exact ⟨0, by omega, rfl, by simpa [putL] using hb0, HB0⟩
   case round =>
    clear hb0 HB0
    obtain ⟨k, hk, rfl, hb, HB⟩ := hrel
    by_cases hlt : k < l.length
    ·obtain ⟨bb, o, v, rfl, hbb, c0, c1, c2, R⟩ := (hr.out.below HB).at k l[k] (List.getElem?_eq_getElem hlt)
     have hE := hel.out k l[k] (List.getElem?_eq_getElem hlt) v
     have hT : putL (l.take (k + 1)) = putL (l.take k) ++ putI l[k] := by rw [List.take_add_one, List.getElem?_eq_getElem hlt, putL_append]; simp [putL]
     have hp1 := hpre.out (k + 1)
     rw [hT, List.length_append] at hp1
     generalize l[k] = y at *
     generalize putL (l.take k) = q at *
     obtain ⟨f, t, vA, vn, vc⟩ := v
     simp only at c0 c1 c2
     replace hT := Lib.hid hT
     have hE2 := Lib.hid (fun w' (hB : Below wr.heap.size wr w') => hE w' (R.on hB))
     replace hb := Lib.hid hb
     replace HB := Lib.hid HB
     have hqy : q.length + (putI y).length ≤ 140737488355328 := by omega
     clear hel hr R hE
     go_wp2_with fail
     refine (hE2.out _ bel).mono ?_
     rintro e w1 ⟨rfl, hB1⟩
     have hz1 := hB1.size
     simp at hz1
     have hWn : ∀ o, Below wr.heap.size wr (wr.alloc o) := fun o => (Below.refl _ _).alloc (Nat.le_refl _) _
     have hb1 := Lib.hid (bld_below (bld_below hb.out (hWn _)) hB1)
     have HB1 := Lib.hid ((HB.out.trans (Below.mono (hWn _) HB.out.size)).trans (Below.mono hB1 (by have := HB.out.size; simp; omega)))
     clear hWn
     clear hB1 hE2 c0 c1 c2 hb HB
     go_wp2_with fail
     refine (write_str _ _ q (putI y) _ hb1.out hqy HB1.out.size).mono ?_
     rintro e w2 ⟨rfl, hb2, hB2⟩
     have HB2 := Lib.hid (HB1.out.trans hB2)
     replace hb2 := Lib.hid hb2
     clear hb1 HB1 hB2
     go_wp2_with fail
     go_roundw
     case rel => exact ⟨k + 1, by omega, by go_num, by rw [hT.out]; exact hb2.out, HB2.out⟩
     case measure => simp [intOf]; omega
    ·obtain rfl : k = l.length := by omega
     rw [List.take_of_length_le (Nat.le_refl _)] at hb
     replace hb := Lib.hid hb
     replace HB := Lib.hid HB
     clear hel hr
     go_wp2_with fail
     refine (bld_string _ _ _ _ hb.out HB.out.size).mono ?_
     rintro e w2 ⟨rfl, hB2⟩
     have HB2 := Lib.hid (HB.out.trans hB2)
     clear hb HB hB2
     go_wp2_with fail
     refine (n1.out _).mono ?_
     rintro e w3 ⟨rfl, hB3⟩
     go_wp2_with fail
     go_ret
     exact ⟨rfl, HB2.out.trans (hB3.mono HB2.out.size)⟩
end Go.Proofs.YthhlbdgladhdkaaGreatDoor
end
