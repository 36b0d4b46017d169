/- What the later texts stand on (PrfQ, Nod, Rlp6, RunP, Seen, Rgt, Srt, Beh, SrtP, Root): plain laws and walks, each by its own conditions. -/
import Derived.Test.YthhlbdgladhdkaaGreatDoorUs6
import Derived.Test.YthhlbdgladhdkaaGreatDoorUs13
import Derived.Test.YthhlbdgladhdkaaGreatDoorUs9
import Derived.Test.YthhlbdgladhdkaaGreatDoorUs5
import Derived.Maps.Own
import Derived.ChangeKeysEq
import Derived.Maps.OwnSet
import Derived.Maps.Views
import Derived.Test.YthhlbdgladhdkaaGreatDoorUs4
import Derived.Shelf.SlSortCmp.WholeK
import Derived.Shelf.SlSortCmp.NoneTotal
import Derived.Shelf.Lay
import Derived.Laws.Cover1
import Derived.Ground.SlsfProg
import Derived.Deep.AppendLies
import Derived.Test.YthhlbdgladhdkaaGreatDoorUs11
set_option linter.unusedSimpArgs false
set_option linter.unusedVariables false
section
namespace Go.Phx

def kidsC : Ch → List (Bytes × Nd)
 | .nil => []
 | .cons k n c => ([k], n) :: kidsC c
def kidsN : Nd → List (Bytes × Nd)
 | .leaf _ _ => []
 | .ext p n => [(p, n)]
 | .br c => kidsC c
def pickN (l : List (Bytes × Nd)) (q : Bytes) : Option (Bytes × Nd) := l.find? fun x => decide (q.take x.1.length = x.1)
theorem pick_nil (q : Bytes) : pickN [] q = none := rfl
theorem pick_yes {x : Bytes × Nd} {l : List (Bytes × Nd)} {q : Bytes} (h : q.take x.1.length = x.1) : pickN (x :: l) q = some x := by
 unfold pickN
 rw [List.find?_cons, decide_eq_true h]
theorem pick_no {x : Bytes × Nd} {l : List (Bytes × Nd)} {q : Bytes} (h : ¬ q.take x.1.length = x.1) : pickN (x :: l) q = pickN l q := by
 unfold pickN
 rw [List.find?_cons, decide_eq_false h]
section
variable (K : Bytes → Bytes)
def onN (f : Bytes × Nd → Bytes → List Bytes) (q : Bytes) : Option (Bytes × Nd) → List Bytes
 | none => []
 | some x => f x (q.drop x.1.length)
def tailN (d : Nd) (q : Bytes) : List Bytes := onN (fun x r => wayN K false x.2 r) q (pickN (kidsN d) q)
theorem wayC_pick (q : Bytes) : ∀ c, wayC K c q = onN (fun x r => wayN K false x.2 r) q (pickN (kidsC c) q)
 | .nil => by rw [wayC, kidsC, pick_nil]; rfl
 | .cons k n c => by
  rw [wayC, kidsC]
  by_cases h : q.take 1 = [k]
  ·rw [if_pos h, pick_yes (x := ([k], n)) h]; rfl
  ·rw [if_neg h, pick_no (x := ([k], n)) h]; exact wayC_pick q c
theorem way_pick (f : Bool) (d : Nd) (q : Bytes) : wayN K f d q = ownN K f d ++ tailN K d q := by
 unfold tailN
 match d with
 | .leaf p v => rw [wayN, kidsN, pick_nil]; simp [onN]
 | .ext p n =>
  rw [wayN, kidsN]
  by_cases h : q.take p.length = p
  ·rw [if_pos h, pick_yes (x := (p, n)) h]; rfl
  ·rw [if_neg h, pick_no (x := (p, n)) h]; rfl
 | .br c => rw [wayN, kidsN, wayC_pick]
end
theorem findC_pick (q : Bytes) : ∀ c, findC c q = match pickN (kidsC c) q with | none => [] | some x => findN x.2 (q.drop x.1.length)
 | .nil => by rw [findC, kidsC, pick_nil]
 | .cons k n c => by
  rw [findC, kidsC]
  by_cases h : q.take 1 = [k]
  ·rw [if_pos h, pick_yes (x := ([k], n)) h]; rfl
  ·rw [if_neg h, pick_no (x := ([k], n)) h]; exact findC_pick q c
theorem good_kidsC : ∀ c, GoodC c → ∀ x ∈ kidsC c, x.1.length = 1 ∧ NibP x.1 ∧ GoodN x.2
 | .nil, _, x, h => by simp [kidsC] at h
 | .cons k n c, hg, x, h => by
  rw [GoodC] at hg
  rw [kidsC] at h
  rcases List.mem_cons.1 h with h | h
  ·subst h
   refine ⟨rfl, fun y hy => ?_, hg.2.1⟩
   simp only [List.mem_singleton] at hy
   subst hy
   exact hg.1
  ·exact good_kidsC c hg.2.2 x h
theorem good_kids (d : Nd) (hg : GoodN d) : ∀ x ∈ kidsN d, 1 ≤ x.1.length ∧ x.1.length ≤ 128 ∧ NibP x.1 ∧ GoodN x.2 := by
 intro x h
 match d, hg, h with
 | .leaf _ _, _, h => simp [kidsN] at h
 | .ext p n, hg, h =>
  rw [GoodN] at hg
  simp only [kidsN, List.mem_singleton] at h
  subst h
  exact ⟨List.length_pos_iff.2 hg.2.1, hg.2.2.1, hg.1, hg.2.2.2.2⟩
 | .br c, hg, h =>
  rw [GoodN] at hg
  obtain ⟨h1, h2, h3⟩ := good_kidsC c hg x h
  exact ⟨by omega, by omega, h2, h3⟩
theorem pick_some {l : List (Bytes × Nd)} {q : Bytes} {x : Bytes × Nd} (h : pickN l q = some x) : x ∈ l ∧ q.take x.1.length = x.1 := by
 unfold pickN at h
 exact ⟨List.mem_of_find?_eq_some h, by simpa using List.find?_some h⟩
theorem way_len (K : Bytes → Bytes) : ∀ (n : Nat) (f : Bool) (d : Nd) (q : Bytes), q.length ≤ n → GoodN d → (wayN K f d q).length ≤ q.length + 1
 | n, f, d, q, hn, hg => by
  rw [way_pick, List.length_append]
  have h1 : (ownN K f d).length ≤ 1 := by unfold ownN; split <;> simp
  unfold tailN
  cases h : pickN (kidsN d) q with
  | none => simp only [onN, List.length_nil]; omega
  | some x =>
   obtain ⟨hm, ht⟩ := pick_some h
   obtain ⟨g1, g2, g3, g4⟩ := good_kids d hg x hm
   have hl : x.1.length ≤ q.length := by have := congrArg List.length ht; rw [List.length_take] at this; omega
   simp only [onN]
   match n, hn with
   | 0, hn => omega
   | n + 1, hn =>
    have := way_len K n false x.2 (q.drop x.1.length) (by rw [List.length_drop]; omega) g4
    rw [List.length_drop] at this
    omega
/-! how long a node's bytes are -/
theorem put_text_le (b : Bytes) : (putI (.text b)).length ≤ b.length + 9 := by
 rw [putI]
 split
 ·omega
 ·unfold frameF
  rw [List.length_append]
  have := headF_len 128 b.length
  omega
theorem put_list_le (l : List It) : (putI (.list l)).length ≤ (putL l).length + 9 := by
 rw [putI]
 unfold frameF
 rw [List.length_append]
 have := headF_len 192 (putL l).length
 omega
theorem ref_le (K : Bytes → Bytes) (hK : ∀ b, (K b).length = 32) (x : It) : (putI (refI K x)).length ≤ 41 := by
 unfold refI
 split
 ·omega
 ·have := put_text_le (K (putI x))
  rw [hK] at this
  omega
theorem putL_le {m : Nat} : ∀ {l : List It}, (∀ y ∈ l, (putI y).length ≤ m) → (putL l).length ≤ m * l.length
 | [], _ => by simp [putL]
 | x :: r, h => by
  rw [putL_cons, List.length_append, List.length_cons, Nat.mul_add, Nat.mul_one]
  have := h x List.mem_cons_self
  have := putL_le (l := r) fun y hy => h y (List.mem_cons_of_mem _ hy)
  omega
theorem two_len : ∀ p : Bytes, (twoP p).length ≤ p.length
 | [] => by simp [twoP]
 | [_] => by simp [twoP]
 | a :: b :: r => by
  have := two_len r
  simp only [twoP, List.length_cons]
  omega
theorem form_le (p : Bytes) (f : Bool) : (formP p f).length ≤ p.length + 1 := by
 unfold formP
 split
 ·have := two_len p
  simp only [List.length_cons]
  omega
 ·match p with
  | [] => simp
  | a :: r =>
   have := two_len r
   simp only [List.length_cons]
   omega
theorem atC_le (K : Bytes → Bytes) (hK : ∀ b, (K b).length = 32) (h : Nat) : ∀ c, (putI (atC K c h)).length ≤ 41
 | .nil => by
  rw [atC]
  have := put_text_le []
  simp at this
  omega
 | .cons k n c => by
  rw [atC]
  split
  ·exact ref_le K hK _
  ·exact atC_le K hK h c
theorem node_le (K : Bytes → Bytes) (hK : ∀ b, (K b).length = 32) (d : Nd) (hg : GoodN d) : (putI (itemN K d)).length ≤ 2000 := by
 match d, hg with
 | .leaf p v, hg =>
  rw [GoodN] at hg
  rw [itemN]
  have h1 := put_list_le [It.text (formP p true), It.text v]
  simp only [putL, List.length_append, List.length_nil] at h1
  have h2 := put_text_le (formP p true)
  have h3 := put_text_le v
  have h4 := form_le p true
  omega
 | .ext p n, hg =>
  rw [GoodN] at hg
  rw [itemN]
  have h1 := put_list_le [It.text (formP p false), refI K (itemN K n)]
  simp only [putL, List.length_append, List.length_nil] at h1
  have h2 := put_text_le (formP p false)
  have h3 := ref_le K hK (itemN K n)
  have h4 := form_le p false
  omega
 | .br c, hg =>
  rw [itemN]
  have h1 := put_list_le ((List.range 16).map (fun h => atC K c h) ++ [.text []])
  have h2 := putL_le (m := 41) (l := (List.range 16).map (fun h => atC K c h) ++ [.text []]) fun y hy => by
   rcases List.mem_append.1 hy with hy | hy
   ·obtain ⟨k, _, rfl⟩ := List.mem_map.1 hy
    exact atC_le K hK k c
   ·simp only [List.mem_singleton] at hy
    subst hy
    have := put_text_le []
    simp at this
    omega
  simp at h2
  omega
theorem atC_pick (K : Bytes → Bytes) (a : UInt8) (q : Bytes) : ∀ c, atC K c a.toNat = match pickN (kidsC c) (a :: q) with | none => .text [] | some x => refI K (itemN K x.2)
 | .nil => by rw [atC, kidsC, pick_nil]
 | .cons k n c => by
  rw [atC, kidsC]
  by_cases h : k.toNat = a.toNat
  ·have : k = a := UInt8.toNat_inj.1 h
   subst this
   rw [if_pos h, pick_yes (x := ([k], n)) (by simp)]
  ·rw [if_neg h, pick_no (x := ([k], n)) (by simp; intro e; exact h (by rw [e]))]
   exact atC_pick K a q c
theorem pick_kidsC_nil : ∀ c, GoodC c → pickN (kidsC c) [] = none
 | .nil, _ => rfl
 | .cons k n c, hg => by
  rw [GoodC] at hg
  rw [kidsC, pick_no (x := ([k], n)) (by simp)]
  exact pick_kidsC_nil c hg.2.2
theorem ref_full (K : Bytes → Bytes) (hK : ∀ b, (K b).length = 32) (d : Nd) : (∃ l, refI K (itemN K d) = .list l ∧ itemN K d = .list l ∧ (bytesN K d).length < 32) ∨ (refI K (itemN K d) = .text (K (bytesN K d)) ∧ 32 ≤ (bytesN K d).length) := by
 have hl : ∃ l, itemN K d = .list l := by cases d <;> exact ⟨_, by rw [itemN]⟩
 obtain ⟨l, hl⟩ := hl
 unfold refI bytesN
 by_cases h : (putI (itemN K d)).length < 32
 ·rw [if_pos h]; exact .inl ⟨l, hl, hl, h⟩
 ·rw [if_neg h]; exact .inr ⟨rfl, by omega⟩
end Go.Phx
end
section
namespace Go.Proofs.YthhlbdgladhdkaaGreatDoor
open BigFrame Go.RowKit Go.Phx Go.Shelf
attribute [local go_sem] Oper.semAt_some

theorem addr_of {w : World} {A : Option Addr} {vs : List Iv} (h : Cs w A (IvL vs)) (hn : 0 < vs.length) : ∃ b o, A = some ⟨b, o, none⟩ := by
 obtain ⟨b, o, ha, _⟩ := h (by rw [IvL_len]; omega)
 exact ⟨b, o, ha⟩
theorem isRef_of (x : It) (h : ∀ l, x = .list l → ∀ (v : Iv) (w : World), Rep w x v → Calls Tryz.prog 54 #[v.val] w (Ret w (.bool true))) (ht : ∀ s, x = .text s → s.length = 32) (v : Iv) (w : World) (R : Rep w x v) :
  Calls Tryz.prog 77 #[v.val] w (Ret w (.bool true)) := by
 cases x with
 | text s =>
  obtain rfl := R.txt
  exact isRef_text s (ht s rfl) none 0 0 w
 | list l =>
  have hR := fun W (hB : Below w.heap.size w W) => h l rfl v W (R.on hB)
  obtain ⟨f, t, A, n, c⟩ := v
  obtain rfl : f = true := R.row.1
  exact isRef_list t A n c w hR
mutual
theorem isNode_good : ∀ (d : Nd), GoodN d → ∀ (v : Iv) (w : World), Rep w (itemN kecc d) v → Calls Tryz.prog 54 #[v.val] w (Ret w (.bool true))
 | .leaf p s, hg, v, w, R => by
  rw [GoodN] at hg
  rw [itemN] at R
  obtain ⟨h1, h2, h3, h4, h5, vs, h6, h7, h8⟩ := R.row
  obtain ⟨f, t, A, n, c⟩ := v
  simp only at h1 h2 h3 h4 h5 h7
  subst h1 h3
  match vs, h6 with
  | [u1, u2], _ =>
   obtain ⟨b, o, rfl⟩ := addr_of h7 (by simp)
   have e1 := (h8 0 _ u1 rfl rfl).txt
   have e2 := (h8 1 _ u2 rfl rfl).txt
   subst e1 e2
   exact isNode_leaf t b o c p s hg.1 (by omega) hg.2.1 w h7
 | .ext p n, hg, v, w, R => by
  rw [GoodN] at hg
  rw [itemN] at R
  obtain ⟨h1, h2, h3, h4, h5, vs, h6, h7, h8⟩ := R.row
  obtain ⟨f, t, A, m, c⟩ := v
  simp only at h1 h2 h3 h4 h5 h7
  subst h1 h3
  match vs, h6 with
  | [u1, u2], _ =>
   obtain ⟨b, o, rfl⟩ := addr_of h7 (by simp)
   have e1 := (h8 0 _ u1 rfl rfl).txt
   subst e1
   have R2 := h8 1 _ u2 rfl rfl
   refine isNode_ext t b o c p u2 hg.1 (by omega) hg.2.1 w h7 fun W hB => ?_
   have R3 := R2.on hB
   rcases ref_full kecc kecc_len n with ⟨l, e, e2, _⟩ | ⟨e, _⟩
   ·rw [e] at R3
    refine isRef_of (.list l) (fun l' _ v' w' R' => ?_) (fun s h => by cases h) u2 W R3
    rw [← e2] at R'
    exact isNode_good n hg.2.2.2.2 v' w' R'
   ·rw [e] at R3
    exact isRef_of _ (fun l h => by cases h) (fun s h => by injection h with h; rw [← h]; exact kecc_len _) u2 W R3
 | .br c, hg, v, w, R => by
  rw [GoodN] at hg
  rw [itemN] at R
  obtain ⟨h1, h2, h3, h4, h5, vs, h6, h7, h8⟩ := R.row
  obtain ⟨f, t, A, m, k⟩ := v
  simp only at h1 h2 h3 h4 h5 h7
  have hl17 : ((List.range 16).map (fun h => atC kecc c h) ++ [It.text []]).length = 17 := by simp
  rw [hl17] at h3 h4 h6
  subst h1 h3
  obtain ⟨b, o, rfl⟩ := addr_of h7 (by omega)
  have h16 : vs[16]? = some ⟨false, [], none, 0, 0⟩ := by
   have hv : vs[16]? = some vs[16] := List.getElem?_eq_getElem (by omega)
   have := (h8 16 (.text []) vs[16] (by simp) hv).txt
   rw [hv, this]
  refine isNode_br t b o k vs h6 h4 w h7 (by rw [List.getD, h16]; rfl) fun y hy hf W hB => ?_
  obtain ⟨i, hi, hiv⟩ := List.getElem_of_mem hy
  have hi2 : vs[i]? = some y := by rw [List.getElem?_eq_getElem hi, hiv]
  have hi16 : i < 16 := by
   rcases Nat.lt_or_ge i 16 with h | h
   ·exact h
   ·obtain rfl : i = 16 := by omega
    rw [h16] at hi2
    injection hi2 with hi2
    subst hi2
    cases hf
  exact isRef_goodC c hg i y W ((h8 i (atC kecc c i) y (by rw [List.getElem?_append_left (by simpa using hi16)]; simp [hi16]) hi2).on hB) hf
theorem isRef_goodC : ∀ (c : Ch), GoodC c → ∀ (h : Nat) (v : Iv) (w : World), Rep w (atC kecc c h) v → fullV v = true → Calls Tryz.prog 77 #[v.val] w (Ret w (.bool true))
 | .nil, _, h, v, w, R, hf => by
  rw [atC] at R
  obtain rfl := R.txt
  cases hf
 | .cons k n c, hg, h, v, w, R, hf => by
  rw [GoodC] at hg
  rw [atC] at R
  by_cases hk : k.toNat = h
  ·rw [if_pos hk] at R
   rcases ref_full kecc kecc_len n with ⟨l, e, e2, _⟩ | ⟨e, _⟩
   ·rw [e] at R
    refine isRef_of (.list l) (fun l' _ v' w' R' => ?_) (fun s h => by cases h) v w R
    rw [← e2] at R'
    exact isNode_good n hg.2.1 v' w' R'
   ·rw [e] at R
    exact isRef_of _ (fun l h => by cases h) (fun s h => by injection h with h; rw [← h]; exact kecc_len _) v w R
  ·rw [if_neg hk] at R
   exact isRef_goodC c hg.2.2 h v w R hf
end
end Go.Proofs.YthhlbdgladhdkaaGreatDoor
end
section
namespace Go.Proofs.YthhlbdgladhdkaaGreatDoor
open BigFrame Go.RowKit Go.Phx Go.Shelf
attribute [local go_sem] Oper.semAt_some

theorem all_calls' : ∀ (N : Nat) (l : List It), (putL l).length ≤ N → N ≤ 1000000000 → ∀ w, Calls Tryz.prog 36 #[.string (bs (putL l))] w (AllP w l)
 | 0, l, h, hN => all_step l (by omega) fun x hx l' e w' => by
  have h1 := putL_mem_le hx
  have h2 := put_pos x
  omega
 | N + 1, l, h, hN => all_step l (by omega) fun x hx l' e w' => by
  subst e
  have h1 := putL_mem_le hx
  have h2 := put_list_ge l'
  exact all_calls' N l' (by omega) (by omega) w'
def DecP (w : World) (x : It) (e : Ending) (w' : World) : Prop := ∃ v : Iv, e = .returned (.tuple #[v.val, .int .i64 0]) ∧ RepS (fun b => w.heap.size ≤ b) w' x v ∧ Below w.heap.size w w'
set_option maxRecDepth 100000 in
set_option maxHeartbeats 16000000 in
theorem decode_calls (x : It) (hd : deepI x ≤ 12) (hp : (putI x).length ≤ 65536) (w : World) : Calls Tryz.prog 19 #[.string (bs (putI x))] w (DecP w x) := by
 have n1 := fun w => all_calls' 1000000000 [x] (by simp [putL]; omega) (Nat.le_refl _) w
 have e1 : putL [x] = putI x := by simp [putL]
 rw [e1] at n1
 have n2 := fun v w' (hB : Rep w' x v) => deep_calls (deepI x) x (Nat.le_refl _) 12 (by omega) v w' hB
 have hdf : decide (12 < deepI x) = false := decide_eq_false (by omega)
 simp only [hdf] at n2
 simp only [show ((12 : Nat) : Int) = 12 from rfl] at n2
 have hpn : ¬ 65536 < ((putI x).length : Int) := by omega
 generalize putI x = q at *
 replace n1 := Lib.hid n1
 replace n2 := Lib.hid n2
 clear hp e1 hd hdf
 go_enter Tryz.func19, Tryz.ntmps19
 go_wp2_with fail
 refine (n1.out _).mono ?_
 rintro e w1 ⟨A, c, rfl, hlc, hcm, hrl, hB1⟩
 simp only [List.length_singleton] at hlc ⊢
 have hz1 := hB1.size
 have P1 := (Blk.new0 w 52 #[.bool false, .string ⟨#[]⟩, .slice none 0 0]).below hB1
 simp only [size_alloc] at hrl hz1
 obtain ⟨b, o, v, rfl, hb, c0, c1, c2, R⟩ := hrl.at 0 x rfl
 obtain ⟨f, t, vA, vn, vc⟩ := v
 simp only [Nat.zero_mul, Nat.add_zero] at c0 c1 c2
 have n2' := n2.out ⟨f, t, vA, vn, vc⟩ w1 R.rep
 have HB1 := Lib.hid (Below.on hB1 ((Below.refl _ w).alloc (Nat.le_refl _) (Obj.cells #[.bool false, .string ⟨#[]⟩, .slice none 0 0] 52)))
 replace R := Lib.hid R
 replace n2' := Lib.hid n2'
 have K0 := Lib.hid P1
 clear hrl hB1 P1 n1 n2
 (obtain ⟨k0, f0, l0, m0⟩ := K0.out.rl)
 go_wp2_with fail
 refine n2'.out.mono ?_
 rintro e w2 ⟨rfl, hB2⟩
 have HB2 := Lib.hid (HB1.out.trans (hB2.mono HB1.out.size))
 have d0 := (hB2.cell (p := ⟨b, o, none⟩) hb).trans c0
 have d1 := (hB2.cell (p := ⟨b, o + 1, none⟩) hb).trans c1
 have d2 := (hB2.cell (p := ⟨b, o + 2, none⟩) hb).trans c2
 have R2 := Lib.hid (R.out.on hB2)
 have hb2 : b < w2.heap.size := Nat.lt_of_lt_of_le hb hB2.size
 have K1 := Lib.hid (K0.out.below hB2)
 have hz2 := hB2.size
 clear k0 f0 l0 m0 K0 hB2 R HB1 c0 c1 c2 n2'
 have hbne : w.heap.size ≠ b → True := fun _ => trivial
 (obtain ⟨k1, f1, l1, m1⟩ := K1.out.rl)
 go_wp2_with fail
 refine bodyPost_ret (v := .tuple #[itV f t vA vn vc, .int .i64 0]) (by simp (maxDischargeDepth := 9) [results, Tryz.results19, go_sem, *]) rfl ⟨⟨f, t, vA, vn, vc⟩, rfl, R2.out.keep (by simp) fun b hb hlt => ⟨by omega, ?_⟩, ((HB2.out.setCell (by simp) _).setCell (by simp) _).setCell (by simp) _⟩
 rw [Below.heap_setCell _ _ _ _ (by simp; omega), Below.heap_setCell _ _ _ _ (by simp; omega), Below.heap_setCell _ _ _ _ (by simp; omega)]
end Go.Proofs.YthhlbdgladhdkaaGreatDoor
end
section
namespace Go.Phx

def runLen (h : UInt8) : List Pr → Nat
 | [] => 0
 | x :: r => if x.1.take 1 = [h] then runLen h r + 1 else 0
theorem runs_cut : ∀ (r : List Pr) (h : UInt8) (p v : Bytes), (∀ x ∈ r, x.1 ≠ []) →
  runsP ((h :: p, v) :: r) = (h, behindP 1 (((h :: p, v) :: r).take (runLen h r + 1))) :: runsP (r.drop (runLen h r))
 | [], h, p, v, _ => by simp [runsP, runLen, behindP]
 | ([], v2) :: r2, h, p, v, hn => absurd rfl (hn ([], v2) (by simp))
 | (k :: p2, v2) :: r2, h, p, v, hn => by
  have ih := runs_cut r2 k p2 v2 (fun x hx => hn x (List.mem_cons_of_mem _ hx))
  conv => lhs; rw [runsP, ih]
  dsimp only
  by_cases hk : h = k
  ·subst hk
   rw [if_pos rfl]
   have e : runLen h ((h :: p2, v2) :: r2) = runLen h r2 + 1 := by rw [runLen, if_pos (by rfl)]
   rw [e]
   rfl
  ·rw [if_neg hk]
   have e : runLen h ((k :: p2, v2) :: r2) = 0 := by
    rw [runLen, if_neg]
    intro h2
    simp at h2
    exact hk h2.symm
   rw [e, List.drop_zero, ih]
   rfl
theorem look_mem : ∀ {l : List Pr} {q v : Bytes}, l.Pairwise (fun a b => a.1 ≠ b.1) → (q, v) ∈ l → lookP l q = v
 | x :: r, q, v, hp, hm => by
  rw [lookP]
  rcases List.mem_cons.1 hm with hm | hm
  ·rw [if_pos (by rw [← hm]), ← hm]
  ·have := (List.pairwise_cons.1 hp).1 _ hm
   rw [if_neg fun h => this h.symm]
   exact look_mem (List.Pairwise.of_cons hp) hm
end Go.Phx
end
section
namespace Go.Proofs.YthhlbdgladhdkaaGreatDoor
open BigFrame Go.RowKit Go.Phx Go.Shelf Go.ChangeMaps Go.MapKept
open Go.Maps (Keyed setOf setOf_snoc isMap_empty IsMap atKey_put_same atKey_put_other)

abbrev uD : DataW Unit := .lit (.bool true)
abbrev kL (s : Bytes) : Lit := .string s
def seenD (L : List Bytes) : DataW Unit := setOf uD (L.map kL)
theorem seenD_snoc (L : List Bytes) (s : Bytes) : seenD (L ++ [s]) = (seenD L).put (kL s) uD := by
 unfold seenD
 rw [List.map_append]
 exact setOf_snoc uD _ _
theorem fold_at (s : Bytes) : ∀ (L : List Bytes) (m : DataW Unit), IsMap m → ((L.map kL).foldl (fun m x => m.put x uD) m).atKey (kL s) (.lit (.bool false)) = if s ∈ L then uD else m.atKey (kL s) (.lit (.bool false))
 | [], m, h => by simp
 | x :: L, m, h => by
  rw [List.map_cons, List.foldl_cons, fold_at s L _ (h.put _ _)]
  by_cases hx : s = x
  ·subst hx
   rw [atKey_put_same h (show WideAt.IsKeyLit (kL s) from trivial), if_pos List.mem_cons_self]
   split <;> rfl
  ·rw [atKey_put_other (fun e => hx (by injection e))]
   by_cases hL : s ∈ L
   ·rw [if_pos hL, if_pos (List.mem_cons_of_mem _ hL)]
   ·rw [if_neg hL, if_neg (fun h => (List.mem_cons.1 h).elim hx hL)]
theorem seen_at (L : List Bytes) (s : Bytes) : (seenD L).atKey (kL s) (.lit (.bool false)) = .lit (.bool (decide (s ∈ L))) := by
 unfold seenD setOf
 rw [fold_at s L _ isMap_empty]
 by_cases h : s ∈ L
 ·rw [if_pos h, decide_eq_true h]
 ·rw [if_neg h, decide_eq_false h]
  rfl
def Seen (W : World) (b : Nat) (L : List Bytes) : Prop := W.ownsMap Tryz.prog 9 (plainElem Tryz.prog 4) b L.length (seenD L)
theorem seen_made (W : World) : Seen (W.alloc (.map #[] 0)) W.heap.size [] := World.ownsMap_made W _ _ _
theorem Seen.keep {W W' : World} {b : Nat} {L : List Bytes} {r : Option Nat} (h : Seen W b L) (hg : W.grownBy W' r) (hn : some b ≠ r) : Seen W' b L := World.ownsMap.kept h hg hn
theorem Seen.lt {W : World} {b : Nat} {L : List Bytes} (h : Seen W b L) : b < W.heap.size := World.ownsMap.lt h
theorem seen_look {W : World} {b : Nat} {L : List Bytes} (h : Seen W b L) (s : Bytes) (hs : s.length ≤ maxLen) : (Instr.lookup 54 (.map (some b)) (.string (bs s)) false).run Tryz.prog W = .ok (.bool (decide (s ∈ L))) W := by
 have hk : Tryz.prog.underlying 9 = some .string := by kernel_rfl
 have he : Tryz.prog.underlying 4 = some .bool := by kernel_rfl
 have ht : Tryz.prog.underlying 54 = some (.map 9 4) := by kernel_rfl
 have hz : (zeroValue 4).run Tryz.prog W = .ok (.bool false) W := by
  have hi : (Tryz.prog.info? 4).map (fun i => (i.zero, i.size, i.bytes)) = some (some (.bool false), 1, 1) := by kernel_rfl
  obtain ⟨i0, hi, hz0, hz1, hz2⟩ := info_parts hi
  unfold zeroValue
  rw [Sem.run_bind, run_typeInfo W hi, Result.andThen_ok, hz0]
  rfl
 obtain ⟨v, ps, hrun, hv⟩ := World.ownsMap.lookup h (Go.Maps.string_keyed hk) ht hz (plainElem_bool he false) (Go.WideMaps.keyOf_string_mk hk (s := bs s) (by rw [bs_size]; exact hs))
 rw [hrun]
 change plainElem _ _ v = some ((seenD L).atKey (kL s) (.lit (.bool false)), ps) at hv
 rw [seen_at L s] at hv
 unfold plainElem at hv
 rw [he] at hv
 cases v <;> simp at hv
 rw [hv.1]
theorem seen_put {W : World} {b : Nat} {L : List Bytes} (h : Seen W b L) (s : Bytes) (hs : s.length ≤ maxLen) (hl : L.length < maxLen) : ∃ W', (Instr.mapUpdate 54 (.map (some b)) (.string (bs s)) (.bool true)).run Tryz.prog W = .ok () W' ∧ Seen W' b (L ++ [s]) ∧ W.grownBy W' (some b) := by
 have hk : Tryz.prog.underlying 9 = some .string := by kernel_rfl
 have he : Tryz.prog.underlying 4 = some .bool := by kernel_rfl
 have ht : Tryz.prog.underlying 54 = some (.map 9 4) := by kernel_rfl
 obtain ⟨W', h1, h2, h3⟩ := World.ownsMap.update h (Go.Maps.string_keyed hk) ht hl (Go.WideMaps.keyOf_string_mk hk (s := bs s) (by rw [bs_size]; exact hs)) (plainElem_bool he true)
 refine ⟨W', h1, ?_, h3⟩
 unfold Seen
 rw [seenD_snoc, List.length_append]
 exact h2
end Go.Proofs.YthhlbdgladhdkaaGreatDoor
end
section
namespace Go.Proofs.YthhlbdgladhdkaaGreatDoor
open BigFrame Go.RowKit Go.Phx Go.Shelf
attribute [local go_sem] Oper.semAt_some

def PrL (l : List (Bytes × Bytes)) : List Value := l.flatMap fun p => [.string (bs p.1), .string (bs p.2)]
theorem PrL_at : ∀ (l : List (Bytes × Bytes)) (i : Nat) (p : Bytes × Bytes), l[i]? = some p → (PrL l)[i * 2]? = some (.string (bs p.1)) ∧ (PrL l)[i * 2 + 1]? = some (.string (bs p.2))
 | [], i, p, h => by simp at h
 | u :: l, 0, p, h => by
  simp at h
  subst h
  exact ⟨rfl, rfl⟩
 | u :: l, i + 1, p, h => by
  have ih := PrL_at l i p (by simpa using h)
  rw [show (i + 1) * 2 = i * 2 + 1 + 1 by omega]
  exact ih
theorem PrL_len (l : List (Bytes × Bytes)) : (PrL l).length = 2 * l.length := by
 induction l with
 | nil => rfl
 | cons p l ih => show (PrL l).length + 1 + 1 = _; rw [ih, List.length_cons]; omega
theorem PrL_cells {w : World} {A : Option Addr} {l : List (Bytes × Bytes)} (R : Cs w A (PrL l)) {i : Nat} {p : Bytes × Bytes} (h : l[i]? = some p) : ∃ b o, A = some ⟨b, o, none⟩ ∧ b < w.heap.size ∧ w.cell? ⟨b, o + i * 2, none⟩ = some (.string (bs p.1)) ∧ w.cell? ⟨b, o + i * 2 + 1, none⟩ = some (.string (bs p.2)) := by
 have hl : 0 < (PrL l).length := by
  have := (List.getElem?_eq_some_iff.1 h).1
  rw [PrL_len]
  omega
 obtain ⟨b, o, hA, _, hb, hc⟩ := R hl
 obtain ⟨h1, h2⟩ := PrL_at l i p h
 exact ⟨b, o, hA, hb, hc _ _ h1, hc _ _ h2⟩
theorem nodup_snoc {α : Type} {l : List α} {x : α} (h : l.Nodup) (hx : x ∉ l) : (l ++ [x]).Nodup := by
 rw [List.nodup_append]
 exact ⟨h, by simp, fun a ha b hb e => by simp at hb; subst hb; subst e; exact hx ha⟩
theorem nodup_take {α : Type} [DecidableEq α] {l : List α} {i : Nat} {x : α} (h : l[i]? = some x) (hx : x ∈ l.take i) : ¬ l.Nodup := by
 intro hn
 have e := List.take_append_drop i l
 rw [← e, List.nodup_append] at hn
 have hd : x ∈ l.drop i := List.mem_of_getElem? (i := 0) (by rw [List.getElem?_drop]; exact h)
 exact hn.2.2 x hx x hd rfl
theorem run_mk (w : World) : (Instr.makeMap 54 none).run Tryz.prog w = .ok (.map (some w.heap.size)) (w.alloc (.map #[] 0)) := run_makeMap _ w
set_option maxRecDepth 100000 in
set_option maxHeartbeats 16000000 in
theorem right_calls (A : Option Addr) (c : Nat) (l : List (Bytes × Bytes)) (hl : l.length ≤ 200) (hall : ∀ p ∈ l, p.1 ≠ [] ∧ p.1.length ≤ 64 ∧ p.2 ≠ [] ∧ p.2.length ≤ 1000) (w : World) (R : Cs w A (PrL l)) :
  Calls Tryz.prog 8 #[.slice A l.length c] w (Ret w (.bool (decide (l.map Prod.fst).Nodup))) := by
 obtain ⟨n, hn⟩ : ∃ n, l.length = n := ⟨_, rfl⟩
 have HN := Lib.hid hn
 replace hall := Lib.hid hall
 replace R := Lib.hid R
 have hnd := Lib.hid (rfl : decide (l.map Prod.fst).Nodup = decide (l.map Prod.fst).Nodup)
 obtain ⟨res, hres⟩ : ∃ res, decide (l.map Prod.fst).Nodup = res := ⟨_, rfl⟩
 rw [hres]
 replace hres := Lib.hid hres
 clear hnd
 rw [hn] at hl ⊢
 clear hn
 have hmm := run_mk w
 go_enter Tryz.func8, Tryz.ntmps8
 go_wp2_with fail
 have hS0 := seen_made w
 have HB0 : Below w.heap.size w (w.alloc (.map #[] 0)) := bel
 go_loopw [9] (fun i wr => ∃ k : Nat, k ≤ n ∧ i = .int .i64 k ∧ Seen wr w.heap.size ((l.take k).map Prod.fst) ∧ ((l.take k).map Prod.fst).Nodup ∧ Below w.heap.size w wr) (fun i _ => (n - intOf i).toNat)
 case atStart => exact ⟨0, by omega, rfl, hS0, by simp, HB0⟩
 case round =>
  clear hS0 HB0
  obtain ⟨k, hk, rfl, HS, hnd, HB⟩ := hrel
  by_cases hlt : k < n
  ·have hlk : k < l.length := by have := HN.out; omega
   obtain ⟨p, hp⟩ : ∃ p, l[k]? = some p := ⟨_, List.getElem?_eq_getElem hlk⟩
   obtain ⟨b, o, rfl, hb, c0, c1⟩ := PrL_cells (R.out.below HB) hp
   obtain ⟨h1, h2, h3, h4⟩ := hall.out p (List.mem_of_getElem? hp)
   have HP := Lib.hid hp
   obtain ⟨key, val⟩ := p
   simp only at c0 c1 h1 h2 h3 h4
   have e1 : key.isEmpty = false := by cases key with
    | nil => exact absurd rfl h1
    | cons a t => rfl
   have e3 : val.isEmpty = false := by cases val with
    | nil => exact absurd rfl h3
    | cons a t => rfl
   have e2 : ¬ 64 < (key.length : Int) := by omega
   have e4 : ¬ 1000 < (val.length : Int) := by omega
   have hkm : key.length ≤ maxLen := by unfold maxLen; omega
   have hS1 : Seen (wr.alloc (.cells #[.string (bs key), .string (bs val)] 33)) w.heap.size ((l.take k).map Prod.fst) := HS.keep (World.grownBy_alloc _ _ none) (by simp)
   have hlook := seen_look hS1 key hkm
   by_cases hin : key ∈ (l.take k).map Prod.fst
   ·rw [decide_eq_true hin] at hlook
    have hfin : res = false := by
     rw [← hres.out]
     exact decide_eq_false (nodup_take (i := k) (x := key) (by rw [List.getElem?_map, HP.out]; rfl) (by rw [← List.map_take]; exact hin))
    replace hfin := Lib.hid hfin
    replace HB := Lib.hid HB
    clear hS1 HS hnd hin hp h1 h2 h3 h4 hkm
    go_wp2_with fail
    go_ret
    exact ⟨by rw [hfin.out]; rfl, (HB.out.alloc HB.out.size _)⟩
   ·rw [decide_eq_false hin] at hlook
    obtain ⟨W', hput, hS2, hg2⟩ := seen_put hS1 key hkm (by simp [List.length_take]; unfold maxLen; omega)
    have hlist : (l.take k).map Prod.fst ++ [key] = (l.take (k + 1)).map Prod.fst := by
     rw [List.take_add_one, HP.out]
     simp
    have hnd2 := nodup_snoc hnd hin
    rw [hlist] at hS2 hnd2
    have HB2 := Lib.hid ((HB.alloc HB.size _).grown hg2 (by have := HB.size; simp; omega) fun j e => by injection e with e; omega)
    replace hS2 := Lib.hid hS2
    replace hnd2 := Lib.hid hnd2
    clear hS1 HS hnd hin hp h1 h2 h3 h4 hkm hlist hg2 HB
    go_wp2_with fail
    go_roundw
    case rel => exact ⟨k + 1, by omega, by go_num, hS2.out, hnd2.out, HB2.out⟩
    case measure => simp [intOf]; omega
  ·obtain rfl : k = n := by omega
   have hfin : res = true := by
    rw [← hres.out]
    rw [List.take_of_length_le (by have := HN.out; omega)] at hnd
    exact decide_eq_true hnd
   have hl2 : (k : Int) ≤ 200 := by omega
   replace hfin := Lib.hid hfin
   clear HS hnd
   go_wp2_with fail
   go_ret
   exact ⟨by rw [hfin.out]; rfl, HB⟩
end Go.Proofs.YthhlbdgladhdkaaGreatDoor
end
section
namespace Go.Proofs.YthhlbdgladhdkaaGreatDoor
open BigFrame Go.RowKit Go.Phx Go.Shelf Go.Proofs Go.Sort Go.Lib
attribute [local go_sem] Oper.semAt_some

theorem bl_irrefl : ∀ x : Bytes, Op.bytesLess x x = false
 | [] => rfl
 | a :: x => by simp [Op.bytesLess, bl_irrefl x]
theorem bl_trans : ∀ x y z : Bytes, Op.bytesLess x y = true → Op.bytesLess y z = true → Op.bytesLess x z = true
 | _, [], _, h, _ => by cases ‹Bytes› <;> simp [Op.bytesLess] at h
 | _, _ :: _, [], _, h => by simp [Op.bytesLess] at h
 | [], _ :: _, _ :: _, _, _ => rfl
 | a :: x, b :: y, c :: z, h1, h2 => by
  simp only [Op.bytesLess, Bool.or_eq_true, Bool.and_eq_true, decide_eq_true_eq, beq_iff_eq, UInt8.lt_iff_toNat_lt] at h1 h2 ⊢
  rcases h1 with h1 | ⟨rfl, h1⟩
  ·rcases h2 with h2 | ⟨rfl, h2⟩
   ·exact .inl (by omega)
   ·exact .inl h1
  ·rcases h2 with h2 | ⟨rfl, h2⟩
   ·exact .inl h2
   ·exact .inr ⟨rfl, bl_trans x y z h1 h2⟩
theorem bl_ntrans : ∀ x y z : Bytes, Op.bytesLess x y = false → Op.bytesLess y z = false → Op.bytesLess x z = false
 | x, _, [], _, _ => by cases x <;> rfl
 | [], [], _ :: _, _, h => by simp [Op.bytesLess] at h
 | [], _ :: _, _ :: _, h, _ => by simp [Op.bytesLess] at h
 | _ :: _, [], _ :: _, _, h => by simp [Op.bytesLess] at h
 | a :: x, b :: y, c :: z, h1, h2 => by
  simp only [Op.bytesLess, Bool.or_eq_false_iff, Bool.and_eq_false_iff, decide_eq_false_iff_not, beq_eq_false_iff_ne, UInt8.lt_iff_toNat_lt, ne_eq] at h1 h2 ⊢
  refine ⟨by omega, ?_⟩
  by_cases hac : a = c
  ·subst hac
   have hab : a = b := UInt8.toNat_inj.1 (by omega)
   subst hab
   exact .inr (bl_ntrans x y z (h1.2.resolve_left (fun h => h rfl)) (h2.2.resolve_left (fun h => h rfl)))
  ·exact .inl hac
theorem bl_total : ∀ x y : Bytes, Op.bytesLess x y = false → Op.bytesLess y x = false → x = y
 | [], [], _, _ => rfl
 | [], _ :: _, h, _ => by simp [Op.bytesLess] at h
 | _ :: _, [], _, h => by simp [Op.bytesLess] at h
 | a :: x, b :: y, h1, h2 => by
  simp only [Op.bytesLess, Bool.or_eq_false_iff, Bool.and_eq_false_iff, decide_eq_false_iff_not, beq_eq_false_iff_ne, UInt8.lt_iff_toNat_lt, ne_eq] at h1 h2
  have hab : a = b := UInt8.toNat_inj.1 (by omega)
  subst hab
  rw [bl_total x y (h1.2.resolve_left (fun h => h rfl)) (h2.2.resolve_left (fun h => h rfl))]
def cmpI (x y : Bytes) : Int := if Op.bytesLess x y = true then -1 else if (!(Op.bytesLess x y || x == y)) = true then 1 else 0
theorem ltOf_cmp (x y : Bytes × Bytes) : ltOf (fun x y : Bytes × Bytes => cmpI x.1 y.1) x y = Op.bytesLess x.1 y.1 := by
 show decide (cmpI x.1 y.1 < 0) = _
 unfold cmpI
 cases h : Op.bytesLess x.1 y.1
 ·rw [if_neg (by decide)]
  split <;> rfl
 ·rw [if_pos rfl]
  rfl
theorem swoLeaf : SWO (ltOf fun x y : Bytes × Bytes => cmpI x.1 y.1) where
 irrefl x := by rw [ltOf_cmp]; exact bl_irrefl _
 trans x y z h1 h2 := by rw [ltOf_cmp] at *; exact bl_trans _ _ _ h1 h2
 ntrans x y z h1 h2 := by rw [ltOf_cmp] at *; exact bl_ntrans _ _ _ h1 h2
theorem nan_calls (s : Bytes) (w : World) : Calls Tryz.prog 67 #[.string (bs s)] w (fun e w' => e = .returned (.bool false) ∧ w' = w) := by
 go_enter Tryz.func67, Tryz.ntmps67
 go_wp2_with fail
 go_ret
 exact ⟨rfl, rfl⟩
theorem cmp_calls (x y : Bytes) (w : World) : Calls Tryz.prog 49 #[.string (bs x), .string (bs y)] w (fun e w' => e = .returned (.int .i64 (cmpI x y)) ∧ w' = w) := by
 have n1 := Lib.hid nan_calls
 unfold cmpI
 go_enter Tryz.func49, Tryz.ntmps49
 cases h1 : Op.bytesLess x y with
 | true =>
  go_wp2_with (go_at_call 67; refine (n1.out _ _).mono ?_; rintro e w' ⟨rfl, rfl⟩)
  go_ret
  exact ⟨rfl, rfl⟩
 | false =>
  cases h2 : (x == y) with
  | true =>
   go_wp2_with (go_at_call 67; refine (n1.out _ _).mono ?_; rintro e w' ⟨rfl, rfl⟩)
   go_ret
   exact ⟨rfl, rfl⟩
  | false =>
   go_wp2_with (go_at_call 67; refine (n1.out _ _).mono ?_; rintro e w' ⟨rfl, rfl⟩)
   go_ret
   exact ⟨rfl, rfl⟩
def encLf (p : Bytes × Bytes) : List Value := [.string (bs p.1), .string (bs p.2)]
theorem leaf_cmp (x y : Bytes × Bytes) (W : World) : Calls Tryz.prog 48 #[.agg (encLf x).toArray, .agg (encLf y).toArray] W (fun e w' => e = .returned (.int .i64 (cmpI x.1 y.1)) ∧ ∃ q os', w' = grow (W.drewN q) os') := by
 have n1 := Lib.hid (fun W => cmp_calls x.1 y.1 W)
 show Calls Tryz.prog 48 #[.agg #[.string (bs x.1), .string (bs x.2)], .agg #[.string (bs y.1), .string (bs y.2)]] W _
 generalize cmpI x.1 y.1 = r at *
 go_enter Tryz.func48, Tryz.ntmps48
 go_wp2_with (go_at_call 49; refine (n1.out _).mono ?_; rintro e w' ⟨rfl, rfl⟩)
 go_ret
 exact ⟨rfl, 0, _, by rw [alloc_eq_grow, alloc_eq_grow, grow_grow]; rfl⟩
shelf_lay_g SlLaysF0.n6 Slsf 6 at Tryz 47 as sortLeaf
theorem aggLeaf (W : World) : (isAgg 111).run Tryz.prog W = .ok true W := Tryz.isAgg111 W
theorem sizeLeaf (W : World) : (Go.sizeOf 111).run Tryz.prog W = .ok 2 W := Tryz.sizeOf111 W
theorem sort_calls (blk off cap : Nat) (d : Array (Bytes × Bytes)) (w : World) (hH : HoldsK encLf 2 w blk off d) (hblk : blk < w.heap.size) (hsz : d.size < 4611686018427387904) :
  Calls Tryz.prog 47 #[.slice (some ⟨blk, off, none⟩) d.size cap, .func (.func 48) #[] #[]] w fun e w' =>
   e = .returned (.tuple #[]) ∧ ∃ d' n os, PermIn 0 d.size d d' ∧ SortedIn (ltOf fun x y : Bytes × Bytes => cmpI x.1 y.1) 0 d.size d' ∧ w' = sortWorldK encLf 2 w blk off n d' os :=
 AnyQ.slices_SortFunc sortLeaf 2 aggLeaf sizeLeaf encLf (fun _ => rfl) (fun x v hv => by simp [encLf] at hv; rcases hv with rfl | rfl <;> rfl) (fun x y => cmpI x.1 y.1) swoLeaf 48 #[] blk off cap d w
  (enters_of Tryz.func48 (by kernel_rfl) rfl) (fun _ _ _ _ x y => leaf_cmp x y _) hH hblk hsz
end Go.Proofs.YthhlbdgladhdkaaGreatDoor
end
section
namespace Go.Proofs.YthhlbdgladhdkaaGreatDoor
open BigFrame Go.RowKit Go.Phx Go.Shelf
attribute [local go_sem] Oper.semAt_some

theorem infoLeaf : (Tryz.prog.info? 111).map (fun i => (i.zero, i.size, i.bytes)) = some (some (.agg #[.string ByteArray.empty, .string ByteArray.empty]), 2, 32) := by kernel_rfl
theorem news2l (W : World) (t : TypeId) (a b : Value) : ∀ j u, [a, b][j]? = some u → (W.alloc (.cells #[a, b] t)).drew.cell? ((⟨W.heap.size, 0, none⟩ : Addr).add j) = some u := by
 intro j u hu
 have hK := (Blk.new0 W t #[a, b]).drew
 rw [Addr.add_mid, hK.cell, Nat.zero_add]
 simpa using hu
def cutL (n : Nat) (l : List (Bytes × Bytes)) : List (Bytes × Bytes) := l.map fun p => (p.1.drop n, p.2)
theorem cutL_len (n : Nat) (l : List (Bytes × Bytes)) : (cutL n l).length = l.length := List.length_map ..
theorem PrL_app (a b : List (Bytes × Bytes)) : PrL (a ++ b) = PrL a ++ PrL b := by simp [PrL]
def LfRow (base : Nat) (W : World) (v : Value) (l : List (Bytes × Bytes)) : Prop := W.ownsRow base 111 2 v l.length (PrL l)
theorem LfRow.shape {base : Nat} {W : World} {v : Value} {l : List (Bytes × Bytes)} (h : LfRow base W v l) : ∃ A c, v = .slice A l.length c ∧ l.length ≤ c ∧ c ≤ maxLen ∧ CsS (fun b => base ≤ b) W A (PrL l) := by
 rcases h.2 with ⟨rfl, h0⟩ | ⟨g, cap, cur, rfl, hb, hg, hn, hm, hs, ht⟩
 ·rw [h0]
  obtain rfl := List.eq_nil_of_length_eq_zero h0
  exact ⟨none, 0, rfl, Nat.le_refl _, Nat.zero_le _, CsS.nil _ _ _⟩
 ·refine ⟨some ⟨g, 0, none⟩, cap, rfl, hn, hm, fun _ => ⟨g, 0, rfl, hb, (Array.getElem?_eq_some_iff.1 hg).1, fun i u hu => ?_⟩⟩
  rw [Nat.zero_add, cell_of_row W g i cur _ (0, 0) hg]
  rw [← ht, List.getElem?_take] at hu
  split at hu
  ·simpa using hu
  ·cases hu
set_option maxRecDepth 100000 in
set_option maxHeartbeats 16000000 in
theorem behind_calls (A : Option Addr) (c : Nat) (l : List (Bytes × Bytes)) (n : Nat) (hn : ∀ p ∈ l, n ≤ p.1.length ∧ p.1.length ≤ 1000000) (hl : l.length ≤ 1000000) (w : World) (R : Cs w A (PrL l)) :
  Calls Tryz.prog 73 #[.slice A l.length c, .int .i64 (n : Int)] w (fun e w' => ∃ v, e = .returned v ∧ LfRow w.heap.size w' v (cutL n l) ∧ Below w.heap.size w w') := by
 obtain ⟨i0, hi, hz0, hz1, hz2⟩ := info_parts infoLeaf
 obtain ⟨m, hm⟩ : ∃ m, l.length = m := ⟨_, rfl⟩
 have HM := Lib.hid hm
 replace hn := Lib.hid hn
 replace R := Lib.hid R
 rw [hm] at hl ⊢
 clear hm
 go_enter Tryz.func73, Tryz.ntmps73
 go_wp2_with fail
 go_loopw [5, 10] (fun v i wr => ∃ k : Nat, k ≤ m ∧ i = .int .i64 k ∧ wr.ownsRow w.heap.size 111 2 v k (PrL (cutL n (l.take k))) ∧ Below w.heap.size w wr) (fun _ i _ => (m - intOf i).toNat)
 case atStart => exact ⟨0, by omega, rfl, World.ownsRow_nil _ _ _ _, bel⟩
 case round =>
  obtain ⟨k, hk, rfl, OWN, HB⟩ := hrel
  by_cases hlt : k < m
  ·have hlk : k < l.length := by have := HM.out; omega
   obtain ⟨p, hp⟩ : ∃ p, l[k]? = some p := ⟨_, List.getElem?_eq_getElem hlk⟩
   obtain ⟨b, o, rfl, hb, c0, c1⟩ := PrL_cells (R.out.below HB) hp
   obtain ⟨h1, h1b⟩ := hn.out p (List.mem_of_getElem? hp)
   have HT := Lib.hid (show PrL (cutL n (l.take (k + 1))) = PrL (cutL n (l.take k)) ++ [.string (bs (p.1.drop n)), .string (bs p.2)] by
    rw [List.take_add_one, hp]
    unfold cutL
    rw [List.map_append, PrL_app]
    rfl)
   obtain ⟨key, val⟩ := p
   simp only at c0 c1 h1 h1b HT
   generalize PrL (cutL n (l.take k)) = q at *
   have h2 : (n : Int) ≤ key.length := by omega
   have h3 : (0 : Int) ≤ n := by omega
   have hnr := Lib.hid (show ∀ j, u5.ownBlock = some j → j < wr.heap.size from fun j e => (World.ownsRow.lt OWN j e).2)
   replace OWN := Lib.hid OWN
   have K1 := Blk.new0 wr 111 #[.string (bs key), .string (bs val)]
   have hG1 := World.grownBy_alloc wr (.cells #[.string (bs key), .string (bs val)] 111) none
   have OWN1 := OWN.out.alloc (.cells #[.string (bs key), .string (bs val)] 111)
   have HB1 := HB.alloc HB.size (.cells #[.string (bs key), .string (bs val)] 111)
   clear hp
   go_wp2_with fail
   generalize wr.alloc (.cells #[.string (bs key), .string (bs val)] 111) = wb at *
   have K0 := Lib.hid K1
   replace OWN1 := Lib.hid OWN1
   replace HB1 := Lib.hid HB1
   replace OWN := Lib.hid True.intro
   clear K1 hG1 OWN c0 c1 HB
   (obtain ⟨k0, f0, l0, m0⟩ := K0.out.rl)
   go_region_held3 (fun w' => w'.cell? ⟨wr.heap.size, 0, none⟩ = some (.string (bs key)) ∧ w'.cell? ⟨wr.heap.size, 1, none⟩ = some (.string (bs val))) (first | go_keep | exact ⟨b11.out.cell 0, b11.out.cell 1⟩) ((refine step_append_lies _ (by rfl) _ _ _ (by rfl) w.heap.size 111 i0 (.agg #[.string ByteArray.empty, .string ByteArray.empty]) 2 32 Tryz.underlying109 hi hz0 hz1 hz2 (by rfl) (by omega) _ k q (by rfl) (OWN1.out.alloc _).drew ⟨_, 0, none⟩ 1 1 _ (by rfl) (by rfl) (news2l _ _ _ _) (by simp [Value.oneCell']) (by omega) (by unfold maxLen; omega) (by omega) (by have := HB1.out.size; simp; omega) (wb.heap.size + 1) (by simp) ?_; intro g2 cap2 w2 hown2 hgrow2 hat2 hlt2; have b11 := Lib.hid ((((K0.out.alloc _).drew).grown hgrow2 (fun e => by have := hnr.out _ e.symm; omega)))))
   all_goals
    have hown3 := Lib.hid (show w2.ownsRow w.heap.size 111 2 (.slice (some ⟨g2, 0, none⟩) (k + 1) cap2) (k + 1) (PrL (cutL n (l.take (k + 1)))) from by
     rw [HT.out]
     exact hown2)
    have HB2 := ((HB1.out.alloc HB1.out.size _).drew).grown hgrow2 (by have := HB1.out.size; simp; omega) (fun j e => (OWN1.out.lt _ e).1)
    clear hown2 hgrow2 hat2 b11
    go_wp2_with fail
    go_roundw
    case rel => exact ⟨k + 1, by omega, by go_num, hown3.out, HB2⟩
    case measure => simp [intOf]; omega
  ·obtain rfl : k = m := by omega
   rw [List.take_of_length_le (by have := HM.out; omega)] at OWN
   have hfin : LfRow w.heap.size wr u5 (cutL n l) := by
    unfold LfRow
    rw [cutL_len, HM.out]
    exact OWN
   replace hfin := Lib.hid hfin
   clear OWN
   go_wp2_with fail
   go_ret
   exact ⟨_, rfl, hfin.out, HB⟩
end Go.Proofs.YthhlbdgladhdkaaGreatDoor
end
section
namespace Go.Proofs.YthhlbdgladhdkaaGreatDoor
open BigFrame Go.RowKit Go.Phx Go.Shelf Go.Proofs Go.Sort Go.Lib

theorem bl_ltB : ∀ x y : Bytes, Op.bytesLess x y = true → ltB x y
 | [], [], h => by simp [Op.bytesLess] at h
 | _ :: _, [], h => by simp [Op.bytesLess] at h
 | [], _ :: _, _ => by simp [ltB]
 | a :: x, b :: y, h => by
  simp only [Op.bytesLess, Bool.or_eq_true, Bool.and_eq_true, decide_eq_true_eq, beq_iff_eq, UInt8.lt_iff_toNat_lt] at h
  rcases h with h | ⟨rfl, h⟩
  ·exact ltB_cons.2 (.inl h)
  ·exact ltB_cons.2 (.inr ⟨rfl, bl_ltB x y h⟩)
theorem sorted_pw {d d' : Array Pr} (hp : PermIn 0 d.size d d') (hs : SortedIn (ltOf fun x y : Bytes × Bytes => cmpI x.1 y.1) 0 d.size d') (hn : (d.toList.map Prod.fst).Nodup) :
  d'.toList.Perm d.toList ∧ d'.toList.Pairwise (fun a b => Op.bytesLess a.1 b.1 = true) := by
 obtain ⟨h1, _, h3⟩ := hp
 have e1 : d'.extract 0 d.size = d' := by rw [← h1]; simp
 have e2 : d.extract 0 d.size = d := by simp
 rw [e1, e2] at h3
 refine ⟨h3, ?_⟩
 have hn' : (d'.toList.map Prod.fst).Nodup := (h3.map Prod.fst).nodup_iff.2 hn
 rw [List.pairwise_iff_getElem]
 intro i j hi hj hij
 have hi' : i < d'.size := by simpa using hi
 have hj' : j < d'.size := by simpa using hj
 have h := hs i j (Nat.zero_le _) hij (by omega)
 rw [getElem!_pos d' i hi', getElem!_pos d' j hj', ltOf_cmp] at h
 simp only [Array.getElem_toList]
 cases hb : Op.bytesLess d'[i].1 d'[j].1 with
 | true => rfl
 | false =>
  have he := bl_total _ _ hb h
  have := (List.nodup_iff_pairwise_ne.1 hn')
  rw [List.pairwise_iff_getElem] at this
  have := this i j (by simpa using hi') (by simpa using hj') hij
  simp at this
  exact absurd he this
theorem sorted_one : ∀ {l l' : List Pr}, l.Perm l' → l.Pairwise (fun a b => Op.bytesLess a.1 b.1 = true) → l'.Pairwise (fun a b => Op.bytesLess a.1 b.1 = true) → l = l'
 | [], l', h, _, _ => h.nil_eq
 | a :: l, [], h, _, _ => absurd h.symm (by simp)
 | a :: l, b :: l', h, h1, h2 => by
  have hab : a = b := by
   have ha : a ∈ b :: l' := h.mem_iff.1 List.mem_cons_self
   have hb : b ∈ a :: l := h.mem_iff.2 List.mem_cons_self
   rcases List.mem_cons.1 ha with e | ha
   ·exact e
   rcases List.mem_cons.1 hb with e | hb
   ·exact e.symm
   have q1 := (List.pairwise_cons.1 h2).1 a ha
   have q2 := (List.pairwise_cons.1 h1).1 b hb
   have := bl_trans _ _ _ q1 q2
   rw [bl_irrefl] at this
   cases this
  subst hab
  rw [sorted_one ((List.perm_cons a).1 h) (List.pairwise_cons.1 h1).2 (List.pairwise_cons.1 h2).2]
theorem flat_list (d : Array Pr) : (flatK encLf 2 d).toList = PrL d.toList := by
 apply List.ext_getElem
 ·rw [PrL_len]
  simp
  omega
 ·intro t h1 h2
  have ht : t < d.size * 2 := by simpa using h1
  have hq : t / 2 < d.size := by omega
  have hg := get_flatK encLf 2 d t ht
  rw [getElem!_pos _ t (by simpa using ht), getElem!_pos d _ hq] at hg
  simp only [Array.getElem_toList]
  rw [hg]
  obtain ⟨p1, p2⟩ := PrL_at d.toList (t / 2) d[t / 2] (by simp [hq])
  rcases Nat.mod_two_eq_zero_or_one t with e | e
  ·rw [e]
   rw [show t / 2 * 2 = t by omega, List.getElem?_eq_getElem h2] at p1
   injection p1 with p1
   rw [p1]
   rfl
  ·rw [e]
   rw [show t / 2 * 2 + 1 = t by omega, List.getElem?_eq_getElem h2] at p2
   injection p2 with p2
   rw [p2]
   rfl
theorem LfRow.holds {base : Nat} {W : World} {g n cap : Nat} {l : List Pr} (h : LfRow base W (.slice (some ⟨g, 0, none⟩) n cap) l) : HoldsK encLf 2 W g 0 l.toArray ∧ g < W.heap.size := by
 rcases h.2 with ⟨e, _⟩ | ⟨g', cap', cur, e, hb, hg, hn, hm, hs, ht⟩
 ·cases e
 injection e with e1 e2 e3
 injection e1 with e1
 injection e1 with e1
 subst e1
 refine ⟨fun j hj => ?_, (Array.getElem?_eq_some_iff.1 hg).1⟩
 have hj' : j < l.length * 2 := by simpa using hj
 refine ⟨?_, by simp [World.frozen?, hg]⟩
 rw [Nat.zero_add, cell_of_row W g j cur _ (0, 0) hg, getElem!_pos _ j (by simpa using hj)]
 have hf := flat_list l.toArray
 have : (flatK encLf 2 l.toArray).toList[j]? = (cur.toList.take (l.length * 2))[j]? := by rw [hf, ht]
 rw [List.getElem?_take, if_pos hj'] at this
 simp only [Array.getElem?_toList] at this
 rw [← this, Array.getElem?_eq_getElem hj]
 rfl
theorem LfRow.sorted {base : Nat} {W : World} {g n cap : Nat} {l : List Pr} (h : LfRow base W (.slice (some ⟨g, 0, none⟩) n cap) l) (d' : Array Pr) (hd : d'.size = l.length) (m : Nat) (os : Array Obj) :
  LfRow base (sortWorldK encLf 2 W g 0 m d' os) (.slice (some ⟨g, 0, none⟩) n cap) d'.toList ∧ W.grownBy (sortWorldK encLf 2 W g 0 m d' os) (some g) := by
 rcases h.2 with ⟨e, _⟩ | ⟨g', cap', cur, e, hb, hg, hn, hm, hs, ht⟩
 ·cases e
 injection e with e1 e2 e3
 injection e1 with e1
 injection e1 with e1
 subst e1 e2 e3
 have hlt := (Array.getElem?_eq_some_iff.1 hg).1
 have hsz : (putRowK encLf 2 (Sort.ahead W m) g 0 d').heap.size = W.heap.size := size_putRow _ _ _ _ _
 have hheap : (sortWorldK encLf 2 W g 0 m d' os).heap = (putRowK encLf 2 (Sort.ahead W m) g 0 d').heap ++ os := rfl
 have hmod : ∀ k, (putRowK encLf 2 (Sort.ahead W m) g 0 d').heap[k]? = if g = k then (W.heap[k]?).map (onCells (putCells id 0 (flatK encLf 2 d'))) else W.heap[k]? := fun k => by
  show (Array.modify W.heap g _)[k]? = _
  rw [Array.getElem?_modify]
 refine ⟨⟨by rw [PrL_len]; simp; omega, .inr ⟨g, cap, putCells id 0 (flatK encLf 2 d') cur, by rw [show d'.toList.length = l.length by simpa using hd], hb, ?_, by rw [show d'.toList.length = l.length by simpa using hd]; exact hn, hm, by simp [putCells, hs], ?_⟩⟩, ?_⟩
 ·rw [hheap, Array.getElem?_append_left (by omega), hmod g, if_pos rfl, hg]
  rfl
 ·rw [Array.length_toList, ← flat_list]
  apply List.ext_getElem?
  intro t
  rw [List.getElem?_take]
  split
  ·rename_i ht2
   have h2 : t < (flatK encLf 2 d').size := by simpa using ht2
   have h3 : t < cur.size := by rw [hs]; omega
   simp only [Array.getElem?_toList]
   rw [Array.getElem?_eq_getElem h2]
   simp [putCells, h3, h2, Array.getElem?_mapIdx, Array.getElem?_eq_getElem h3]
   rw [if_pos (by omega), getElem!_pos _ t h2]
  ·rename_i ht2
   rw [List.getElem?_eq_none]
   simpa using ht2
 ·refine ⟨rfl, rfl, rfl, by rw [hheap, Array.size_append]; omega, fun k hk hkg => ?_⟩
  rw [hheap, Array.getElem?_append_left (by omega), hmod k, if_neg (fun e => hkg (by rw [e]))]
end Go.Proofs.YthhlbdgladhdkaaGreatDoor
end
section
namespace Go.Proofs.YthhlbdgladhdkaaGreatDoor
open BigFrame Go.RowKit Go.Phx Go.Shelf
attribute [local go_sem] Oper.semAt_some

def lfL (l : List (Bytes × Bytes)) : List Pr := l.map fun p => (pathOf p.1, p.2)
theorem own_below {base : Nat} {W W' : World} {e size n : Nat} {v : Value} {xs : List Value} (h : W.ownsRow base e size v n xs) (hB : Below W.heap.size W W') : W'.ownsRow base e size v n xs :=
 h.kept (grown_none hB) (by
  cases v.ownBlock with
  | none => exact .inl rfl
  | some g => exact .inr (by simp))
theorem news2n (W : World) (t : TypeId) (a b : Value) : ∀ j u, [a, b][j]? = some u → (W.alloc (.cells #[a, b] t)).cell? ((⟨W.heap.size, 0, none⟩ : Addr).add j) = some u := by
 intro j u hu
 have hK := Blk.new0 W t #[a, b]
 rw [Addr.add_mid, hK.cell, Nat.zero_add]
 simpa using hu
set_option maxRecDepth 100000 in
set_option maxHeartbeats 16000000 in
theorem root_calls (A : Option Addr) (c : Nat) (l : List (Bytes × Bytes)) (hne : l ≠ []) (hl : l.length ≤ 200) (hall : ∀ p ∈ l, p.1.length ≤ 64) (hnd : ((lfL l).map Prod.fst).Nodup) (w : World) (R : Cs w A (PrL l)) (Q : List Pr → World → Ending → World → Prop)
  (hgr : ∀ (S : List Pr) (A' : Option Addr) (c' : Nat) (W' : World), S.Perm (lfL l) → S.Pairwise (fun a b => Op.bytesLess a.1 b.1 = true) → Below w.heap.size w W' → S.length ≤ c' → c' ≤ maxLen → CsS (fun b => w.heap.size ≤ b) W' A' (PrL S) →
   Calls Tryz.prog 50 #[.slice A' S.length c'] W' (fun e w' => (∃ v, e = .returned v) ∧ Q S W' e w')) :
  Calls Tryz.prog 30 #[.slice A l.length c] w (fun e w' => ∃ S W', S.Perm (lfL l) ∧ Below w.heap.size w W' ∧ Q S W' e w') := by
 obtain ⟨i0, hi, hz0, hz1, hz2⟩ := info_parts infoLeaf
 obtain ⟨m, hm⟩ : ∃ m, l.length = m := ⟨_, rfl⟩
 have HM := Lib.hid hm
 have hm0 : m ≠ 0 := fun e => hne (List.eq_nil_of_length_eq_zero (by omega))
 replace hall := Lib.hid hall
 replace R := Lib.hid R
 replace hgr := Lib.hid hgr
 replace hnd := Lib.hid hnd
 rw [hm] at hl ⊢
 clear hm hne
 go_enter Tryz.func30, Tryz.ntmps30
 go_wp2_with fail
 go_loopw [3, 8] (fun v i wr => ∃ k : Nat, k ≤ m ∧ i = .int .i64 k ∧ wr.ownsRow w.heap.size 111 2 v k (PrL (lfL (l.take k))) ∧ Below w.heap.size w wr) (fun _ i _ => (m - intOf i).toNat)
 case atStart => exact ⟨0, by omega, rfl, World.ownsRow_nil _ _ _ _, bel⟩
 case round =>
  obtain ⟨k, hk, rfl, OWN, HB⟩ := hrel
  by_cases hlt : k < m
  ·have hlk : k < l.length := by have := HM.out; omega
   obtain ⟨p, hp⟩ : ∃ p, l[k]? = some p := ⟨_, List.getElem?_eq_getElem hlk⟩
   obtain ⟨b, o, rfl, hb, c0, c1⟩ := PrL_cells (R.out.below HB) hp
   have h1 := hall.out p (List.mem_of_getElem? hp)
   have HT := Lib.hid (show PrL (lfL (l.take (k + 1))) = PrL (lfL (l.take k)) ++ [.string (bs (pathOf p.1)), .string (bs p.2)] by
    rw [List.take_add_one, hp]
    unfold lfL
    rw [List.map_append, PrL_app]
    rfl)
   obtain ⟨key, val⟩ := p
   simp only at c0 c1 h1 HT
   have hof := Lib.hid (fun W => of_calls key (by omega) W)
   generalize PrL (lfL (l.take k)) = q at *
   generalize pathOf key = pk at *
   have K1 := Blk.new0 wr 33 #[.string (bs key), .string (bs val)]
   have hnr := Lib.hid (show ∀ j, u3.ownBlock = some j → j < wr.heap.size from fun j e => (World.ownsRow.lt OWN j e).2)
   have OWN1 := OWN.alloc (.cells #[.string (bs key), .string (bs val)] 33)
   have HB1 := HB.alloc HB.size (.cells #[.string (bs key), .string (bs val)] 33)
   clear hp
   go_wp2_with fail
   have hzb : (wr.alloc (.cells #[.string (bs key), .string (bs val)] 33)).heap.size = wr.heap.size + 1 := by simp
   generalize wr.alloc (.cells #[.string (bs key), .string (bs val)] 33) = wb at *
   have K0 := Lib.hid K1
   replace OWN1 := Lib.hid OWN1
   replace HB1 := Lib.hid HB1
   have HZ := Lib.hid hzb
   clear K1 OWN c0 c1 HB hzb
   (obtain ⟨k0, f0, l0, m0⟩ := K0.out.rl)
   go_region_held3 (fun w' => w'.cell? ⟨wr.heap.size, 0, none⟩ = some (.string (bs key)) ∧ w'.cell? ⟨wr.heap.size, 1, none⟩ = some (.string (bs val))) (first | go_keep | exact ⟨b11.out.cell 0, b11.out.cell 1⟩ | exact ⟨b9.out.cell 0, b9.out.cell 1⟩)
    ((first
     | (go_at_call 31; refine (hof.out _).mono ?_; rintro e w' ⟨rfl, hB⟩; have hB9 := Lib.hid (show Below wb.heap.size wb w' from Below.on hB ((Below.refl _ _).drew)); have own9 := Lib.hid (own_below OWN1.out hB9.out); have b9 := Lib.hid (K0.out.below hB9.out))
     | (refine step_append_lies _ (by rfl) _ _ _ (by rfl) w.heap.size 111 i0 (.agg #[.string ByteArray.empty, .string ByteArray.empty]) 2 32 Tryz.underlying109 hi hz0 hz1 hz2 (by rfl) (by omega) _ k q (by rfl) (own9.out.alloc _) ⟨_, 0, none⟩ 1 1 _ (by rfl) (by rfl) (news2n _ _ _ _) (by simp [Value.oneCell']) (by omega) (by unfold maxLen; omega) (by omega) (by have := HB1.out.size; have := hB9.out.size; simp; omega) (w'.heap.size + 1) (by simp) ?_; intro g2 cap2 w2 hown2 hgrow2 hat2 hlt2; have b11 := Lib.hid ((b9.out.alloc _).grown hgrow2 (fun e => by have := hnr.out _ e.symm; omega)))))
   all_goals
    have hown3 := Lib.hid (show w2.ownsRow w.heap.size 111 2 (.slice (some ⟨g2, 0, none⟩) (k + 1) cap2) (k + 1) (PrL (lfL (l.take (k + 1)))) from by
     rw [HT.out]
     exact hown2)
    have HB2 := ((HB1.out.trans (hB9.out.mono HB1.out.size)).alloc (Nat.le_trans HB1.out.size hB9.out.size) (.cells #[.string (bs pk), .string (bs val)] 111)).grown hgrow2 (by have := HB1.out.size; have := hB9.out.size; simp; omega) (fun j e => (OWN1.out.lt _ e).1)
    clear hown2 hgrow2 hat2 hB hB9 own9 b9 b11
    go_wp2_with fail
    go_roundw
    case rel => exact ⟨k + 1, by omega, by go_num, hown3.out, HB2⟩
    case measure => simp [intOf]; omega
  ·obtain rfl : k = m := by omega
   rw [List.take_of_length_le (by have := HM.out; omega)] at OWN
   have hll : (lfL l).length = k := by unfold lfL; rw [List.length_map, HM.out]
   have hrow : LfRow w.heap.size wr u3 (lfL l) := by
    unfold LfRow
    rw [hll]
    exact OWN
   obtain ⟨g, cap, hu3⟩ : ∃ g cap, u3 = .slice (some ⟨g, 0, none⟩) k cap := by
    rcases hrow.2 with ⟨e, h0⟩ | ⟨g, cap, cur, e, _⟩
    ·omega
    ·exact ⟨g, cap, by rw [e, hll]⟩
   subst hu3
   obtain ⟨hHo, hgl⟩ := hrow.holds
   have hsize : (lfL l).toArray.size = k := by simpa using hll
   have hso := sort_calls g 0 cap (lfL l).toArray wr hHo hgl (by rw [hsize]; omega)
   rw [hsize] at hso
   have hgb := (World.ownsRow.lt OWN g rfl).1
   replace hso := Lib.hid hso
   have hk0 : ¬ (k : Int) = 0 := by omega
   replace HB := Lib.hid HB
   replace hrow := Lib.hid hrow
   clear OWN hHo
   go_wp2_with fail
   refine hso.out.mono ?_
   rintro e W' ⟨rfl, d', n, os, hp, hs, rfl⟩
   rw [← hsize] at hp hs
   obtain ⟨hperm, hpw⟩ := sorted_pw hp hs hnd.out
   have hd : d'.size = (lfL l).length := by rw [← Array.length_toList, hperm.length_eq]
   obtain ⟨hr2, hg2⟩ := hrow.out.sorted d' hd n os
   have HB2 := Lib.hid (HB.out.grown hg2 HB.out.size fun j e => by injection e with e; omega)
   obtain ⟨A', c', he, hc1, hc2, hcs⟩ := hr2.shape
   have hdl : d'.toList.length = k := by rw [hperm.length_eq, ← hll]
   have hG := hgr.out d'.toList A' c' _ hperm hpw HB2.out hc1 hc2 hcs
   rw [← he] at hG
   generalize sortWorldK encLf 2 wr g 0 n d' os = W2 at *
   replace hG := Lib.hid hG
   replace hperm := Lib.hid hperm
   clear hso hr2 hg2 hcs hp hs he hpw hrow
   go_wp2_with fail
   refine hG.out.mono ?_
   rintro e w3 ⟨⟨v, rfl⟩, hQ⟩
   replace hQ := Lib.hid hQ
   go_wp2_with fail
   go_ret
   exact ⟨d'.toList, W2, hperm.out, HB2.out, hQ.out⟩
end Go.Proofs.YthhlbdgladhdkaaGreatDoor
end
