/- What the later texts stand on (Rut, Prv, Stp, Stp2): plain laws and walks, each by its own conditions. -/
import Derived.Test.YthhlbdgladhdkaaGreatDoorUs18
import Derived.Test.YthhlbdgladhdkaaGreatDoorUs5
import Derived.Shelf.Small.Wraps
import Derived.Deep.LoopGhost
import Derived.Deep.DeepCutAuto
import Derived.Deep.CutBlock
import Derived.Test.YthhlbdgladhdkaaGreatDoorUs16
set_option linter.unusedSimpArgs false
set_option linter.unusedVariables false
section
namespace Go.Proofs.YthhlbdgladhdkaaGreatDoor
open BigFrame Go.RowKit Go.Phx Go.Shelf
attribute [local go_sem] Oper.semAt_some

def IsSrt (l : List (Bytes × Bytes)) (S : List Pr) : Prop := S.Perm (lfL l) ∧ S.Pairwise (fun a b => Op.bytesLess a.1 b.1 = true)
open Classical in
noncomputable def srtL (l : List (Bytes × Bytes)) : List Pr := if h : ∃ S, IsSrt l S then h.choose else []
theorem srtL_eq {l : List (Bytes × Bytes)} {S : List Pr} (h : IsSrt l S) : srtL l = S := by
 unfold srtL
 have hx : ∃ S, IsSrt l S := ⟨S, h⟩
 rw [dif_pos hx]
 have h2 := hx.choose_spec
 exact sorted_one (h2.1.trans h.1.symm) h2.2 h.2
noncomputable def trieL (l : List (Bytes × Bytes)) : Nd := growP 200 (srtL l)
structure GoodL (l : List (Bytes × Bytes)) (K : Nat) : Prop where
 ne : l ≠ []
 len : l.length ≤ 200
 nd : (l.map Prod.fst).Nodup
 one : 1 ≤ K
 le : K ≤ 64
 all : ∀ p ∈ l, p.1.length = K ∧ p.2 ≠ [] ∧ p.2.length ≤ 1000
theorem lf_nodup {l : List (Bytes × Bytes)} (h : (l.map Prod.fst).Nodup) : ((lfL l).map Prod.fst).Nodup := by
 unfold lfL
 rw [List.map_map, List.nodup_iff_pairwise_ne, List.pairwise_map] at *
 exact h.imp fun {a b} hab e => hab (pathOf_inj e)
theorem srt_facts {l : List (Bytes × Bytes)} {K : Nat} (G : GoodL l K) {S : List Pr} (hS : IsSrt l S) : S ≠ [] ∧ SortP S ∧ (∀ x ∈ S, x.1.length = 2 * K ∧ NibP x.1 ∧ x.2 ≠ [] ∧ x.2.length ≤ 1000) ∧ S.length ≤ 200 := by
 have hl : S.length = l.length := by rw [hS.1.length_eq]; exact List.length_map ..
 refine ⟨fun e => G.ne (List.eq_nil_of_length_eq_zero (by rw [← hl, e]; rfl)), hS.2.imp fun {a b} h => bl_ltB _ _ h, fun x hx => ?_, by rw [hl]; exact G.len⟩
 have hx2 := hS.1.mem_iff.1 hx
 unfold lfL at hx2
 obtain ⟨p, hp, rfl⟩ := List.mem_map.1 hx2
 obtain ⟨h1, h2, h3⟩ := G.all p hp
 exact ⟨by rw [pathOf_len, h1], pathOf_nib _, h2, h3⟩
theorem look_srt {l : List (Bytes × Bytes)} (hn : (l.map Prod.fst).Nodup) {S : List Pr} (hS : IsSrt l S) (key : Bytes) : lookP S (pathOf key) = lookP l key := by
 have hu : S.Pairwise (fun a b => a.1 ≠ b.1) := by
  have := (hS.1.map Prod.fst).nodup_iff.2 (lf_nodup hn)
  rw [List.nodup_iff_pairwise_ne, List.pairwise_map] at this
  exact this
 have hu2 : l.Pairwise (fun a b => a.1 ≠ b.1) := by
  rw [List.nodup_iff_pairwise_ne, List.pairwise_map] at hn
  exact hn
 by_cases hk : ∃ v, (key, v) ∈ l
 ·obtain ⟨v, hv⟩ := hk
  rw [look_mem hu2 hv]
  refine look_mem hu (hS.1.mem_iff.2 ?_)
  exact List.mem_map.2 ⟨(key, v), hv, rfl⟩
 ·have e1 : lookP l key = [] := look_none fun x hx e => hk ⟨x.2, by rw [e]; exact hx⟩
  have e2 : lookP S (pathOf key) = [] := look_none fun x hx e => by
   have hx2 := hS.1.mem_iff.1 hx
   unfold lfL at hx2
   obtain ⟨p, hp, rfl⟩ := List.mem_map.1 hx2
   exact hk ⟨p.2, by rw [pathOf_inj e]; exact hp⟩
  rw [e1, e2]
theorem trie_good {l : List (Bytes × Bytes)} {K : Nat} (G : GoodL l K) (hx : ∃ S, IsSrt l S) : GoodN (trieL l) ∧ ∀ key : Bytes, key.length = K → findN (trieL l) (pathOf key) = lookP l key := by
 obtain ⟨S, hS⟩ := hx
 obtain ⟨h1, h2, h3, h4⟩ := srt_facts G hS
 unfold trieL
 rw [srtL_eq hS]
 have := G.le
 refine ⟨good_grow 200 S (2 * K) h1 h2 h3 (by omega) (by omega), fun key hk => ?_⟩
 rw [find_grow 200 S (2 * K) (pathOf key) h1 h2 (fun x hx => (h3 x hx).1) (by omega) (by rw [pathOf_len, hk]), look_srt G.nd hS]
theorem troot_calls (A : Option Addr) (c : Nat) (l : List (Bytes × Bytes)) (K : Nat) (G : GoodL l K) (w : World) (R : Cs w A (PrL l)) (hT : HasT w) :
  Calls Tryz.prog 30 #[.slice A l.length c] w (fun e w' => ∃ b, e = .returned (ptrV b) ∧ TrS (fun b => w.heap.size ≤ b) w' (trieL l) b ∧ Below w.heap.size w w' ∧ GoodN (trieL l) ∧ ∀ key : Bytes, key.length = K → findN (trieL l) (pathOf key) = lookP l key) := by
 have hle := G.le
 refine (root_calls A c l G.ne G.len (fun p hp => by rw [(G.all p hp).1]; exact G.le) (lf_nodup G.nd) w R (fun S W' e w' => ∃ b, e = .returned (ptrV b) ∧ TrS (fun b => W'.heap.size ≤ b) w' (growP 200 S) b ∧ Below W'.heap.size W' w' ∧ IsSrt l S) ?_).mono ?_
 ·intro S A' c' W' hp hs hB hc hm hcs
  obtain ⟨h1, h2, h3, h4⟩ := srt_facts G ⟨hp, hs⟩
  refine (grow_calls 200 S (2 * K) h1 h2 h3 (by omega) (by omega) h4 A' c' hc hm W' (hcs.keep (Nat.le_refl _) fun _ _ _ => ⟨trivial, rfl⟩) (hT.below hB)).mono ?_
  rintro e w' ⟨b, rfl, ht, hB2⟩
  exact ⟨⟨_, rfl⟩, b, rfl, ht, hB2, hp, hs⟩
 ·rintro e w' ⟨S, W', hp, hB, b, rfl, ht, hB2, hS⟩
  obtain ⟨g1, g2⟩ := trie_good G ⟨S, hS⟩
  refine ⟨b, rfl, ?_, hB.trans (hB2.mono hB.size), g1, g2⟩
  unfold trieL
  rw [srtL_eq hS]
  exact ht.weak fun b hb _ => Nat.le_trans hB.size hb
set_option maxRecDepth 100000 in
set_option maxHeartbeats 4000000 in
theorem Root_calls (A : Option Addr) (c : Nat) (l : List (Bytes × Bytes)) (K : Nat) (G : GoodL l K) (w : World) (R : Cs w A (PrL l)) (hT : HasT w) :
  Calls Tryz.prog 16 #[.slice A l.length c] w (Ret w (.tuple #[.string (bs (kecc (bytesN kecc (trieL l)))), .int .i64 0])) := by
 have hle := G.le
 have hone := G.one
 have n1 := fun W (hB : Below w.heap.size w W) => right_calls A c l G.len (fun p hp => ⟨fun e => by have := (G.all p hp).1; rw [e] at this; simp at this; omega, by rw [(G.all p hp).1]; exact G.le, (G.all p hp).2⟩) W (R.below hB)
 have n2 := fun W (hB : Below w.heap.size w W) => troot_calls A c l K G W (R.below hB) (hT.below hB)
 have hd : decide (l.map Prod.fst).Nodup = true := decide_eq_true G.nd
 rw [hd] at n1
 replace n1 := Lib.hid n1
 replace n2 := Lib.hid n2
 replace hT := Lib.hid hT
 clear hd hle hone G R
 go_enter Tryz.func16, Tryz.ntmps16
 go_wp2_with fail
 refine (n1.out _ (Below.refl _ _)).mono ?_
 rintro e w1 ⟨rfl, hB1⟩
 replace hB1 := Lib.hid hB1
 go_wp2_with fail
 refine (n2.out _ hB1.out).mono ?_
 rintro e w2 ⟨b, rfl, ht, hB2, hg, _⟩
 obtain ⟨v, A1, B1, c1, c2, hK, _⟩ := ht.node
 have hle := node_le kecc kecc_len _ hg
 have K0 := Lib.hid hK
 have HB := Lib.hid (hB1.out.trans (hB2.mono hB1.out.size))
 have hs : ∀ W : World, Below w.heap.size w W → Calls Tryz.prog 5 #[.slice (some ⟨W.heap.size, 0, none⟩) 1 1] (W.alloc (.cells #[.string (bs (bytesN kecc (trieL l)))] 9)) _ := fun W hB => ksum_calls (bytesN kecc (trieL l)) (by unfold bytesN; omega) (some ⟨W.heap.size, 0, none⟩) 1 (Nat.le_refl _) (W.alloc (.cells #[.string (bs (bytesN kecc (trieL l)))] 9)) (hT.out.below (hB.alloc hB.size _)) (new_txts W _)
 replace hs := Lib.hid hs
 generalize bytesN kecc (trieL l) = t at *
 clear ht hB1 hB2 n1 n2 hg hK hle
 (obtain ⟨k0, f0, l0, m0⟩ := K0.out.rl)
 unfold ptrV
 go_wp2_with fail
 refine (hs.out _ HB.out).mono ?_
 rintro e w3 ⟨rfl, hB3⟩
 replace hB3 := Lib.hid (Below.on hB3 (HB.out.alloc HB.out.size _))
 go_wp2_with fail
 refine bodyPost_ret (v := .tuple #[.string (bs (kecc t)), .int .i64 0]) (by simp (maxDischargeDepth := 9) [results, Tryz.results16, go_sem, *]) rfl ⟨rfl, hB3.out⟩
end Go.Proofs.YthhlbdgladhdkaaGreatDoor
end
section
namespace Go.Proofs.YthhlbdgladhdkaaGreatDoor
open BigFrame Go.RowKit Go.Phx Go.Shelf
attribute [local go_sem] Oper.semAt_some

theorem pre_take : ∀ (s p : Bytes), List.isPrefixOf p s = decide (s.take p.length = p)
 | s, [] => by simp [List.isPrefixOf]
 | [], a :: p => by simp [List.isPrefixOf]
 | b :: s, a :: p => by
  rw [List.isPrefixOf, pre_take s p]
  simp only [List.length_cons, List.take_succ_cons, List.cons.injEq]
  by_cases h : a = b
  ·subst h; simp
  ·have h2 : ¬ b = a := fun e => h e.symm
   simp [h, h2]
def restP (s p : Bytes) : Bytes := if s.take p.length = p then s.drop p.length else s
theorem cutp_calls (s p : Bytes) (w : World) : Calls Tryz.prog 32 #[.string (bs s), .string (bs p)] w (fun e w' => e = .returned (.tuple #[.string (bs (restP s p)), .bool (decide (s.take p.length = p))]) ∧ w' = w) := by
 have := Tryz.strings_CutPrefix (bs s) (bs p) w
 have e1 : Lib.hasPrefix (bs s).data.toList (bs p).data.toList = decide (s.take p.length = p) := pre_take s p
 have e2 : (⟨(Lib.trimPrefix (bs s).data.toList (bs p).data.toList).toArray⟩ : ByteArray) = bs (restP s p) := by
  unfold Lib.trimPrefix restP
  rw [e1]
  by_cases h : s.take p.length = p
  ·rw [if_pos h, decide_eq_true h, if_pos rfl]; rfl
  ·rw [if_neg h, decide_eq_false h, if_neg (by decide)]
 rw [e1, e2] at this
 exact this
theorem TrS.parts {S : Nat → Prop} {W : World} {d : Nd} {b : Nat} (h : TrS S W d b) : ∃ (v : Iv) (A B : Option Addr) (c1 c2 : Nat) (ps : List Nat), Blk W b 86 #[.bool v.f, .string (bs v.t), .slice v.A v.n v.c, .string (bs (bytesN kecc d)), .slice A (kidsN d).length c1, .slice B (kidsN d).length c2] ∧
  (kidsN d).length ≤ maxLen ∧ ps.length = (kidsN d).length ∧ CsS S W A (ledL (kidsN d)) ∧ CsS S W B (ps.map ptrV) ∧ ∀ (i : Nat) x p, (kidsN d)[i]? = some x → ps[i]? = some p → TrS S W x.2 p := by
 cases h with
 | mk _ _ v A B k c1 c2 ps hb hK R hk hkm hps hA hB h =>
  subst hk
  exact ⟨v, A, B, c1, c2, ps, hK, hkm, hps, hA, hB, h⟩
theorem pick_at : ∀ {l : List (Bytes × Nd)} {q : Bytes} (i : Nat) {x : Bytes × Nd}, (∀ (j : Nat) y, j < i → l[j]? = some y → ¬ q.take y.1.length = y.1) → l[i]? = some x → q.take x.1.length = x.1 → pickN l q = some x
 | [], q, i, x, _, h, _ => by simp at h
 | y :: l, q, 0, x, _, h, hx => by
  simp at h
  subst h
  exact pick_yes hx
 | y :: l, q, i + 1, x, hn, h, hx => by
  rw [pick_no (hn 0 y (by omega) rfl)]
  exact pick_at i (fun j z hj hz => hn (j + 1) z (by omega) (by simpa using hz)) (by simpa using h) hx
theorem pick_none : ∀ {l : List (Bytes × Nd)} {q : Bytes}, (∀ (j : Nat) y, l[j]? = some y → ¬ q.take y.1.length = y.1) → pickN l q = none
 | [], q, _ => rfl
 | y :: l, q, hn => by
  rw [pick_no (hn 0 y rfl)]
  exact pick_none fun j z hz => hn (j + 1) z (by simpa using hz)
set_option maxRecDepth 100000 in
set_option maxHeartbeats 16000000 in
theorem Prove_calls (A : Option Addr) (c : Nat) (l : List (Bytes × Bytes)) (K : Nat) (G : GoodL l K) (key : Bytes) (hk : key.length = K) (w : World) (R : Cs w A (PrL l)) (hT : HasT w) :
  Calls Tryz.prog 17 #[.slice A l.length c, .string (bs key)] w (fun e w' => ∃ A' c', e = .returned (.tuple #[.slice A' (wayN kecc true (trieL l) (pathOf key)).length c', .int .i64 0]) ∧ (wayN kecc true (trieL l) (pathOf key)).length ≤ c' ∧ Txts w' A' (wayN kecc true (trieL l) (pathOf key)) ∧ Below w.heap.size w w' ∧ GoodN (trieL l) ∧ findN (trieL l) (pathOf key) = lookP l key) := by
 have hle := G.le
 have hone := G.one
 have n1 := fun W (hB : Below w.heap.size w W) => right_calls A c l G.len (fun p hp => ⟨fun e => by have := (G.all p hp).1; rw [e] at this; simp at this; omega, by rw [(G.all p hp).1]; exact G.le, (G.all p hp).2⟩) W (R.below hB)
 have n2 := fun W (hB : Below w.heap.size w W) => troot_calls A c l K G W (R.below hB) (hT.below hB)
 have hd : decide (l.map Prod.fst).Nodup = true := decide_eq_true G.nd
 have n3 := fun W => of_calls key (by omega) W
 have hql := pathOf_len key
 have n4 := fun p s W => cutp_calls s p W
 rw [hd] at n1
 replace n1 := Lib.hid n1
 replace n2 := Lib.hid n2
 replace n3 := Lib.hid n3
 replace n4 := Lib.hid n4
 have hkq := Lib.hid hk
 obtain ⟨q0, hq0⟩ : ∃ q0, pathOf key = q0 := ⟨_, rfl⟩
 have hQ0 := Lib.hid hq0
 rw [hq0] at n3 hql ⊢
 clear hq0
 generalize trieL l = d0 at *
 clear hd hone G R hT
 go_enter Tryz.func17, Tryz.ntmps17
 go_wp2_with fail
 refine wp_scope_straight ?_
 go_wp2_with fail
 refine (n1.out _ (Below.refl _ _)).mono ?_
 rintro e w1 ⟨rfl, hB1⟩
 replace hB1 := Lib.hid hB1
 go_wp2_with fail
 refine (n3.out _).mono ?_
 rintro e w2 ⟨rfl, hB2⟩
 have HB2 := Lib.hid (hB1.out.trans (hB2.mono hB1.out.size))
 clear hB2 hB1
 go_wp2_with fail
 refine (n2.out _ HB2.out).mono ?_
 rintro e w3 ⟨b0, rfl, ht, hB3, hg, hfk⟩
 have hfk := Lib.hid (show findN d0 q0 = lookP l key from by rw [← hQ0.out]; exact hfk key hkq.out)
 have HB3 := Lib.hid (HB2.out.trans (hB3.mono HB2.out.size))
 replace ht := Lib.hid ht
 replace hg := Lib.hid hg
 clear hB3 HB2 n1 n2 n3
 unfold ptrV
 go_wp2_with fail
 go_step3
 go_wp2_with fail
 go_loopg [6, 7, 8, 9] q0.length (fun gk out path x first wr => ∃ (d : Nd) (b : Nat) (q : Bytes) (f : Bool) (outL : List Bytes), x = .pointer (some ⟨b, 0, none⟩) ∧ path = .string (bs q) ∧ first = .bool f ∧ q.length ≤ gk ∧ q.length ≤ 128 ∧ Hid (GoodN d) ∧ LRow w3.heap.size wr out outL ∧ outL.length + gk ≤ 200 ∧ Hid (wayN kecc true d0 q0 = outL ++ wayN kecc f d q) ∧ Hid (TrS (fun _ => True) w3 d b) ∧ Below w3.heap.size w3 wr)
 case atStart => exact ⟨d0, b0, q0, true, [], rfl, rfl, rfl, Nat.le_refl _, by omega, hg, World.ownsRow_nil _ _ _ _, by simp; omega, Lib.hid rfl, Lib.hid (ht.out.weak fun _ _ _ => trivial), Below.refl _ _⟩
 case round =>
  obtain ⟨d, b, q, f, outL, rfl, rfl, rfl, hq, hq8, hgd, OWN, hol, hway, ht2, HB⟩ := hrel
  obtain ⟨v, A1, A2, c1, c2, ps, KN, hkm, hps, hcA, hcB, hch⟩ := ht2.out.parts
  have hle9 := node_le kecc kecc_len d hgd.out
  obtain ⟨t, htt⟩ : ∃ t, bytesN kecc d = t := ⟨_, rfl⟩
  have hown : Hid (ownN kecc f d = if (f || decide (32 ≤ t.length)) then [t] else []) := Lib.hid (by unfold ownN; rw [htt])
  rw [htt] at KN
  have K0 := Lib.hid (KN.below HB)
  have hbw := KN.lt
  obtain ⟨m, hm⟩ : ∃ m, (kidsN d).length = m := ⟨_, rfl⟩
  rw [hm] at K0 hps hkm
  have hm63 : m ≤ 9223372036854775807 := by unfold maxLen at hkm; omega
  have HN := Lib.hid hm
  have htl : t.length ≤ 2000 := by rw [← htt]; exact hle9
  clear htt hm KN ht2 hle9
  replace hcA := Lib.hid hcA
  replace hcB := Lib.hid hcB
  replace hch := Lib.hid hch
  (obtain ⟨k0, f0, l0, m0⟩ := K0.out.rl)
  go_upto_region 9 with fail
  go_cut [31] (fun s31 wx => s31 = .bool (f || decide (32 ≤ t.length)) ∧ wx = wr)
  case first =>
   obtain ⟨W, hWr⟩ : ∃ W, W = wr := ⟨_, rfl⟩
   subst hWr
   cases f with
   | true =>
    go_wp2_with fail
    go_meet
    case rel => exact ⟨rfl, rfl⟩
   | false =>
    go_wp2_with fail
    go_meet
    case rel => exact ⟨by simp; omega, rfl⟩
  case rest =>
   obtain ⟨rfl, rfl⟩ := hcut
   obtain ⟨ow, how⟩ : ∃ ow, (f || decide (32 ≤ t.length)) = ow := ⟨_, rfl⟩
   rw [how] at hown ⊢
   clear how
   go_upto_if 31 with fail
   go_cut [6] (fun s6 wx => LRow w3.heap.size wx s6 (outL ++ ownN kecc f d) ∧ Below w3.heap.size w3 wx ∧ Blk wx b 86 #[.bool v.f, .string (bs v.t), .slice v.A v.n v.c, .string (bs t), .slice A1 m c1, .slice A2 m c2])
   case first =>
    obtain ⟨W, hWr⟩ : ∃ W, W = wc := ⟨_, rfl⟩
    subst hWr
    cases ow with
    | false =>
     have e9 : ownN kecc f d = [] := by have := hown.out; simpa using this
     replace e9 := Lib.hid e9
     replace OWN := Lib.hid OWN
     replace HB := Lib.hid HB
     go_wp2_with fail
     go_meet
     case rel => exact ⟨by rw [e9.out, List.append_nil]; exact OWN.out, HB.out, K0.out⟩
    | true =>
     have e9 : ownN kecc f d = [t] := by have := hown.out; simpa using this
     replace e9 := Lib.hid e9
     obtain ⟨Ao, co, eo, _⟩ := own_shape OWN
     subst eo
     replace OWN := Lib.hid OWN
     replace HB := Lib.hid HB
     have hz := HB.out.size
     go_wp2_with (at_builtin; refine wpList_append_txt rfl _ _ rfl w3.heap.size _ outL rfl (OWN.out.on _) t ⟨W.heap.size, 0, none⟩ rfl (new_cell _ _ _) (by omega) (by simp; omega) ?_)
     intro v' w' hown2 hgrow2 _
     obtain ⟨A9, c9, e10, _⟩ := own_shape hown2
     subst e10
     have hK : Blk w' b 86 #[.bool v.f, .string (bs v.t), .slice v.A v.n v.c, .string (bs t), .slice A1 m c1, .slice A2 m c2] := (K0.out.alloc _).grown hgrow2 fun e => by have := (World.ownsRow.lt OWN.out b e.symm).1; omega
     have hB2 := (HB.out.alloc hz (.cells #[.string (bs t)] 9)).grown hgrow2 (by simp; omega) (fun j e => (World.ownsRow.lt OWN.out j e).1)
     replace hK := Lib.hid hK
     replace hB2 := Lib.hid hB2
     replace hown2 := Lib.hid hown2
     clear hgrow2
     go_wp2_with fail
     go_meet
     case rel => exact ⟨by rw [e9.out]; exact hown2.out, hB2.out, hK.out⟩
   case rest =>
    obtain ⟨OWN2, HB2, KN2⟩ := hcut
    have hol2 : (outL ++ ownN kecc f d).length + gk ≤ 201 := by
     rw [List.length_append]
     have : (ownN kecc f d).length ≤ 1 := by unfold ownN; split <;> simp
     omega
    have hway2 := Lib.hid (show wayN kecc true d0 q0 = (outL ++ ownN kecc f d) ++ tailN kecc d q by rw [hway.out, way_pick, List.append_assoc])
    generalize outL ++ ownN kecc f d = outM at *
    obtain ⟨Ao, co, eo, hcn, _, CO, hoo⟩ := own_shape OWN2
    subst eo
    clear k0 f0 l0 m0 K0 OWN HB hown hway hol
    have K0 := Lib.hid KN2
    clear KN2
    replace OWN2 := Lib.hid OWN2
    replace HB2 := Lib.hid HB2
    (obtain ⟨k0, f0, l0, m0⟩ := K0.out.rl)
    clear CO hoo
    replace hcn := Lib.hid hcn
    go_wp2_with fail
    go_loopg [7, 8, 44] m (fun g2 s7 s8 s44 wy => s7 = .string (bs q) ∧ s8 = .pointer (some ⟨b, 0, none⟩) ∧ ∃ i : Nat, i + g2 = m ∧ s44 = .int .i64 i ∧ Hid (∀ (j : Nat) y, j < i → (kidsN d)[j]? = some y → ¬ q.take y.1.length = y.1) ∧ wy = wc)
    case atStart => exact ⟨rfl, rfl, 0, by omega, rfl, Lib.hid (fun j y hj => by omega), rfl⟩
    case round =>
     obtain ⟨rfl, rfl, i, hi, rfl, hno, rfl⟩ := hrel
     cases gk with
     | zero =>
      have hlt9 : ¬ (i : Int) < (m : Int) := by omega
      have hend := Lib.hid (show wayN kecc true d0 q0 = outM by
       rw [hway2.out]
       unfold tailN
       rw [pick_none (fun j y hy => hno.out j y (by have := (List.getElem?_eq_some_iff.1 hy).1; have := HN.out; omega) hy)]
       simp [onN])
      go_wp2_with fail
      refine bodyPost_ret (v := .tuple #[.slice Ao outM.length co, .int .i64 0]) (by simp (maxDischargeDepth := 9) [results, Tryz.results17, go_sem, *]) rfl ⟨Ao, co, by rw [hend.out], by rw [hend.out]; exact hcn.out, ?_, HB3.out.trans (HB2.out.mono HB3.out.size), hg.out, hfk.out⟩
      rw [hend.out]
      obtain ⟨A7, c7, e7, h7⟩ := OWN2.out.txts
      injection e7 with e7
      rw [e7]
      exact h7
     | succ g2 =>
      have hlt9 : (i : Int) < (m : Int) := by omega
      obtain ⟨x, hx⟩ : ∃ x, (kidsN d)[i]? = some x := ⟨_, List.getElem?_eq_getElem (by have := HN.out; omega)⟩
      obtain ⟨p9, hp9⟩ : ∃ p, ps[i]? = some p := ⟨_, List.getElem?_eq_getElem (by omega)⟩
      have ht9 := hch.out i x p9 hx hp9
      have hgx := good_kids d hgd.out x (List.mem_of_getElem? hx)
      have hL1 : (ledL (kidsN d))[i]? = some (.string (bs x.1)) := by unfold ledL; rw [List.getElem?_map, hx]; rfl
      have hL2 : (ps.map ptrV)[i]? = some (.pointer (some ⟨p9, 0, none⟩)) := by rw [List.getElem?_map, hp9]; rfl
      obtain ⟨b1, o1, rfl, _, hb1, hc1⟩ := hcA.out (by have := (List.getElem?_eq_some_iff.1 hL1).1; omega)
      obtain ⟨b2, o2, rfl, _, hb2, hc2⟩ := hcB.out (by have := (List.getElem?_eq_some_iff.1 hL2).1; omega)
      have e1 := (HB2.out.cell (p := ⟨b1, o1 + i, none⟩) hb1).trans (hc1 i _ hL1)
      have e2 := (HB2.out.cell (p := ⟨b2, o2 + i, none⟩) hb2).trans (hc2 i _ hL2)
      obtain ⟨pk, nk⟩ := x
      simp only at e1 hgx ht9
      have n5 := Lib.hid (fun W => n4.out pk q W)
      replace ht9 := Lib.hid ht9
      replace hgx := Lib.hid hgx
      replace hx := Lib.hid hx
      have hb2w : b2 < wr.heap.size := Nat.lt_of_lt_of_le hb2 HB2.out.size
      clear hc1 hc2 hL1 hL2 hp9 hcA hcB hch
      by_cases hm : q.take pk.length = pk
      ·have hdec : decide (q.take pk.length = pk) = true := decide_eq_true hm
       have hrp : restP q pk = q.drop pk.length := by unfold restP; rw [if_pos hm]
       rw [hdec, hrp] at n5
       have hmh := Lib.hid hm
       clear hm hdec hrp
       go_wp2_with fail
       refine (n5.out _).mono ?_
       rintro e w9 ⟨rfl, rfl⟩
       go_wp2_with fail
       (refine wp_region_later (by kernel_rfl) (by kernel_rfl) ?_; (repeat (go_big_quiet_step (fail))); refine wpQuiet_nil ?_; intro w' hB)
       have OWN9 := Lib.hid (own_below OWN2.out hB)
       have HB9 := Lib.hid (HB2.out.trans (hB.mono HB2.out.size))
       clear hB
       go_wp2_with fail
       have hpl : pk.length ≤ q.length := by have := congrArg List.length hmh.out; rw [List.length_take] at this; omega
       have hway9 : wayN kecc true d0 q0 = outM ++ wayN kecc false nk (q.drop pk.length) := by
        rw [hway2.out]
        unfold tailN
        rw [pick_at i hno.out hx.out hmh.out]
        rfl
       go_roundg (q.drop pk.length).length
       case measure => rw [List.length_drop]; have := hgx.out.1; omega
       case rel => exact ⟨nk, p9, q.drop pk.length, false, outM, rfl, rfl, rfl, Nat.le_refl _, by rw [List.length_drop]; omega, Lib.hid hgx.out.2.2.2, OWN9.out, by rw [List.length_drop]; have := hgx.out.1; omega, Lib.hid hway9, ht9, HB9.out⟩
      ·have hdec : decide (q.take pk.length = pk) = false := decide_eq_false hm
       rw [hdec] at n5
       have hmh := Lib.hid hm
       generalize restP q pk = rq at *
       clear hm hdec
       go_wp2_with fail
       refine (n5.out _).mono ?_
       rintro e w9 ⟨rfl, rfl⟩
       go_wp2_with fail
       go_roundg g2
       case measure => omega
       case rel => exact ⟨rfl, rfl, i + 1, by omega, by go_num, Lib.hid (fun j y hj hy => by
        by_cases hji : j < i
        ·exact hno.out j y hji hy
        ·obtain rfl : j = i := by omega
         rw [hx.out] at hy
         injection hy with hy
         rw [← hy]
         exact hmh.out), rfl⟩
end Go.Proofs.YthhlbdgladhdkaaGreatDoor
end
section
namespace Go.Proofs.YthhlbdgladhdkaaGreatDoor
open BigFrame Go.RowKit Go.Phx Go.Shelf
attribute [local go_sem] Oper.semAt_some

theorem rep_away {S : Nat → Prop} {W : World} {x : It} {v : Iv} {b n c : Nat} {t : TypeId} {s u : ByteArray} {A : Option Addr} (h : RepS S W x v) (K : Blk W b t #[.string s, .slice A n c, .string u]) : RepS (fun j => S j ∧ j ≠ b) W x v := by
 induction h with
 | text b => exact .text b
 | list l A' c' vs hl hc hm hA h ih =>
  refine .list l A' c' vs hl hc hm (fun h0 => ?_) ih
  obtain ⟨b1, o1, ha, hS1, hb1, hcs⟩ := hA h0
  refine ⟨b1, o1, ha, ⟨hS1, fun e => ?_⟩, hb1, hcs⟩
  subst e
  match vs, h0 with
  | v0 :: vs, h0 =>
   have h1 := hcs 0 (.bool v0.f) (by rw [IvL_cons]; rfl)
   rw [K.cell, Nat.add_zero] at h1
   match o1, h1 with
   | 0, h1 => simp at h1
   | 1, h1 => simp at h1
   | 2, h1 => simp at h1
   | o + 3, h1 => simp at h1
def StepP (S : Nat → Prop) (w : World) (d : Nd) (b : Nat) (q : Bytes) (A : Option Addr) (n c : Nat) (e : Ending) (w' : World) : Prop :=
 w.grownBy w' (some b) ∧ ((∃ (x : Bytes × Nd) (u : Iv), pickN (kidsN d) q = some x ∧ e = .returned (.tuple #[u.val, .bool true]) ∧ RepS S w' (refI kecc (itemN kecc x.2)) u ∧ Blk w' b 93 #[.string (bs (q.drop x.1.length)), .slice A n c, .string ⟨#[]⟩]) ∨
  (pickN (kidsN d) q = none ∧ ∃ q' : Bytes, e = .returned (.tuple #[itV false [] none 0 0, .bool false]) ∧ Blk w' b 93 #[.string (bs q'), .slice A n c, .string (bs (findN d q))]) ∨
  (pickN (kidsN d) q = none ∧ findN d q = [] ∧ ∃ (u : Iv) (q' : Bytes), e = .returned (.tuple #[u.val, .bool false]) ∧ Blk w' b 93 #[.string (bs q'), .slice A n c, .string ⟨#[]⟩]))
set_option maxRecDepth 100000 in
set_option maxHeartbeats 16000000 in
theorem step_leaf (S : Nat → Prop) (p s : Bytes) (hg : GoodN (.leaf p s)) (b : Nat) (q : Bytes) (A : Option Addr) (n c : Nat) (v : Iv) (w : World) (KW : Blk w b 93 #[.string (bs q), .slice A n c, .string ⟨#[]⟩]) (R : RepS S w (itemN kecc (.leaf p s)) v) :
  Calls Tryz.prog 35 #[.pointer (some ⟨b, 0, none⟩), v.val] w (StepP S w (.leaf p s) b q A n c) := by
 rw [GoodN] at hg
 rw [itemN] at R
 obtain ⟨h1, h2, h3, h4, h5, vs, h6, h7, h8⟩ := R.rep.row
 obtain ⟨f, t, A9, m9, c9⟩ := v
 simp only at h1 h2 h3 h4 h5 h7
 subst h1 h3
 match vs, h6 with
 | [u1, u2], _ =>
  obtain ⟨b1, o1, rfl⟩ := addr_of h7 (by simp)
  have e1 := (h8 0 _ u1 rfl rfl).txt
  have e2 := (h8 1 _ u2 rfl rfl).txt
  subst e1 e2
  obtain ⟨hb1, c0, c1, c2, c3, c4, c5⟩ := two_cells h7
  simp only at c0 c1 c2 c3 c4 c5
  have n1 := fun W => read_calls p true hg.1 (by have := hg.2.2.2; omega) W
  have n2 := fun W => cutp_calls q p W
  have hfin : (q.take p.length = p ∧ restP q p = []) ↔ q = p := by
   unfold restP
   constructor
   ·rintro ⟨h, h2⟩
    rw [if_pos h] at h2
    have := List.take_append_drop p.length q
    rw [h2, List.append_nil, h] at this
    exact this.symm
   ·rintro rfl
    simp
  have hpk : pickN (kidsN (.leaf p s)) q = none := rfl
  have hfd : findN (.leaf p s) q = if q = p then s else [] := by rw [findN]
  generalize formP p true = fp at *
  generalize hrq : restP q p = rq at *
  obtain ⟨dq, hdq⟩ : ∃ dq, decide (q.take p.length = p) = dq := ⟨_, rfl⟩
  rw [hdq] at n2
  replace n1 := Lib.hid n1
  replace n2 := Lib.hid n2
  replace hfin := Lib.hid hfin
  replace hpk := Lib.hid hpk
  replace hfd := Lib.hid hfd
  replace hdq := Lib.hid hdq
  replace hrq := Lib.hid hrq
  clear R h7 h8 h2 h4 h5 hg
  obtain ⟨r, hr0⟩ : ∃ r, w.heap.size = r := ⟨_, rfl⟩
  have K0a := (Blk.new0 w 52 #[.bool true, .string (bs t), .slice (some ⟨b1, o1, none⟩) 2 c9]).alloc (.cells #[.bool false, .string ⟨#[]⟩, .slice none 0 0] 52)
  have K1a := Blk.new1 w (.cells #[.bool true, .string (bs t), .slice (some ⟨b1, o1, none⟩) 2 c9] 52) 52 #[.bool false, .string ⟨#[]⟩, .slice none 0 0]
  have KWa := (KW.alloc (.cells #[.bool true, .string (bs t), .slice (some ⟨b1, o1, none⟩) 2 c9] 52)).alloc (.cells #[.bool false, .string ⟨#[]⟩, .slice none 0 0] 52)
  have HBa : Below w.heap.size w ((w.alloc (.cells #[.bool true, .string (bs t), .slice (some ⟨b1, o1, none⟩) 2 c9] 52)).alloc (.cells #[.bool false, .string ⟨#[]⟩, .slice none 0 0] 52)) := bel
  have hbr : b < r := by rw [← hr0]; exact KW.lt
  rw [hr0] at K0a K1a
  replace hr0 := Lib.hid hr0
  go_enter Tryz.func35, Tryz.ntmps35
  go_upto_region 8 with fail
  rw [hr0.out]
  obtain ⟨W, hW⟩ : ∃ W, (w.alloc (.cells #[.bool true, .string (bs t), .slice (some ⟨b1, o1, none⟩) 2 c9] 52)).alloc (.cells #[.bool false, .string ⟨#[]⟩, .slice none 0 0] 52) = W := ⟨_, rfl⟩
  rw [hW] at K0a K1a KWa HBa ⊢
  clear hW
  have d1 := (HBa.cell (p := ⟨b1, o1 + 1, none⟩) hb1).trans c1
  have d4 := (HBa.cell (p := ⟨b1, o1 + 4, none⟩) hb1).trans c4
  have hb1W : b1 < W.heap.size := Nat.lt_of_lt_of_le hb1 HBa.size
  have K0 := Lib.hid K0a
  clear c0 c1 c2 c3 c4 c5 K0a
  (obtain ⟨k0, f0, l0, m0⟩ := K0.out.rl)
  go_wp2_with fail
  refine (n1.out _).mono ?_
  rintro e w1 ⟨rfl, hB1⟩
  have P0 := Lib.hid (K0.out.below hB1)
  have P1 := Lib.hid (K1a.below hB1)
  have P2 := Lib.hid (KWa.below hB1)
  have HB := Lib.hid (HBa.trans (hB1.mono HBa.size))
  have g4 := (hB1.cell (p := ⟨b1, o1 + 4, none⟩) hb1W).trans d4
  have hb1w : b1 < w1.heap.size := Nat.lt_of_lt_of_le hb1W hB1.size
  clear k0 f0 l0 m0 K0 K1a KWa HBa hB1 d1 d4 n1 KW
  have K0 := P0
  have K1 := P1
  have K2 := P2
  clear P0 P1 P2
  (obtain ⟨k0, f0, l0, m0⟩ := K0.out.rl; obtain ⟨k1, f1, l1, m1⟩ := K1.out.rl; obtain ⟨k2, f2, l2, m2⟩ := K2.out.rl)
  go_wp2_with fail
  refine (n2.out _).mono ?_
  rintro e w2 ⟨rfl, rfl⟩
  have hrr := K1.out.lt
  by_cases hqp : q = p
  ·obtain ⟨h9, rfl⟩ := hfin.out.2 hqp
   obtain rfl : dq = true := by rw [← hdq.out]; exact decide_eq_true h9
   have hv : Hid (findN (.leaf p s) q = s) := Lib.hid (by rw [hfd.out, if_pos hqp])
   clear hfd hfin hqp h9
   go_wp2_with fail
   refine bodyPost_ret (v := .tuple #[itV false [] none 0 0, .bool false]) (by simp (maxDischargeDepth := 9) [results, Tryz.results35, go_sem, *] <;> rfl) rfl ⟨?_, .inr (.inl ⟨hpk.out, q, rfl, ?_⟩)⟩
   ·exact (grown_set (grown_of HB.out)).far3 (by rw [hr0.out]; simp)
   ·rw [hv.out]
    exact ((((Blk.set_ K2.out 2 _).to rfl).far (by simp; omega) _).far (by simp; omega) _).far (by simp; omega) _
  ·have hv : Hid (findN (.leaf p s) q = []) := Lib.hid (by rw [hfd.out, if_neg hqp])
   have hno : dq = true → rq ≠ [] := fun h1 h2 => hqp (hfin.out.1 ⟨of_decide_eq_true (by rw [hdq.out]; exact h1), h2⟩)
   cases dq with
   | false =>
    clear hfd hfin hqp hno
    go_wp2_with fail
    refine bodyPost_ret (v := .tuple #[itV false [] none 0 0, .bool false]) (by simp (maxDischargeDepth := 9) [results, Tryz.results35, go_sem, *] <;> rfl) rfl ⟨?_, .inr (.inl ⟨hpk.out, q, rfl, ?_⟩)⟩
    ·exact (grown_of HB.out).far3 (by rw [hr0.out]; simp)
    ·rw [hv.out]
     exact ((K2.out.far (by simp; omega) _).far (by simp; omega) _).far (by simp; omega) _
   | true =>
    have hne := hno rfl
    cases rq with
    | nil => exact absurd rfl hne
    | cons a0 r0 =>
     generalize hrr0 : a0 :: r0 = rr at *
     have hre : rr.isEmpty = false := by rw [← hrr0]; rfl
     have hrn : ¬ rr = [] := by rw [← hrr0]; simp
     clear hfd hfin hqp hno hne hrr0
     go_wp2_with fail
     refine bodyPost_ret (v := .tuple #[itV false [] none 0 0, .bool false]) (by simp (maxDischargeDepth := 9) [results, Tryz.results35, go_sem, *] <;> rfl) rfl ⟨?_, .inr (.inl ⟨hpk.out, q, rfl, ?_⟩)⟩
     ·exact (grown_of HB.out).far3 (by rw [hr0.out]; simp)
     ·rw [hv.out]
      exact ((K2.out.far (by simp; omega) _).far (by simp; omega) _).far (by simp; omega) _
end Go.Proofs.YthhlbdgladhdkaaGreatDoor
end
section
namespace Go.Proofs.YthhlbdgladhdkaaGreatDoor
open BigFrame Go.RowKit Go.Phx Go.Shelf
attribute [local go_sem] Oper.semAt_some

set_option maxRecDepth 100000 in
set_option maxHeartbeats 16000000 in
theorem step_ext (S : Nat → Prop) (p : Bytes) (nd : Nd) (hg : GoodN (.ext p nd)) (b : Nat) (q : Bytes) (A : Option Addr) (n c : Nat) (v : Iv) (w : World) (KW : Blk w b 93 #[.string (bs q), .slice A n c, .string ⟨#[]⟩]) (R : RepS S w (itemN kecc (.ext p nd)) v) :
  Calls Tryz.prog 35 #[.pointer (some ⟨b, 0, none⟩), v.val] w (StepP S w (.ext p nd) b q A n c) := by
 have R0 := rep_away R KW
 rw [GoodN] at hg
 rw [itemN] at R0
 obtain ⟨h1, h2, h3, h4, h5, vs, h6, h7, h8⟩ := R0.row
 obtain ⟨f, t, A9, m9, c9⟩ := v
 simp only at h1 h2 h3 h4 h5 h7
 subst h1 h3
 match vs, h6 with
 | [u1, u2], _ =>
  have h7' : Cs w A9 (IvL [u1, u2]) := h7.keep (Nat.le_refl _) fun _ _ _ => ⟨trivial, rfl⟩
  obtain ⟨b1, o1, rfl⟩ := addr_of h7' (by simp)
  have e1 := (h8 0 _ u1 rfl rfl).txt
  have R2 := h8 1 _ u2 rfl rfl
  subst e1
  obtain ⟨hb1, c0, c1, c2, c3, c4, c5⟩ := two_cells h7'
  simp only at c0 c1 c2 c3 c4 c5
  obtain ⟨uf, ut, uA, un, uc⟩ := u2
  simp only at c3 c4 c5
  have n1 := fun W => read_calls p false hg.1 (by have := hg.2.2.1; omega) W
  have n2 := fun W => cutp_calls q p W
  have hyes : q.take p.length = p → restP q p = q.drop p.length ∧ pickN (kidsN (.ext p nd)) q = some (p, nd) := fun h => ⟨if_pos h, pick_yes (x := (p, nd)) h⟩
  have hnot : ¬ q.take p.length = p → pickN (kidsN (.ext p nd)) q = none ∧ findN (.ext p nd) q = [] := fun h => ⟨pick_no (x := (p, nd)) (l := []) h, by rw [findN, if_neg h]⟩
  generalize formP p false = fp at *
  obtain ⟨dq, hdq⟩ : ∃ dq, decide (q.take p.length = p) = dq := ⟨_, rfl⟩
  rw [hdq] at n2
  generalize hrq : restP q p = rq at *
  replace n1 := Lib.hid n1
  replace n2 := Lib.hid n2
  replace hyes := Lib.hid hyes
  replace hnot := Lib.hid hnot
  replace hdq := Lib.hid hdq
  replace hrq := Lib.hid hrq
  replace R2 := Lib.hid R2
  clear R R0 h7 h7' h8 h2 h4 h5 hg
  obtain ⟨r, hr0⟩ : ∃ r, w.heap.size = r := ⟨_, rfl⟩
  have K0a := (Blk.new0 w 52 #[.bool true, .string (bs t), .slice (some ⟨b1, o1, none⟩) 2 c9]).alloc (.cells #[.bool false, .string ⟨#[]⟩, .slice none 0 0] 52)
  have K1a := Blk.new1 w (.cells #[.bool true, .string (bs t), .slice (some ⟨b1, o1, none⟩) 2 c9] 52) 52 #[.bool false, .string ⟨#[]⟩, .slice none 0 0]
  have KWa := (KW.alloc (.cells #[.bool true, .string (bs t), .slice (some ⟨b1, o1, none⟩) 2 c9] 52)).alloc (.cells #[.bool false, .string ⟨#[]⟩, .slice none 0 0] 52)
  have HBa : Below w.heap.size w ((w.alloc (.cells #[.bool true, .string (bs t), .slice (some ⟨b1, o1, none⟩) 2 c9] 52)).alloc (.cells #[.bool false, .string ⟨#[]⟩, .slice none 0 0] 52)) := bel
  have hbr : b < r := by rw [← hr0]; exact KW.lt
  have hb1b : b1 ≠ b := fun e => by
   subst e
   rw [KW.cell] at c0
   match o1, c0 with
   | 0, c0 => simp at c0
   | 1, c0 => simp at c0
   | 2, c0 => simp at c0
   | o + 3, c0 => simp at c0
  rw [hr0] at K0a K1a
  replace hr0 := Lib.hid hr0
  go_enter Tryz.func35, Tryz.ntmps35
  go_upto_region 8 with fail
  rw [hr0.out]
  obtain ⟨W, hW⟩ : ∃ W, (w.alloc (.cells #[.bool true, .string (bs t), .slice (some ⟨b1, o1, none⟩) 2 c9] 52)).alloc (.cells #[.bool false, .string ⟨#[]⟩, .slice none 0 0] 52) = W := ⟨_, rfl⟩
  rw [hW] at K0a K1a KWa HBa ⊢
  clear hW
  have d1 := (HBa.cell (p := ⟨b1, o1 + 1, none⟩) hb1).trans c1
  have d3 := (HBa.cell (p := ⟨b1, o1 + 3, none⟩) hb1).trans c3
  have d4 := (HBa.cell (p := ⟨b1, o1 + 4, none⟩) hb1).trans c4
  have d5 := (HBa.cell (p := ⟨b1, o1 + 5, none⟩) hb1).trans c5
  have hb1W : b1 < W.heap.size := Nat.lt_of_lt_of_le hb1 HBa.size
  have K0 := Lib.hid K0a
  clear c0 c1 c2 c3 c4 c5 K0a
  (obtain ⟨k0, f0, l0, m0⟩ := K0.out.rl)
  go_wp2_with fail
  refine (n1.out _).mono ?_
  rintro e w1 ⟨rfl, hB1⟩
  have P0 := Lib.hid (K0.out.below hB1)
  have P1 := Lib.hid (K1a.below hB1)
  have P2 := Lib.hid (KWa.below hB1)
  have HB := Lib.hid (HBa.trans (hB1.mono HBa.size))
  have g3 := (hB1.cell (p := ⟨b1, o1 + 3, none⟩) hb1W).trans d3
  have g4 := (hB1.cell (p := ⟨b1, o1 + 4, none⟩) hb1W).trans d4
  have g5 := (hB1.cell (p := ⟨b1, o1 + 5, none⟩) hb1W).trans d5
  have hb1w : b1 < w1.heap.size := Nat.lt_of_lt_of_le hb1W hB1.size
  clear k0 f0 l0 m0 K0 K1a KWa HBa hB1 d1 d3 d4 d5 n1 KW
  have K0 := P0
  have K1 := P1
  have K2 := P2
  clear P0 P1 P2
  (obtain ⟨k0, f0, l0, m0⟩ := K0.out.rl; obtain ⟨k1, f1, l1, m1⟩ := K1.out.rl; obtain ⟨k2, f2, l2, m2⟩ := K2.out.rl)
  go_wp2_with fail
  refine (n2.out _).mono ?_
  rintro e w2 ⟨rfl, rfl⟩
  have hG : Hid (w.grownBy (w2.setCell ⟨b, 0, none⟩ (.string (bs rq))) (some b)) := Lib.hid (grown_set (grown_of HB.out))
  go_wp2_with fail
  have hG9 : w.grownBy ((((w2.setCell ⟨b, 0, none⟩ (.string (bs rq))).setCell ⟨r + 1, 0, none⟩ (.bool uf)).setCell ⟨r + 1, 1, none⟩ (.string (bs ut))).setCell ⟨r + 1, 2, none⟩ (.slice uA un uc)) (some b) := hG.out.far3 (by rw [hr0.out]; simp)
  have hK9 : Blk ((((w2.setCell ⟨b, 0, none⟩ (.string (bs rq))).setCell ⟨r + 1, 0, none⟩ (.bool uf)).setCell ⟨r + 1, 1, none⟩ (.string (bs ut))).setCell ⟨r + 1, 2, none⟩ (.slice uA un uc)) b 93 #[.string (bs rq), .slice A n c, .string ⟨#[]⟩] := ((((Blk.set_ K2.out 0 _).to rfl).far (by simp; omega) _).far (by simp; omega) _).far (by simp; omega) _
  refine bodyPost_ret (v := .tuple #[itV uf ut uA un uc, .bool dq]) (by simp (maxDischargeDepth := 9) [results, Tryz.results35, go_sem, *]) rfl ⟨hG9, ?_⟩
  by_cases hm : q.take p.length = p
  ·obtain ⟨y1, y2⟩ := hyes.out hm
   obtain rfl : dq = true := by rw [← hdq.out]; exact decide_eq_true hm
   refine .inl ⟨(p, nd), ⟨uf, ut, uA, un, uc⟩, y2, rfl, ?_, ?_⟩
   ·exact R2.out.keep hG9.size fun b' hb' hl' => ⟨hb'.1, hG9.block b' hl' (by intro e; injection e with e; exact hb'.2 e)⟩
   ·rw [← y1]
    exact hK9
  ·obtain ⟨y1, y2⟩ := hnot.out hm
   obtain rfl : dq = false := by rw [← hdq.out]; exact decide_eq_false hm
   exact .inr (.inr ⟨y1, y2, ⟨uf, ut, uA, un, uc⟩, rq, rfl, hK9⟩)
end Go.Proofs.YthhlbdgladhdkaaGreatDoor
end
