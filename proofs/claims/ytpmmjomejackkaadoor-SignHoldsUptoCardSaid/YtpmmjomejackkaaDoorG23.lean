/- What the later texts stand on (SgnQ, SgnH, SgnI, SgnJ, SgnK): plain laws and walks, each by its own conditions. -/
import Derived.Test.YtpmmjomejackkaaDoorG14
import Derived.Test.YtpmmjomejackkaaDoorG21
import Derived.Test.YtpmmjomejackkaaDoorG22
import Derived.Test.YtpmmjomejackkaaDoorG26
set_option linter.unusedSimpArgs false
set_option linter.unusedVariables false
section
set_option linter.unusedSimpArgs false
set_option linter.unusedVariables false
namespace Go.Proofs.YtpmmjomejackkaaDoor
open BigFrame Go.RowKit Go.Phx Go.Shelf
attribute [local go_sem] Oper.semAt_some

/-- the first texts of a row, as lists -/
theorem lsts_take {w : World} {A : Option Addr} {xs : List ByteArray} (hs : Strs w A xs) (n : Nat) : Lsts w A ((xs.take n).map (fun x => x.data.toList)) := by
  rw [Lsts, List.map_map, show (bs ∘ fun x : ByteArray => x.data.toList) = id from funext fun x => rfl, List.map_id]
  intro h0
  obtain ⟨b, o, ha, hb, hcell⟩ := hs (by simp at h0; omega)
  refine ⟨b, o, ha, hb, fun i x hx => hcell i x ?_⟩
  have hi := (List.getElem?_eq_some_iff.1 hx).1
  rw [List.getElem?_take_of_lt (by simp at hi; omega)] at hx
  exact hx
theorem sumV_is (r : Option E) : ∃ (b : List UInt8) (er : Int), sumV r = .tuple #[.string (bs b), .int .i64 er] := by
  cases r with
  | none => exact ⟨[], 100, rfl⟩
  | some p => exact ⟨_, _, rfl⟩
theorem sameF_eq (x y : F2) : sameF x y = true ↔ x = y := by
  unfold sameF
  rw [Bool.and_eq_true, beq_iff_eq, beq_iff_eq]
  exact ⟨fun h => Prod.ext (vz_inj h.1) (vz_inj h.2), fun h => by rw [h]; exact ⟨rfl, rfl⟩⟩
theorem pf_of {p : E} (h : p ≠ none) : pf p = false := by
  cases p with
  | none => exact absurd rfl h
  | some _ => rfl
set_option maxRecDepth 100000 in
theorem five_c : timesC 5 genC ≠ none := by decide +kernel
theorem five_some : timesE 5 genE ≠ none := by
  rw [← timesC_eq, ← genC_eq]
  exact five_c
theorem keyV_is (n : Int) (p : E) (h : IsSecret n) : keyV n p = .tuple #[.string (bs (bytesE (timesE n p))), .int .i64 0] := by
  unfold keyV keyB keyE
  rw [if_pos h, if_pos h]
theorem verB_is {p s : E} (hp : inG p = true) (hs : inG s = true) (h0 : pf p = false) (t : List UInt8) : verB (bytesE p) t (bytesE s) = sameF (pairE s genE) (pairE (hashE t) p) := by
  unfold verB
  rw [back_point hp]
  dsimp only
  unfold holdsB
  rw [back_point hs]
  dsimp only
  rw [h0]
  rfl
theorem key5_in : inG (timesE 5 genE) = true := times_in gen_in 5 (by decide) (by decide)
theorem sig5_in : inG (timesE 5 (hashE [97])) = true := times_in (hash_in _) 5 (by decide) (by decide)
theorem sig6_in : inG (timesE 6 (hashE [97])) = true := times_in (hash_in _) 6 (by decide) (by decide)
theorem shown_v1 : verB (bytesE (timesE 5 genE)) [97] (bytesE (timesE 5 (hashE [97]))) = true := by
  rw [verB_is key5_in sig5_in (pf_of five_some)]
  exact (sameF_eq _ _).2 sign_same
theorem shown_v2 : verB (bytesE (timesE 5 genE)) [97] (bytesE (timesE 6 (hashE [97]))) = false := by
  rw [verB_is key5_in sig6_in (pf_of five_some)]
  exact Bool.eq_false_iff.2 fun h => sign_other ((sameF_eq _ _).1 h)
theorem shown_v3 : verB (bytesE (timesE 5 genE)) [98] (bytesE (timesE 5 (hashE [97]))) = false := by
  rw [verB_is key5_in sig5_in (pf_of five_some)]
  exact Bool.eq_false_iff.2 fun h => sign_text ((sameF_eq _ _).1 h)
theorem secret5 : IsSecret 5 := ⟨by decide, by decide⟩
theorem secret6 : IsSecret 6 := ⟨by decide, by decide⟩
set_option maxRecDepth 100000 in
set_option maxHeartbeats 8000000 in
theorem shown12_calls (w : World) (hk : HasK w) : Calls Tryd.prog 47 #[] w (Ret w (.bool true)) := by
  have c1 := fun W => key_calls 5 (by decide) (by decide) W
  have c2 := fun W (hB : Below w.heap.size w W) => sign_calls 5 (by decide) (by decide) [97] (by decide) W (hk.on hB)
  have c3 := fun W (hB : Below w.heap.size w W) => sign_calls 6 (by decide) (by decide) [97] (by decide) W (hk.on hB)
  have v1 := fun W (hB : Below w.heap.size w W) => verify_calls (bytesE (timesE 5 genE)) [97] (bytesE (timesE 5 (hashE [97]))) (by decide) W (hk.on hB)
  have v2 := fun W (hB : Below w.heap.size w W) => verify_calls (bytesE (timesE 5 genE)) [97] (bytesE (timesE 6 (hashE [97]))) (by decide) W (hk.on hB)
  have v3 := fun W (hB : Below w.heap.size w W) => verify_calls (bytesE (timesE 5 genE)) [98] (bytesE (timesE 5 (hashE [97]))) (by decide) W (hk.on hB)
  rw [shown_v1] at v1
  rw [shown_v2] at v2
  rw [shown_v3] at v3
  rw [keyV_is 5 _ secret5] at c1 c2
  rw [keyV_is 6 _ secret6] at c3
  rw [show bs [97] = { data := #[97] } from rfl] at c2 c3 v1 v2
  rw [show bs [98] = { data := #[98] } from rfl] at v3
  generalize bytesE (timesE 5 genE) = K at *
  generalize bytesE (timesE 5 (hashE [97])) = S at *
  generalize bytesE (timesE 6 (hashE [97])) = T at *
  replace c1 := Lib.hid c1
  replace c2 := Lib.hid c2
  replace c3 := Lib.hid c3
  replace v1 := Lib.hid v1
  replace v2 := Lib.hid v2
  replace v3 := Lib.hid v3
  clear hk
  go_enter Tryd.func47, Tryd.ntmps47
  go_wp2_with fail
  refine (c1.out _).mono ?_
  rintro e w1 ⟨rfl, h1⟩
  have hB1 : Below w.heap.size w w1 := Below.on h1 (by repeat (first | assumption | exact Below.refl _ _ | refine Below.setCell ?_ (by first | exact Nat.le_refl _ | (simp; done) | omega | (simp; omega)) _ | refine Below.alloc ?_ (by first | exact Nat.le_refl _ | (simp; done) | omega | (simp; omega)) _ | refine below_drewN ?_ _ | refine Below.drew ?_ | refine Below.on (by assumption) ?_ | refine Below.via (by assumption) (by first | exact Nat.le_refl _ | (simp; done) | omega | (simp; omega)) ?_))
  clear h1
  go_wp2_with fail
  refine (c2.out _ hB1).mono ?_
  rintro e w2 ⟨rfl, h2⟩
  have hB2 : Below w.heap.size w w2 := Below.on h2 hB1
  clear h2 hB1
  go_wp2_with fail
  refine (c3.out _ hB2).mono ?_
  rintro e w3 ⟨rfl, h3⟩
  have hB3 : Below w.heap.size w w3 := Below.on h3 hB2
  clear h3 hB2
  go_wp2_with fail
  refine (v1.out _ hB3).mono ?_
  rintro e w4 ⟨rfl, h4⟩
  have hB4 : Below w.heap.size w w4 := Below.on h4 hB3
  clear h4 hB3
  go_wp2_with fail
  refine (v2.out _ hB4).mono ?_
  rintro e w5 ⟨rfl, h5⟩
  have hB5 : Below w.heap.size w w5 := Below.on h5 hB4
  clear h5 hB4
  go_wp2_with fail
  refine (v3.out _ hB5).mono ?_
  rintro e w6 ⟨rfl, h6⟩
  have hB6 : Below w.heap.size w w6 := Below.on h6 hB5
  clear h6 hB5
  go_wp2_with fail
  go_ret
  exact ⟨rfl, hB6⟩
end Go.Proofs.YtpmmjomejackkaaDoor
end
section
set_option linter.unusedSimpArgs false
set_option linter.unusedVariables false
namespace Go.Proofs.YtpmmjomejackkaaDoor
open BigFrame Go.RowKit Go.Phx Go.Shelf
attribute [local go_sem] Oper.semAt_some

theorem bs_inj' {a b : List UInt8} (h : bs a = bs b) : a = b := by
  have := congrArg (fun x : ByteArray => x.data.toList) h
  simpa [bs] using this
theorem contains_txts (L : List (List UInt8)) (x : List UInt8) : Lib.containsS (L.map bs) (bs x) = decide (x ∈ L) := by
  rw [Bool.eq_iff_iff, Lib.containsS_iff, decide_eq_true_iff, List.mem_map]
  constructor
  · rintro ⟨y, hy, h⟩
    rwa [← bs_inj' h]
  · exact fun h => ⟨x, h, rfl⟩
theorem contains_calls (A : Option Addr) (c : Nat) (L : List (List UInt8)) (hL : L.length ≤ 1048576) (x : List UInt8) (w : World) (hs : Lsts w A L) :
    Calls Tryd.prog 95 #[.slice A L.length c, .string (bs x)] w fun e w' => e = .returned (.bool (decide (x ∈ L))) ∧ w' = w := by
  by_cases h0 : L.length = 0
  · obtain rfl := List.length_eq_zero_iff.1 h0
    have := Tryd.slices_Contains_string_empty A c (bs x) w
    simpa using this
  · obtain ⟨b, o, rfl, hb, _⟩ := hs.at 0 (by omega)
    have := Tryd.slices_Contains_string b o L.length c (L.map bs) (bs x) w (by simp) (by omega) (fun j hj => by
      have hj2 : j < L.length := by simpa using hj
      obtain ⟨b2, o2, he, _, hc⟩ := hs.at j hj2
      injection he with he
      injection he with he1 he2
      subst he1 he2
      rw [hc]
      congr 2
      rw [List.getD, List.getD, List.getElem?_map, List.getElem?_eq_getElem hj2]
      rfl)
    rw [List.take_of_length_le (by simp), contains_txts] at this
    exact this
/-- does a signature hold of these keys' bytes? -/
noncomputable def allB (L : List (List UInt8)) (t sg : List UInt8) : Bool := match sumE L with
  | none => false
  | some k => if L.length = 0 then false else if [0, 0, 0, 0, 0] ∈ L then false else holdsB k t sg
set_option maxRecDepth 100000 in
set_option maxHeartbeats 4000000 in
theorem all_calls (A : Option Addr) (c : Nat) (L : List (List UInt8)) (hL : L.length ≤ 1048576) (t sg : List UInt8) (ht : t.length ≤ 1048576) (w : World) (hk : HasK w) (hs : Lsts w A L) :
    Calls Tryd.prog 58 #[.slice A L.length c, .string (bs t), .string (bs sg)] w (Ret w (.bool (allB L t sg))) := by
  have n1 := ssum_calls A c L hL w hs
  have n2 := fun W (hB : Below w.heap.size w W) => contains_calls A c L hL [0, 0, 0, 0, 0] W (hs.below hB)
  rw [show (bs [0, 0, 0, 0, 0]) = { data := #[0, 0, 0, 0, 0] } from rfl] at n2
  obtain ⟨z, hz⟩ : ∃ z, decide ([0, 0, 0, 0, 0] ∈ L) = z := ⟨_, rfl⟩
  rw [hz] at n2
  unfold allB
  cases hf : sumE L with
  | none =>
    rw [hf, outV_none] at n1
    by_cases h0 : L.length = 0
    · obtain rfl := List.length_eq_zero_iff.1 h0
      cases hf
    have g1 : (0 : Int) < (L.length : Int) := by omega
    have g2 : 0 < L.length := by omega
    replace n1 := Lib.hid n1
    replace n2 := Lib.hid n2
    replace hf := Lib.hid hf
    replace hz := Lib.hid hz
    clear hs hk h0
    go_enter Tryd.func58, Tryd.ntmps58
    go_wp2_with fail
    refine n1.out.mono ?_
    rintro e w1 ⟨rfl, h1⟩
    have hB : Below w.heap.size w w1 := Below.on h1 (by repeat (first | assumption | exact Below.refl _ _ | refine Below.setCell ?_ (by first | exact Nat.le_refl _ | (simp; done) | omega | (simp; omega)) _ | refine Below.alloc ?_ (by first | exact Nat.le_refl _ | (simp; done) | omega | (simp; omega)) _ | refine below_drewN ?_ _ | refine Below.drew ?_ | refine Below.on (by assumption) ?_ | refine Below.via (by assumption) (by first | exact Nat.le_refl _ | (simp; done) | omega | (simp; omega)) ?_))
    go_wp2_with fail
    refine (n2.out _ (hB.alloc hB.size _)).mono ?_
    rintro e w2 ⟨rfl, rfl⟩
    go_wp2_with fail
    go_ret
    exact ⟨rfl, hB.alloc hB.size _⟩
  | some p =>
    have hp := sumE_in hf
    rw [hf, outV_some] at n1
    have n3 := fun W (hB : Below w.heap.size w W) => holds_calls p hp t sg ht W (hk.on hB)
    replace n1 := Lib.hid n1
    replace n2 := Lib.hid n2
    replace n3 := Lib.hid n3
    replace hf := Lib.hid hf
    clear hp hk hs
    by_cases h0 : L.length = 0
    · have g1 : ¬ (0 : Int) < (L.length : Int) := by omega
      have g2 : ¬ 0 < L.length := by omega
      dsimp only
      rw [if_pos h0]
      replace hz := Lib.hid hz
      replace h0 := Lib.hid h0
      go_enter Tryd.func58, Tryd.ntmps58
      go_wp2_with fail
      refine n1.out.mono ?_
      rintro e w1 ⟨rfl, h2⟩
      have hB : Below w.heap.size w w1 := Below.on h2 (by repeat (first | assumption | exact Below.refl _ _ | refine Below.setCell ?_ (by first | exact Nat.le_refl _ | (simp; done) | omega | (simp; omega)) _ | refine Below.alloc ?_ (by first | exact Nat.le_refl _ | (simp; done) | omega | (simp; omega)) _ | refine below_drewN ?_ _ | refine Below.drew ?_ | refine Below.on (by assumption) ?_ | refine Below.via (by assumption) (by first | exact Nat.le_refl _ | (simp; done) | omega | (simp; omega)) ?_))
      go_wp2_with fail
      refine (n2.out _ (hB.alloc hB.size _)).mono ?_
      rintro e w2 ⟨rfl, rfl⟩
      go_wp2_with fail
      go_ret
      exact ⟨rfl, hB.alloc hB.size _⟩
    · have g1 : (0 : Int) < (L.length : Int) := by omega
      have g2 : 0 < L.length := by omega
      dsimp only
      rw [if_neg h0]
      cases z with
      | true =>
        rw [if_pos (of_decide_eq_true hz)]
        replace hz := Lib.hid hz
        replace h0 := Lib.hid h0
        go_enter Tryd.func58, Tryd.ntmps58
        go_wp2_with fail
        refine n1.out.mono ?_
        rintro e w1 ⟨rfl, h2⟩
        have hB : Below w.heap.size w w1 := Below.on h2 (by repeat (first | assumption | exact Below.refl _ _ | refine Below.setCell ?_ (by first | exact Nat.le_refl _ | (simp; done) | omega | (simp; omega)) _ | refine Below.alloc ?_ (by first | exact Nat.le_refl _ | (simp; done) | omega | (simp; omega)) _ | refine below_drewN ?_ _ | refine Below.drew ?_ | refine Below.on (by assumption) ?_ | refine Below.via (by assumption) (by first | exact Nat.le_refl _ | (simp; done) | omega | (simp; omega)) ?_))
        go_wp2_with fail
        refine (n2.out _ (hB.alloc hB.size _)).mono ?_
        rintro e w2 ⟨rfl, rfl⟩
        go_wp2_with fail
        go_ret
        exact ⟨rfl, hB.alloc hB.size _⟩
      | false =>
        rw [if_neg (of_decide_eq_false hz)]
        replace hz := Lib.hid hz
        replace h0 := Lib.hid h0
        go_enter Tryd.func58, Tryd.ntmps58
        go_wp2_with fail
        refine n1.out.mono ?_
        rintro e w1 ⟨rfl, h2⟩
        have hB : Below w.heap.size w w1 := Below.on h2 (by repeat (first | assumption | exact Below.refl _ _ | refine Below.setCell ?_ (by first | exact Nat.le_refl _ | (simp; done) | omega | (simp; omega)) _ | refine Below.alloc ?_ (by first | exact Nat.le_refl _ | (simp; done) | omega | (simp; omega)) _ | refine below_drewN ?_ _ | refine Below.drew ?_ | refine Below.on (by assumption) ?_ | refine Below.via (by assumption) (by first | exact Nat.le_refl _ | (simp; done) | omega | (simp; omega)) ?_))
        clear h2
        go_wp2_with fail
        have hB2 := hB.alloc hB.size (.cells #[.int .u64 (px p), .int .u64 (py p), .bool (pf p)] 52)
        refine (n2.out _ hB2).mono ?_
        rintro e w2 ⟨rfl, rfl⟩
        go_wp2_with fail
        refine (n3.out _ hB2).mono ?_
        rintro e w3 ⟨rfl, h3⟩
        go_wp2_with fail
        go_ret
        exact ⟨rfl, Below.on h3 hB2⟩
end Go.Proofs.YtpmmjomejackkaaDoor
end
section
set_option linter.unusedSimpArgs false
set_option linter.unusedVariables false
namespace Go.Proofs.YtpmmjomejackkaaDoor
open BigFrame Go.RowKit Go.Phx Go.Shelf
attribute [local go_sem] Oper.semAt_some

set_option maxRecDepth 100000 in
set_option maxHeartbeats 8000000 in
theorem rhash_calls (t : List UInt8) (ht : t.length ≤ 1048576) (w : World) :
    Calls Tryd.prog 49 #[.string (bs t)] w (Ret w (.agg #[.int .u64 (px (hashE t)), .int .u64 (py (hashE t)), .bool (pf (hashE t))])) := by
  go_enter Tryd.func49, Tryd.ntmps49
  go_wp2_with fail
  obtain ⟨W0, hW0⟩ : ∃ W0, w.alloc (.cells #[.int .u64 0, .int .u64 0, .bool false] 52) = W0 := ⟨_, rfl⟩
  have KR : Blk W0 w.heap.size 52 #[.int .u64 0, .int .u64 0, .bool false] := by rw [← hW0]; exact Blk.new0 _ _ _
  have hB0 : Below w.heap.size w W0 := by rw [← hW0]; exact (by repeat (first | assumption | exact Below.refl _ _ | refine Below.setCell ?_ (by first | exact Nat.le_refl _ | (simp; done) | omega | (simp; omega)) _ | refine Below.alloc ?_ (by first | exact Nat.le_refl _ | (simp; done) | omega | (simp; omega)) _ | refine below_drewN ?_ _ | refine Below.drew ?_ | refine Below.on (by assumption) ?_ | refine Below.via (by assumption) (by first | exact Nat.le_refl _ | (simp; done) | omega | (simp; omega)) ?_))
  obtain ⟨rb, hrb⟩ : ∃ rb, w.heap.size = rb := ⟨_, rfl⟩
  rw [hrb] at KR
  replace KR := Lib.hid KR
  rw [hW0]
  simp only [hrb]
  go_loopw [3] (fun n wr => ∃ k : Nat, k ≤ 256 ∧ n = .int .i64 k ∧ Blk wr rb 52 #[.int .u64 0, .int .u64 0, .bool false] ∧ (∀ q ∈ triesN t k, timesE 4 (some q) = none) ∧ Below w.heap.size w wr) (fun n _ => (256 - intOf n).toNat)
  case atStart => exact ⟨0, by omega, rfl, KR.out, fun q hq => by simp [triesN] at hq, hB0⟩
  case round =>
    clear KR hB0 hW0
    obtain ⟨k, hk, rfl, KX, hno4, HB⟩ := hrel
    have K0 := Lib.hid KX
    by_cases hlt : k < 256
    · have hbyte : (k : Int) % 256 = ((UInt8.ofNat k).toNat : Int) := by simp
      have hSl := sha_len (t ++ [UInt8.ofNat k])
      obtain ⟨s, hs⟩ : ∃ s, sha (t ++ [UInt8.ofNat k]) = s := ⟨_, rfl⟩
      have hdk : decide ((k : Int) < 256) = true := decide_eq_true (by omega)
      rw [hs] at hSl
      have a1 := fun w => idx_bs s 0 (by omega) w
      have a2 := fun w => idx_bs s 1 (by omega) w
      have a3 := fun w => idx_bs s 2 (by omega) w
      have a4 := fun w => idx_bs s 3 (by omega) w
      simp only [show ((0 : Nat) : Int) = 0 from rfl, show ((1 : Nat) : Int) = 1 from rfl, show ((2 : Nat) : Int) = 2 from rfl, show ((3 : Nat) : Int) = 3 from rfl] at a1 a2 a3 a4
      have hI : tryI t k = word4 (s.getD 0 0).toNat (s.getD 1 0).toNat (s.getD 2 0).toNat (s.getD 3 0).toNat % 2147482867 := by unfold tryI; rw [hs]; rfl
      have b1 := (s.getD 0 0).toNat_lt
      have b2 := (s.getD 1 0).toNat_lt
      have b3 := (s.getD 2 0).toNat_lt
      have b4 := (s.getD 3 0).toNat_lt
      generalize s.getD 0 0 = c1 at *
      generalize s.getD 1 0 = c2 at *
      generalize s.getD 2 0 = c3 at *
      generalize s.getD 3 0 = c4 at *
      have hX := word4_ref c1.toNat c2.toNat c3.toNat c4.toNat (by omega) (by omega) (by omega) (by omega)
      have hXb := word4_bd c1.toNat c2.toNat c3.toNat c4.toNat (by omega) (by omega) (by omega) (by omega)
      generalize hXw : word4 c1.toNat c2.toNat c3.toNat c4.toNat = X at *
      replace hXw := Lib.hid hXw
      replace hs := Lib.hid hs
      replace hI := Lib.hid hI
      replace hX := Lib.hid hX
      replace hno4 := Lib.hid hno4
      (have k0 := Blk.cell K0.out; have f0 := Blk.free K0.out; have l0 := Blk.lt K0.out; have m0 := Nat.le_of_lt l0)
      have hSum := rsum_calls (t ++ [UInt8.ofNat k]) (by simp; omega)
      rw [hs.out] at hSum
      replace hSum := Lib.hid hSum
      go_wp2_with fail
      refine (hSum.out _).mono ?_
      rintro e w1 ⟨rfl, h1⟩
      have hB1 : Below wr.heap.size wr w1 := Below.on h1 (by repeat (first | assumption | exact Below.refl _ _ | refine Below.setCell ?_ (by first | exact Nat.le_refl _ | (simp; done) | omega | (simp; omega)) _ | refine Below.alloc ?_ (by first | exact Nat.le_refl _ | (simp; done) | omega | (simp; omega)) _ | refine below_drewN ?_ _ | refine Below.drew ?_ | refine Below.on (by assumption) ?_ | refine Below.via (by assumption) (by first | exact Nat.le_refl _ | (simp; done) | omega | (simp; omega)) ?_))
      clear hSum h1
      go_wp2_with fail
      (refine wp_region_later (by kernel_rfl) (by kernel_rfl) ?_; (repeat (go_big_quiet_step (fail))); refine wpQuiet_nil ?_; intro w' hB)
      rw [hX.out]
      obtain ⟨hz0, hz1⟩ := tryI_bd t k
      have hIm := hI.out.symm
      have hS : zf (tryI t k) * (zf (tryI t k) * zf (tryI t k)) + zf (tryI t k) = tryS t k := rfl
      have hyes := fun (q : F × F) (h : tryQ t k = some q) => tryQ_some h
      have hno := fun (h : tryQ t k = none) => tryQ_none h
      have hsucc := triesN_succ t k
      have hon := fun (q : F × F) (h : tryQ t k = some q) => tryQ_on h
      have hhit := fun (q : F × F) (h : tryQ t k = some q) => hash_hit hlt h hno4.out
      generalize tryI t k = z at *
      obtain ⟨hX0, hX1⟩ := hXb
      clear hI hX a1 a2 a3 a4 b1 b2 b3 b4 hXw
      replace hS := Lib.hid hS
      replace hsucc := Lib.hid hsucc
      have hT : X.tmod 2147482867 = z := (Int.tmod_eq_emod_of_nonneg hX0).trans hIm
      go_wp2_with fail
      simp only [hT, hIm]
      clear hT hIm
      have hB3 := Below.on hB hB1
      have K2 := Lib.hid (K0.out.below hB3)
      have HB3 := Below.on hB3 HB
      clear hB hB1 hB3 K0 k0 f0 l0 m0 HB KX
      refine (rmul_calls z z hz0 hz0 _).mono ?_
      rintro e w4 ⟨rfl, rfl⟩
      go_wp2_with fail
      refine (rmul_calls z _ hz0 (vz_nonneg _) _).mono ?_
      rintro e w4 ⟨rfl, rfl⟩
      simp only [zf_vz]
      go_wp2_with fail
      refine (radd_calls _ z (vz_nonneg _) hz0 _).mono ?_
      rintro e w4 ⟨rfl, rfl⟩
      simp only [zf_vz]
      go_wp2_with fail
      refine (rroot_calls _ (vz_nonneg _) _).mono ?_
      rintro e w4 ⟨rfl, rfl⟩
      simp only [zf_vz]
      rw [hS.out]
      cases hq : tryQ t k with
      | none =>
        have hr := hno hq
        rw [hq] at hsucc
        generalize (rootS (tryS t k)).1 = y at *
        rw [hr]
        replace hr := Lib.hid hr
        replace hq := Lib.hid hq
        clear hyes hno hhit hon
        (have k2 := Blk.cell K2.out; have f2 := Blk.free K2.out; have l2 := Blk.lt K2.out; have m2 := Nat.le_of_lt l2)
        go_wp2_with fail
        go_roundw
        case rel => exact ⟨k + 1, by omega, by go_num, K2.out, by rw [hsucc.out]; simpa using hno4.out, HB3⟩
        case measure => simp [intOf]; omega
      | some q =>
        obtain ⟨hr, hqe⟩ := hyes q hq
        have n4 := fun W => rmany_u (some q) 4 (by decide) (by decide) W
        have q1 : vz q.1 = z := by rw [hqe]; exact (vz_zf z).trans (Int.emod_eq_of_lt hz0 hz1)
        have q2 : (rootS (tryS t k)).1 = q.2 := by rw [hqe]
        have hh := hhit q hq
        rw [hq] at hsucc
        rw [q2, hr, ← q1]
        obtain ⟨T, hTq⟩ : ∃ T, timesE 4 (some q) = T := ⟨_, rfl⟩
        rw [hTq] at n4 hh
        replace n4 : ∀ W, Calls Tryd.prog 82 #[.int .u64 4, .agg #[.int .u64 (vz q.1), .int .u64 (vz q.2), .bool false]] W (Ret W (.agg #[.int .u64 (px T), .int .u64 (py T), .bool (pf T)])) := n4
        replace n4 := Lib.hid n4
        replace hr := Lib.hid hr
        replace hq := Lib.hid hq
        replace hqe := Lib.hid hqe
        replace hh := Lib.hid hh
        replace hTq := Lib.hid hTq
        replace q1 := Lib.hid q1
        replace q2 := Lib.hid q2
        clear hyes hno hhit hon
        (have k2 := Blk.cell K2.out; have f2 := Blk.free K2.out; have l2 := Blk.lt K2.out; have m2 := Nat.le_of_lt l2)
        go_wp2_with fail
        refine (n4.out _).mono ?_
        rintro e w5 ⟨rfl, h5⟩
        have HB5 := Below.on h5 HB3
        have K5 := Lib.hid (K2.out.below h5)
        clear h5 HB3 K2 k2 f2 l2 m2
        (have k5 := Blk.cell K5.out; have f5 := Blk.free K5.out; have l5 := Blk.lt K5.out; have m5 := Nat.le_of_lt l5)
        cases T with
        | none =>
          have hpf : pf none = true := rfl
          go_wp2_with fail
          go_roundw
          case rel =>
            refine ⟨k + 1, by omega, by go_num, (K5.out.alloc _), fun x hx => ?_, HB5.alloc HB5.size _⟩
            rw [hsucc.out] at hx
            rcases List.mem_append.1 hx with h | h
            · exact hno4.out x h
            · rw [show x = q by simpa using h]
              exact hTq.out
          case measure => simp [intOf]; omega
        | some u =>
          have hpf : pf (some u) = false := rfl
          have hE := hh.out (by simp)
          replace hE := Lib.hid hE
          go_wp2_with fail
          rw [hE.out]
          exact bodyPost_ret (v := .agg #[.int .u64 (px (some u)), .int .u64 (py (some u)), .bool (pf (some u))]) (by simp (maxDischargeDepth := 9) [results, Tryd.results49, go_sem, vp, v2, *]) rfl ⟨rfl, (by repeat (first | assumption | exact Below.refl _ _ | refine Below.setCell ?_ (by first | exact Nat.le_refl _ | (simp; done) | omega | (simp; omega)) _ | refine Below.alloc ?_ (by first | exact Nat.le_refl _ | (simp; done) | omega | (simp; omega)) _ | refine below_drewN ?_ _ | refine Below.drew ?_ | refine Below.on (by assumption) ?_ | refine Below.via (by assumption) (by first | exact Nat.le_refl _ | (simp; done) | omega | (simp; omega)) ?_))⟩
    · obtain rfl : k = 256 := by omega
      have hdk : decide ((256 : Int) < 256) = false := rfl
      have hg := hash_none hno4
      replace hg := Lib.hid hg
      (have k0 := Blk.cell K0.out; have f0 := Blk.free K0.out; have l0 := Blk.lt K0.out; have m0 := Nat.le_of_lt l0)
      clear hno4
      go_wp2_with fail
      refine (rgen_x _).mono ?_
      rintro e w1 ⟨rfl, h1⟩
      have HB1 := Below.on h1 HB
      have K1 := Lib.hid (K0.out.below h1)
      clear h1 K0 k0 f0 l0 m0
      (have k1 := Blk.cell K1.out; have f1 := Blk.free K1.out; have l1 := Blk.lt K1.out; have m1 := Nat.le_of_lt l1)
      go_wp2_with fail
      rw [hg.out]
      exact bodyPost_ret (v := .agg #[.int .u64 (px genE), .int .u64 (py genE), .bool (pf genE)]) (by simp (maxDischargeDepth := 9) [results, Tryd.results49, go_sem, vp, v2, *]) rfl ⟨rfl, (by repeat (first | assumption | exact Below.refl _ _ | refine Below.setCell ?_ (by first | exact Nat.le_refl _ | (simp; done) | omega | (simp; omega)) _ | refine Below.alloc ?_ (by first | exact Nat.le_refl _ | (simp; done) | omega | (simp; omega)) _ | refine below_drewN ?_ _ | refine Below.drew ?_ | refine Below.on (by assumption) ?_ | refine Below.via (by assumption) (by first | exact Nat.le_refl _ | (simp; done) | omega | (simp; omega)) ?_))⟩
end Go.Proofs.YtpmmjomejackkaaDoor
end
section
set_option linter.unusedSimpArgs false
set_option linter.unusedVariables false
namespace Go.Proofs.YtpmmjomejackkaaDoor
open BigFrame Go.RowKit Go.Phx Go.Shelf
attribute [local go_sem] Oper.semAt_some

/-- the sum, and whether there is one -/
noncomputable def rsumV (r : Option E) : Value := match r with
  | none => .tuple #[.agg #[.int .u64 0, .int .u64 0, .bool false], .bool false]
  | some p => .tuple #[.agg #[.int .u64 (px p), .int .u64 (py p), .bool (pf p)], .bool true]
set_option maxRecDepth 100000 in
set_option maxHeartbeats 8000000 in
theorem rsums_calls (A : Option Addr) (c : Nat) (L : List (List UInt8)) (hL : L.length ≤ 1048576) (w : World) (hs : Lsts w A L) :
    Calls Tryd.prog 94 #[.slice A L.length c] w (Ret w (rsumV (sumE L))) := by
  go_enter Tryd.func94, Tryd.ntmps94
  go_wp2_with fail
  refine (rnone_x _).mono ?_
  rintro e w1 ⟨rfl, h1⟩
  have hB1 : Below w.heap.size w w1 := Below.on h1 (by repeat (first | assumption | exact Below.refl _ _ | refine Below.setCell ?_ (by first | exact Nat.le_refl _ | (simp; done) | omega | (simp; omega)) _ | refine Below.alloc ?_ (by first | exact Nat.le_refl _ | (simp; done) | omega | (simp; omega)) _ | refine below_drewN ?_ _ | refine Below.drew ?_ | refine Below.on (by assumption) ?_ | refine Below.via (by assumption) (by first | exact Nat.le_refl _ | (simp; done) | omega | (simp; omega)) ?_))
  have KR1 : Blk w1 w.heap.size 52 #[.int .u64 0, .int .u64 0, .bool false] := (Blk.new0 _ _ _).below h1
  clear h1
  go_wp2_with fail
  obtain ⟨W0, hW0⟩ : ∃ W0, w1.alloc (.cells #[.int .u64 0, .int .u64 0, .bool true] 52) = W0 := ⟨_, rfl⟩
  have KR : Blk W0 w.heap.size 52 #[.int .u64 0, .int .u64 0, .bool false] := by rw [← hW0]; exact KR1.alloc _
  have KO0 : Blk W0 w1.heap.size 52 (pc none) := by rw [← hW0]; exact Blk.new0 _ _ _
  have hB0 : Below w.heap.size w W0 := by rw [← hW0]; exact hB1.alloc hB1.size _
  have hlt1 : w.heap.size < w1.heap.size := KR1.lt
  have hsum0 : sumE L = sumFrom none (L.drop 0) := by rw [List.drop_zero]; rfl
  obtain ⟨rb, hrb⟩ : ∃ rb, w.heap.size = rb := ⟨_, rfl⟩
  obtain ⟨ro, hro⟩ : ∃ ro, w1.heap.size = ro := ⟨_, rfl⟩
  rw [hrb] at KR hlt1
  rw [hro] at KO0 hlt1
  have hz0 : ro + 1 ≤ W0.heap.size := KO0.lt
  clear KR1 hB1
  replace KR := Lib.hid KR
  replace KO0 := Lib.hid KO0
  replace hs := Lib.hid hs
  replace hsum0 := Lib.hid hsum0
  simp only [hrb, hro]
  try rw [hW0]
  go_loopw [5] (fun n wr => ∃ (k : Nat) (p : E), k ≤ L.length ∧ n = .int .i64 k ∧ Blk wr ro 52 (pc p) ∧ Blk wr rb 52 #[.int .u64 0, .int .u64 0, .bool false] ∧ inG p = true ∧ sumE L = sumFrom p (L.drop k) ∧ Below w.heap.size w wr) (fun n _ => (L.length - intOf n).toNat)
  case atStart => exact ⟨0, none, by omega, rfl, KO0.out, KR.out, inG_none, hsum0.out, hB0⟩
  case round =>
    clear KO0 KR hsum0 hB0 hW0
    obtain ⟨k, p, hk, rfl, KP, KR, hp, hsum, HB⟩ := hrel
    have hzr := HB.size
    have hzo := KP.lt
    by_cases hlt : k < L.length
    · obtain ⟨b, o, rfl, hb, hc⟩ := (hs.out.below HB).at k hlt
      rw [drop_at L [] k hlt, sumFrom] at hsum
      generalize L.getD k [] = x at *
      have n1 := rfrom_of (bs x)
      rw [bs_list] at n1
      have K1 : Blk wr ro 52 #[.int .u64 (px p), .int .u64 (py p), .bool (pf p)] := KP
      replace K1 := Lib.hid K1
      have K2 := Lib.hid KR
      clear KP KR
      replace n1 := Lib.hid n1
      cases hx : fromL x with
      | none =>
        rw [hx] at hsum
        have hn : sumE L = none := hsum
        have n2 := n1.out
        rw [hx, outV_none] at n2
        replace n2 := Lib.hid n2
        replace hsum := Lib.hid hsum
        replace hn := Lib.hid hn
        replace hx := Lib.hid hx
        go_wp2_with fail
        refine (n2.out _).mono ?_
        rintro e w2 ⟨rfl, h2⟩
        have HB2 := Below.on h2 HB
        have K3 := Lib.hid (K2.out.below h2)
        clear h2 K1 K2
        (have k3 := Blk.cell K3.out; have f3 := Blk.free K3.out; have l3 := Blk.lt K3.out; have m3 := Nat.le_of_lt l3)
        go_wp2_with fail
        rw [hn.out]
        exact bodyPost_ret (v := .tuple #[.agg #[.int .u64 0, .int .u64 0, .bool false], .bool false]) (by simp (maxDischargeDepth := 9) [results, Tryd.results94, go_sem, vp, v2, *]) rfl ⟨rfl, (by repeat (first | assumption | exact Below.refl _ _ | refine Below.setCell ?_ (by first | exact Nat.le_refl _ | (simp; done) | omega | (simp; omega)) _ | refine Below.alloc ?_ (by first | exact Nat.le_refl _ | (simp; done) | omega | (simp; omega)) _ | refine below_drewN ?_ _ | refine Below.drew ?_ | refine Below.on (by assumption) ?_ | refine Below.via (by assumption) (by first | exact Nat.le_refl _ | (simp; done) | omega | (simp; omega)) ?_))⟩
      | some q =>
        rw [hx] at hsum
        replace hsum : sumE L = sumFrom (addE p q) (L.drop (k + 1)) := hsum
        have hq := (back_bytes hx).1
        have n2 := n1.out
        rw [hx, outV_some] at n2
        have n3 := rplus_u p q
        have hpq := inG_add hp hq
        generalize addE p q = r at *
        replace n2 := Lib.hid n2
        replace n3 := Lib.hid n3
        replace hsum := Lib.hid hsum
        replace hx := Lib.hid hx
        replace hpq := Lib.hid hpq
        clear hp hq
        go_wp2_with fail
        refine (n2.out _).mono ?_
        rintro e w2 ⟨rfl, h2⟩
        have HB2 := Below.on h2 HB
        have K3 := Lib.hid (K1.out.below h2)
        have K4 := Lib.hid (K2.out.below h2)
        clear h2 K1 K2
        (have k3 := Blk.cell K3.out; have f3 := Blk.free K3.out; have l3 := Blk.lt K3.out; have m3 := Nat.le_of_lt l3; have k4 := Blk.cell K4.out; have f4 := Blk.free K4.out; have l4 := Blk.lt K4.out; have m4 := Nat.le_of_lt l4)
        go_wp2_with fail
        refine (n3.out _).mono ?_
        rintro e w3 ⟨rfl, h3⟩
        have HB3 := Below.on h3 (HB2.alloc HB2.size _)
        have K5 := Lib.hid ((K3.out.alloc _).below h3)
        have K6 := Lib.hid ((K4.out.alloc _).below h3)
        have hz3 := HB3.size
        clear h3 K3 k3 f3 l3 m3 K4 k4 f4 l4 m4
        (have k5 := Blk.cell K5.out; have f5 := Blk.free K5.out; have l5 := Blk.lt K5.out; have m5 := Nat.le_of_lt l5; have k6 := Blk.cell K6.out; have f6 := Blk.free K6.out; have l6 := Blk.lt K6.out; have m6 := Nat.le_of_lt l6)
        go_wp2_with fail
        go_roundw
        case rel => exact ⟨k + 1, r, by omega, by go_num, (by apply Blk.to; (repeat (first | with_reducible exact K5.out | with_reducible exact Blk.new0 _ _ _ | with_reducible exact Blk.new1 _ _ _ _ | with_reducible exact Blk.new2 _ _ _ _ _ | with_reducible exact Blk.new3 _ _ _ _ _ _ | with_reducible exact Blk.new4 _ _ _ _ _ _ _ | with_reducible exact Blk.newS1 _ _ _ _ _ | with_reducible exact Blk.newS2 _ _ _ _ _ _ _ | with_reducible exact Blk.newS3 _ _ _ _ _ _ _ _ _ | with_reducible apply Blk.set_ | with_reducible apply Blk.alloc | with_reducible apply Blk.drewN | with_reducible apply Blk.drew | (with_reducible apply Blk.over2; first | assumption | omega))); rfl), (by apply Blk.to; (repeat (first | with_reducible exact K6.out | with_reducible exact Blk.new0 _ _ _ | with_reducible exact Blk.new1 _ _ _ _ | with_reducible exact Blk.new2 _ _ _ _ _ | with_reducible exact Blk.new3 _ _ _ _ _ _ | with_reducible exact Blk.new4 _ _ _ _ _ _ _ | with_reducible exact Blk.newS1 _ _ _ _ _ | with_reducible exact Blk.newS2 _ _ _ _ _ _ _ | with_reducible exact Blk.newS3 _ _ _ _ _ _ _ _ _ | with_reducible apply Blk.set_ | with_reducible apply Blk.alloc | with_reducible apply Blk.drewN | with_reducible apply Blk.drew | (with_reducible apply Blk.over2; first | assumption | omega))); rfl), hpq.out, hsum.out, ((HB3.setCell (by simp; omega) _).setCell (by simp; omega) _).setCell (by simp; omega) _⟩
        case measure => simp [intOf]; omega
    · obtain rfl : k = L.length := by omega
      rw [List.drop_length, sumFrom] at hsum
      have K1 : Blk wr ro 52 #[.int .u64 (px p), .int .u64 (py p), .bool (pf p)] := KP
      replace K1 := Lib.hid K1
      have K2 := Lib.hid KR
      replace hsum := Lib.hid hsum
      clear KP KR hp
      (have k1 := Blk.cell K1.out; have f1 := Blk.free K1.out; have l1 := Blk.lt K1.out; have m1 := Nat.le_of_lt l1; have k2 := Blk.cell K2.out; have f2 := Blk.free K2.out; have l2 := Blk.lt K2.out; have m2 := Nat.le_of_lt l2)
      go_wp2_with fail
      rw [hsum.out]
      exact bodyPost_ret (v := .tuple #[.agg #[.int .u64 (px p), .int .u64 (py p), .bool (pf p)], .bool true]) (by simp (maxDischargeDepth := 9) [results, Tryd.results94, go_sem, vp, v2, *]) rfl ⟨rfl, (by repeat (first | assumption | exact Below.refl _ _ | refine Below.setCell ?_ (by first | exact Nat.le_refl _ | (simp; done) | omega | (simp; omega)) _ | refine Below.alloc ?_ (by first | exact Nat.le_refl _ | (simp; done) | omega | (simp; omega)) _ | refine below_drewN ?_ _ | refine Below.drew ?_ | refine Below.on (by assumption) ?_ | refine Below.via (by assumption) (by first | exact Nat.le_refl _ | (simp; done) | omega | (simp; omega)) ?_))⟩
end Go.Proofs.YtpmmjomejackkaaDoor
end
section
set_option linter.unusedSimpArgs false
set_option linter.unusedVariables false
namespace Go.Proofs.YtpmmjomejackkaaDoor
open BigFrame Go.RowKit Go.Phx Go.Shelf
attribute [local go_sem] Oper.semAt_some

set_option maxRecDepth 100000 in
set_option maxHeartbeats 4000000 in
theorem rholds_go (k s : E) (t : List UInt8) (L1 L2 : F2) (hk : pf k = false) (r : Bool) (G H : E)
    (n2 : ∀ w, Calls Tryd.prog 83 #[] w (Ret w (.agg #[.int .u64 (px G), .int .u64 (py G), .bool (pf G)])))
    (n3 : ∀ w, Calls Tryd.prog 49 #[.string (bs t)] w (Ret w (.agg #[.int .u64 (px H), .int .u64 (py H), .bool (pf H)])))
    (n4 : ∀ w, Calls Tryd.prog 127 #[.agg #[.int .u64 (px s), .int .u64 (py s), .bool (pf s)], .agg #[.int .u64 (px G), .int .u64 (py G), .bool (pf G)]] w (Ret w (v2' L1)))
    (n5 : ∀ w, Calls Tryd.prog 127 #[.agg #[.int .u64 (px H), .int .u64 (py H), .bool (pf H)], .agg #[.int .u64 (px k), .int .u64 (py k), .bool (pf k)]] w (Ret w (v2' L2)))
    (hr : sameF L1 L2 = r) (w : World) :
    Calls Tryd.prog 91 #[.agg #[.int .u64 (px k), .int .u64 (py k), .bool (pf k)], .string (bs t), .agg #[.int .u64 (px s), .int .u64 (py s), .bool (pf s)]] w (Ret w (.bool r)) := by
  replace n2 := Lib.hid n2
  replace n3 := Lib.hid n3
  rw [hk] at n5
  replace n4 := Lib.hid n4
  replace n5 := Lib.hid n5
  unfold sameF at hr
  cases e1 : (vz L1.1 == vz L2.1)
  · rw [e1] at hr
    obtain rfl : false = r := hr
    go_enter Tryd.func91, Tryd.ntmps91
    go_wp2_with fail
    have hB := Below.refl w.heap.size w
    have K0 := Lib.hid (Blk.new0 w 52 #[.int .u64 (px k), .int .u64 (py k), .bool (pf k)])
    have K1 := Lib.hid (K0.out.alloc (.cells #[.int .u64 (px s), .int .u64 (py s), .bool (pf s)] 52))
    have K2 := Lib.hid (Blk.new1 w (.cells #[.int .u64 (px k), .int .u64 (py k), .bool (pf k)] 52) 52 #[.int .u64 (px s), .int .u64 (py s), .bool (pf s)])
    have hBz := (hB.alloc (Nat.le_refl _) (.cells #[.int .u64 (px k), .int .u64 (py k), .bool (pf k)] 52)).alloc (by simp) (.cells #[.int .u64 (px s), .int .u64 (py s), .bool (pf s)] 52)
    rw [hk] at K0 K1 K2 hBz
    obtain ⟨W1, hW1⟩ : ∃ W1, (w.alloc (.cells #[.int .u64 (px k), .int .u64 (py k), .bool false] 52)).alloc (.cells #[.int .u64 (px s), .int .u64 (py s), .bool (pf s)] 52) = W1 := ⟨_, rfl⟩
    rw [hW1] at K1 K2 hBz ⊢
    clear K0 hW1 hB
    (have k1 := Blk.cell K1.out; have f1 := Blk.free K1.out; have l1 := Blk.lt K1.out; have m1 := Nat.le_of_lt l1; have k2 := Blk.cell K2.out; have f2 := Blk.free K2.out; have l2 := Blk.lt K2.out; have m2 := Nat.le_of_lt l2)
    go_wp2_with fail
    have hwf : ∀ f, Fence.wide.fn f := fun _ => trivial
    refine (wpIn_wide (n := 9)).1 ?_
    refine wpIn_round_held (fun w' => Below W1.heap.size W1 w') (fun j => true) (by kernel_rfl) ?_
    have hS0 : Below W1.heap.size W1 W1.drew := (Below.refl _ _).drew
    clear k1 f1 l1 m1 k2 f2 l2 m2
    refine S_take (fun _ => trivial) 0 (.agg #[.int .u64 (px s), .int .u64 (py s), .bool (pf s)]) (by kernel_rfl) rfl (by kernel_rfl) (by kernel_rfl) (by kernel_rfl) (by kernel_rfl) (onlyN_panic _ _) hS0 (by rfl) (fun w' h => ?_) ?_
    · have K7 := Lib.hid (K2.out.below h)
      (have k7 := Blk.cell K7.out; have f7 := Blk.free K7.out; have l7 := Blk.lt K7.out; have m7 := Nat.le_of_lt l7)
      go_simp
    refine S_take (fun _ => trivial) 3 (.string (bs t)) (by kernel_rfl) rfl (by kernel_rfl) (by kernel_rfl) (by kernel_rfl) (by kernel_rfl) (onlyN_panic _ _) hS0 (by rfl) (fun w' h => by first | (go_simp; done) | (have d1' := (h.cell (p := _) hgr).trans d1; have d2' := (h.cell (p := _) hgr).trans d2; go_simp)) ?_
    refine S_take (fun _ => trivial) 5 (.agg #[.int .u64 (px k), .int .u64 (py k), .bool false]) (by kernel_rfl) rfl (by kernel_rfl) (by kernel_rfl) (by kernel_rfl) (by kernel_rfl) (onlyN_panic _ _) hS0 (by rfl) (fun w' h => ?_) ?_
    · have K7 := Lib.hid (K1.out.below h)
      (have k7 := Blk.cell K7.out; have f7 := Blk.free K7.out; have l7 := Blk.lt K7.out; have m7 := Nat.le_of_lt l7)
      go_simp
    refine S_one 1 (by kernel_rfl) rfl (fun K hK => ?_)
    go_simp
    gi_wp2_with (gi_at_call 83; refine (callsIn_wide.2 (n2.out _)).mono ?_; rintro e w5 ⟨rfl, h5⟩)
    have hS1 := hS0.trans (h5.mono hS0.size)
    refine ⟨fun _ => hS1, ?_⟩
    clear hS0 h5
    refine S_one 2 (by kernel_rfl) rfl (fun K hK => ?_)
    go_simp
    gi_wp2_with (gi_at_call 127; refine (callsIn_wide.2 (n4.out _)).mono ?_; rintro e w6 ⟨rfl, h6⟩)
    have hS2 := hS1.trans (h6.mono hS1.size)
    refine ⟨fun _ => hS2, ?_⟩
    clear hS1 h6
    refine S_one 4 (by kernel_rfl) rfl (fun K hK => ?_)
    go_simp
    gi_wp2_with (gi_at_call 49; refine (callsIn_wide.2 (n3.out _)).mono ?_; rintro e w7 ⟨rfl, h7⟩)
    have hS3 := hS2.trans (h7.mono hS2.size)
    refine ⟨fun _ => hS3, ?_⟩
    clear hS2 h7
    refine S_one 6 (by kernel_rfl) rfl (fun K hK => ?_)
    go_simp
    gi_wp2_with (gi_at_call 127; refine (callsIn_wide.2 (n5.out _)).mono ?_; rintro e w8 ⟨rfl, h8⟩)
    have hS4 := hS3.trans (h8.mono hS3.size)
    refine ⟨fun _ => hS4, ?_⟩
    clear hS3 h8
    have hS0 := hS4
    clear hS4
    refine S_take (fun _ => trivial) 7 (.bool false) (by kernel_rfl) rfl (by kernel_rfl) (by kernel_rfl) (by kernel_rfl) (by kernel_rfl) (onlyN_panic _ _) hS0 (by rfl) (fun w' h => by first | (go_simp; done) | (have d1' := (h.cell (p := _) hgr).trans d1; have d2' := (h.cell (p := _) hgr).trans d2; go_simp)) ?_
    refine S_take (fun _ => trivial) 8 (.bool false) (by kernel_rfl) rfl (by kernel_rfl) (by kernel_rfl) (by kernel_rfl) (by kernel_rfl) (onlyN_panic _ _) hS0 (by rfl) (fun w' h => by first | (go_simp; done) | (have d1' := (h.cell (p := _) hgr).trans d1; have d2' := (h.cell (p := _) hgr).trans d2; go_simp)) ?_
    refine ⟨by kernel_rfl, rfl, ?_⟩
    go_wp2_with fail
    go_ret
    exact ⟨rfl, Below.on hS0 hBz⟩
  · cases e2 : (vz L1.2 == vz L2.2)
    · rw [e1, e2] at hr
      obtain rfl : false = r := hr
      go_enter Tryd.func91, Tryd.ntmps91
      go_wp2_with fail
      have hB := Below.refl w.heap.size w
      have K0 := Lib.hid (Blk.new0 w 52 #[.int .u64 (px k), .int .u64 (py k), .bool (pf k)])
      have K1 := Lib.hid (K0.out.alloc (.cells #[.int .u64 (px s), .int .u64 (py s), .bool (pf s)] 52))
      have K2 := Lib.hid (Blk.new1 w (.cells #[.int .u64 (px k), .int .u64 (py k), .bool (pf k)] 52) 52 #[.int .u64 (px s), .int .u64 (py s), .bool (pf s)])
      have hBz := (hB.alloc (Nat.le_refl _) (.cells #[.int .u64 (px k), .int .u64 (py k), .bool (pf k)] 52)).alloc (by simp) (.cells #[.int .u64 (px s), .int .u64 (py s), .bool (pf s)] 52)
      rw [hk] at K0 K1 K2 hBz
      obtain ⟨W1, hW1⟩ : ∃ W1, (w.alloc (.cells #[.int .u64 (px k), .int .u64 (py k), .bool false] 52)).alloc (.cells #[.int .u64 (px s), .int .u64 (py s), .bool (pf s)] 52) = W1 := ⟨_, rfl⟩
      rw [hW1] at K1 K2 hBz ⊢
      clear K0 hW1 hB
      (have k1 := Blk.cell K1.out; have f1 := Blk.free K1.out; have l1 := Blk.lt K1.out; have m1 := Nat.le_of_lt l1; have k2 := Blk.cell K2.out; have f2 := Blk.free K2.out; have l2 := Blk.lt K2.out; have m2 := Nat.le_of_lt l2)
      go_wp2_with fail
      have hwf : ∀ f, Fence.wide.fn f := fun _ => trivial
      refine (wpIn_wide (n := 9)).1 ?_
      refine wpIn_round_held (fun w' => Below W1.heap.size W1 w') (fun j => true) (by kernel_rfl) ?_
      have hS0 : Below W1.heap.size W1 W1.drew := (Below.refl _ _).drew
      clear k1 f1 l1 m1 k2 f2 l2 m2
      refine S_take (fun _ => trivial) 0 (.agg #[.int .u64 (px s), .int .u64 (py s), .bool (pf s)]) (by kernel_rfl) rfl (by kernel_rfl) (by kernel_rfl) (by kernel_rfl) (by kernel_rfl) (onlyN_panic _ _) hS0 (by rfl) (fun w' h => ?_) ?_
      · have K7 := Lib.hid (K2.out.below h)
        (have k7 := Blk.cell K7.out; have f7 := Blk.free K7.out; have l7 := Blk.lt K7.out; have m7 := Nat.le_of_lt l7)
        go_simp
      refine S_take (fun _ => trivial) 3 (.string (bs t)) (by kernel_rfl) rfl (by kernel_rfl) (by kernel_rfl) (by kernel_rfl) (by kernel_rfl) (onlyN_panic _ _) hS0 (by rfl) (fun w' h => by first | (go_simp; done) | (have d1' := (h.cell (p := _) hgr).trans d1; have d2' := (h.cell (p := _) hgr).trans d2; go_simp)) ?_
      refine S_take (fun _ => trivial) 5 (.agg #[.int .u64 (px k), .int .u64 (py k), .bool false]) (by kernel_rfl) rfl (by kernel_rfl) (by kernel_rfl) (by kernel_rfl) (by kernel_rfl) (onlyN_panic _ _) hS0 (by rfl) (fun w' h => ?_) ?_
      · have K7 := Lib.hid (K1.out.below h)
        (have k7 := Blk.cell K7.out; have f7 := Blk.free K7.out; have l7 := Blk.lt K7.out; have m7 := Nat.le_of_lt l7)
        go_simp
      refine S_one 1 (by kernel_rfl) rfl (fun K hK => ?_)
      go_simp
      gi_wp2_with (gi_at_call 83; refine (callsIn_wide.2 (n2.out _)).mono ?_; rintro e w5 ⟨rfl, h5⟩)
      have hS1 := hS0.trans (h5.mono hS0.size)
      refine ⟨fun _ => hS1, ?_⟩
      clear hS0 h5
      refine S_one 2 (by kernel_rfl) rfl (fun K hK => ?_)
      go_simp
      gi_wp2_with (gi_at_call 127; refine (callsIn_wide.2 (n4.out _)).mono ?_; rintro e w6 ⟨rfl, h6⟩)
      have hS2 := hS1.trans (h6.mono hS1.size)
      refine ⟨fun _ => hS2, ?_⟩
      clear hS1 h6
      refine S_one 4 (by kernel_rfl) rfl (fun K hK => ?_)
      go_simp
      gi_wp2_with (gi_at_call 49; refine (callsIn_wide.2 (n3.out _)).mono ?_; rintro e w7 ⟨rfl, h7⟩)
      have hS3 := hS2.trans (h7.mono hS2.size)
      refine ⟨fun _ => hS3, ?_⟩
      clear hS2 h7
      refine S_one 6 (by kernel_rfl) rfl (fun K hK => ?_)
      go_simp
      gi_wp2_with (gi_at_call 127; refine (callsIn_wide.2 (n5.out _)).mono ?_; rintro e w8 ⟨rfl, h8⟩)
      have hS4 := hS3.trans (h8.mono hS3.size)
      refine ⟨fun _ => hS4, ?_⟩
      clear hS3 h8
      have hS0 := hS4
      clear hS4
      refine S_take (fun _ => trivial) 7 (.bool false) (by kernel_rfl) rfl (by kernel_rfl) (by kernel_rfl) (by kernel_rfl) (by kernel_rfl) (onlyN_panic _ _) hS0 (by rfl) (fun w' h => by first | (go_simp; done) | (have d1' := (h.cell (p := _) hgr).trans d1; have d2' := (h.cell (p := _) hgr).trans d2; go_simp)) ?_
      refine S_take (fun _ => trivial) 8 (.bool false) (by kernel_rfl) rfl (by kernel_rfl) (by kernel_rfl) (by kernel_rfl) (by kernel_rfl) (onlyN_panic _ _) hS0 (by rfl) (fun w' h => by first | (go_simp; done) | (have d1' := (h.cell (p := _) hgr).trans d1; have d2' := (h.cell (p := _) hgr).trans d2; go_simp)) ?_
      refine ⟨by kernel_rfl, rfl, ?_⟩
      go_wp2_with fail
      go_ret
      exact ⟨rfl, Below.on hS0 hBz⟩
    · rw [e1, e2] at hr
      obtain rfl : true = r := hr
      go_enter Tryd.func91, Tryd.ntmps91
      go_wp2_with fail
      have hB := Below.refl w.heap.size w
      have K0 := Lib.hid (Blk.new0 w 52 #[.int .u64 (px k), .int .u64 (py k), .bool (pf k)])
      have K1 := Lib.hid (K0.out.alloc (.cells #[.int .u64 (px s), .int .u64 (py s), .bool (pf s)] 52))
      have K2 := Lib.hid (Blk.new1 w (.cells #[.int .u64 (px k), .int .u64 (py k), .bool (pf k)] 52) 52 #[.int .u64 (px s), .int .u64 (py s), .bool (pf s)])
      have hBz := (hB.alloc (Nat.le_refl _) (.cells #[.int .u64 (px k), .int .u64 (py k), .bool (pf k)] 52)).alloc (by simp) (.cells #[.int .u64 (px s), .int .u64 (py s), .bool (pf s)] 52)
      rw [hk] at K0 K1 K2 hBz
      obtain ⟨W1, hW1⟩ : ∃ W1, (w.alloc (.cells #[.int .u64 (px k), .int .u64 (py k), .bool false] 52)).alloc (.cells #[.int .u64 (px s), .int .u64 (py s), .bool (pf s)] 52) = W1 := ⟨_, rfl⟩
      rw [hW1] at K1 K2 hBz ⊢
      clear K0 hW1 hB
      (have k1 := Blk.cell K1.out; have f1 := Blk.free K1.out; have l1 := Blk.lt K1.out; have m1 := Nat.le_of_lt l1; have k2 := Blk.cell K2.out; have f2 := Blk.free K2.out; have l2 := Blk.lt K2.out; have m2 := Nat.le_of_lt l2)
      go_wp2_with fail
      have hwf : ∀ f, Fence.wide.fn f := fun _ => trivial
      refine (wpIn_wide (n := 9)).1 ?_
      refine wpIn_round_held (fun w' => Below W1.heap.size W1 w') (fun j => true) (by kernel_rfl) ?_
      have hS0 : Below W1.heap.size W1 W1.drew := (Below.refl _ _).drew
      clear k1 f1 l1 m1 k2 f2 l2 m2
      refine S_take (fun _ => trivial) 0 (.agg #[.int .u64 (px s), .int .u64 (py s), .bool (pf s)]) (by kernel_rfl) rfl (by kernel_rfl) (by kernel_rfl) (by kernel_rfl) (by kernel_rfl) (onlyN_panic _ _) hS0 (by rfl) (fun w' h => ?_) ?_
      · have K7 := Lib.hid (K2.out.below h)
        (have k7 := Blk.cell K7.out; have f7 := Blk.free K7.out; have l7 := Blk.lt K7.out; have m7 := Nat.le_of_lt l7)
        go_simp
      refine S_take (fun _ => trivial) 3 (.string (bs t)) (by kernel_rfl) rfl (by kernel_rfl) (by kernel_rfl) (by kernel_rfl) (by kernel_rfl) (onlyN_panic _ _) hS0 (by rfl) (fun w' h => by first | (go_simp; done) | (have d1' := (h.cell (p := _) hgr).trans d1; have d2' := (h.cell (p := _) hgr).trans d2; go_simp)) ?_
      refine S_take (fun _ => trivial) 5 (.agg #[.int .u64 (px k), .int .u64 (py k), .bool false]) (by kernel_rfl) rfl (by kernel_rfl) (by kernel_rfl) (by kernel_rfl) (by kernel_rfl) (onlyN_panic _ _) hS0 (by rfl) (fun w' h => ?_) ?_
      · have K7 := Lib.hid (K1.out.below h)
        (have k7 := Blk.cell K7.out; have f7 := Blk.free K7.out; have l7 := Blk.lt K7.out; have m7 := Nat.le_of_lt l7)
        go_simp
      refine S_one 1 (by kernel_rfl) rfl (fun K hK => ?_)
      go_simp
      gi_wp2_with (gi_at_call 83; refine (callsIn_wide.2 (n2.out _)).mono ?_; rintro e w5 ⟨rfl, h5⟩)
      have hS1 := hS0.trans (h5.mono hS0.size)
      refine ⟨fun _ => hS1, ?_⟩
      clear hS0 h5
      refine S_one 2 (by kernel_rfl) rfl (fun K hK => ?_)
      go_simp
      gi_wp2_with (gi_at_call 127; refine (callsIn_wide.2 (n4.out _)).mono ?_; rintro e w6 ⟨rfl, h6⟩)
      have hS2 := hS1.trans (h6.mono hS1.size)
      refine ⟨fun _ => hS2, ?_⟩
      clear hS1 h6
      refine S_one 4 (by kernel_rfl) rfl (fun K hK => ?_)
      go_simp
      gi_wp2_with (gi_at_call 49; refine (callsIn_wide.2 (n3.out _)).mono ?_; rintro e w7 ⟨rfl, h7⟩)
      have hS3 := hS2.trans (h7.mono hS2.size)
      refine ⟨fun _ => hS3, ?_⟩
      clear hS2 h7
      refine S_one 6 (by kernel_rfl) rfl (fun K hK => ?_)
      go_simp
      gi_wp2_with (gi_at_call 127; refine (callsIn_wide.2 (n5.out _)).mono ?_; rintro e w8 ⟨rfl, h8⟩)
      have hS4 := hS3.trans (h8.mono hS3.size)
      refine ⟨fun _ => hS4, ?_⟩
      clear hS3 h8
      have hS0 := hS4
      clear hS4
      refine S_take (fun _ => trivial) 7 (.bool true) (by kernel_rfl) rfl (by kernel_rfl) (by kernel_rfl) (by kernel_rfl) (by kernel_rfl) (onlyN_panic _ _) hS0 (by rfl) (fun w' h => by first | (go_simp; done) | (have d1' := (h.cell (p := _) hgr).trans d1; have d2' := (h.cell (p := _) hgr).trans d2; go_simp)) ?_
      refine S_take (fun _ => trivial) 8 (.bool true) (by kernel_rfl) rfl (by kernel_rfl) (by kernel_rfl) (by kernel_rfl) (by kernel_rfl) (onlyN_panic _ _) hS0 (by rfl) (fun w' h => by first | (go_simp; done) | (have d1' := (h.cell (p := _) hgr).trans d1; have d2' := (h.cell (p := _) hgr).trans d2; go_simp)) ?_
      refine ⟨by kernel_rfl, rfl, ?_⟩
      go_wp2_with fail
      go_ret
      exact ⟨rfl, Below.on hS0 hBz⟩
theorem rholds_calls (k s : E) (t : List UInt8) (ht : t.length ≤ 1048576) (w : World) :
    Calls Tryd.prog 91 #[.agg #[.int .u64 (px k), .int .u64 (py k), .bool (pf k)], .string (bs t), .agg #[.int .u64 (px s), .int .u64 (py s), .bool (pf s)]] w (Ret w (.bool (if pf k then false else sameF (pairE s genE) (pairE (hashE t) k)))) := by
  cases h : pf k with
  | true =>
    go_enter Tryd.func91, Tryd.ntmps91
    go_wp2_with fail
    go_ret
    exact ⟨rfl, (by repeat (first | assumption | exact Below.refl _ _ | refine Below.setCell ?_ (by first | exact Nat.le_refl _ | (simp; done) | omega | (simp; omega)) _ | refine Below.alloc ?_ (by first | exact Nat.le_refl _ | (simp; done) | omega | (simp; omega)) _ | refine below_drewN ?_ _ | refine Below.drew ?_ | refine Below.on (by assumption) ?_ | refine Below.via (by assumption) (by first | exact Nat.le_refl _ | (simp; done) | omega | (simp; omega)) ?_))⟩
  | false =>
    have := rholds_go k s t _ _ h _ genE (hashE t) rgen_x (rhash_calls t ht) (paired_calls s genE) (paired_calls (hashE t) k) rfl w
    rw [h] at this
    exact this
end Go.Proofs.YtpmmjomejackkaaDoor
end
