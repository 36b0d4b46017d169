/- What the later texts stand on (SgnN, SgnR): plain laws and walks, each by its own conditions. -/
import Derived.Test.YtpmmjomejackkaaDoorG23
set_option linter.unusedSimpArgs false
set_option linter.unusedVariables false
section
set_option linter.unusedSimpArgs false
set_option linter.unusedVariables false
namespace Go.Proofs.YtpmmjomejackkaaDoor
open BigFrame Go.RowKit Go.Phx Go.Shelf
attribute [local go_sem] Oper.semAt_some

theorem rsecret_calls (n : Int) (h0 : 0 ≤ n) (w : World) : Calls Tryd.prog 85 #[.int .u64 n] w fun e w' => e = .returned (.bool (decide (IsSecret n))) ∧ w' = w := by
  by_cases hz : n = 0
  · rw [show decide (IsSecret n) = false from decide_eq_false fun h => h.1 hz]
    have e1 : decide (1 ≤ n) = false := decide_eq_false (by omega)
    clear h0 hz
    go_enter Tryd.func85, Tryd.ntmps85
    go_wp2_with fail
    go_ret
    exact ⟨rfl, rfl⟩
  · have e1 : decide (1 ≤ n) = true := decide_eq_true (by omega)
    by_cases h : n < 536870717
    · rw [show decide (IsSecret n) = true from decide_eq_true ⟨hz, h⟩]
      have e2 : decide (n < 536870717) = true := decide_eq_true h
      clear h0 hz h
      go_enter Tryd.func85, Tryd.ntmps85
      go_wp2_with fail
      go_ret
      exact ⟨rfl, rfl⟩
    · rw [show decide (IsSecret n) = false from decide_eq_false fun h2 => h h2.2]
      have e2 : decide (n < 536870717) = false := decide_eq_false h
      clear h0 hz h
      go_enter Tryd.func85, Tryd.ntmps85
      go_wp2_with fail
      go_ret
      exact ⟨rfl, rfl⟩
set_option maxRecDepth 100000 in
set_option maxHeartbeats 2000000 in
theorem rkey_calls (n : Int) (h0 : 0 ≤ n) (h1 : n ≤ 18446744073709551615) (w : World) : Calls Tryd.prog 51 #[.int .u64 n] w (Ret w (keyV n genE)) := by
  have n1 := fun W => rsecret_calls n h0 W
  unfold keyV keyB keyE
  by_cases h : IsSecret n
  · rw [if_pos h, if_pos h]
    rw [decide_eq_true h] at n1
    have n2 := rgen_x
    have n3 := fun W => rmany_u genE n h0 h1 W
    have n4 := fun W => rbytes_good (times_in gen_in n h0 h1) W
    generalize timesE n genE = q at *
    generalize genE = p at *
    replace n1 := Lib.hid n1
    replace n2 := Lib.hid n2
    replace n3 := Lib.hid n3
    replace n4 := Lib.hid n4
    clear h
    go_enter Tryd.func51, Tryd.ntmps51
    go_wp2_with fail
    refine (n1.out _).mono ?_
    rintro e w1 ⟨rfl, rfl⟩
    go_wp2_with fail
    refine (n2.out _).mono ?_
    rintro e w2 ⟨rfl, g2⟩
    go_wp2_with fail
    refine (n3.out _).mono ?_
    rintro e w3 ⟨rfl, g3⟩
    have hB3 := Below.on g3 g2
    go_wp2_with fail
    refine (n4.out _).mono ?_
    rintro e w4 ⟨rfl, g4⟩
    have hB4 := Below.on g4 hB3
    clear g2 g3 g4 hB3
    go_wp2_with fail
    go_ret2
    exact ⟨rfl, hB4⟩
  · rw [if_neg h, if_neg h]
    rw [decide_eq_false h] at n1
    replace n1 := Lib.hid n1
    clear h
    go_enter Tryd.func51, Tryd.ntmps51
    go_wp2_with fail
    refine (n1.out _).mono ?_
    rintro e w1 ⟨rfl, rfl⟩
    go_wp2_with fail
    go_ret2
    exact ⟨rfl, Below.refl _ _⟩
set_option maxRecDepth 100000 in
set_option maxHeartbeats 2000000 in
theorem rsign_calls (n : Int) (h0 : 0 ≤ n) (h1 : n ≤ 18446744073709551615) (t : List UInt8) (ht : t.length ≤ 1048576) (w : World) : Calls Tryd.prog 53 #[.int .u64 n, .string (bs t)] w (Ret w (keyV n (hashE t))) := by
  have n1 := fun W => rsecret_calls n h0 W
  unfold keyV keyB keyE
  by_cases h : IsSecret n
  · rw [if_pos h, if_pos h]
    rw [decide_eq_true h] at n1
    have n2 := fun W => rhash_calls t ht W
    have n3 := fun W => rmany_u (hashE t) n h0 h1 W
    have n4 := fun W => rbytes_good (times_in (hash_in t) n h0 h1) W
    generalize timesE n (hashE t) = q at *
    generalize hashE t = p at *
    replace n1 := Lib.hid n1
    replace n2 := Lib.hid n2
    replace n3 := Lib.hid n3
    replace n4 := Lib.hid n4
    clear h
    go_enter Tryd.func53, Tryd.ntmps53
    go_wp2_with fail
    refine (n1.out _).mono ?_
    rintro e w1 ⟨rfl, rfl⟩
    go_wp2_with fail
    refine (n2.out _).mono ?_
    rintro e w2 ⟨rfl, g2⟩
    go_wp2_with fail
    refine (n3.out _).mono ?_
    rintro e w3 ⟨rfl, g3⟩
    have hB3 := Below.on g3 g2
    go_wp2_with fail
    refine (n4.out _).mono ?_
    rintro e w4 ⟨rfl, g4⟩
    have hB4 := Below.on g4 hB3
    clear g2 g3 g4 hB3
    go_wp2_with fail
    go_ret2
    exact ⟨rfl, hB4⟩
  · rw [if_neg h, if_neg h]
    rw [decide_eq_false h] at n1
    replace n1 := Lib.hid n1
    clear h
    go_enter Tryd.func53, Tryd.ntmps53
    go_wp2_with fail
    refine (n1.out _).mono ?_
    rintro e w1 ⟨rfl, rfl⟩
    go_wp2_with fail
    go_ret2
    exact ⟨rfl, Below.refl _ _⟩
set_option maxRecDepth 100000 in
set_option maxHeartbeats 2000000 in
theorem rSum_calls (A : Option Addr) (c : Nat) (L : List (List UInt8)) (hL : L.length ≤ 1048576) (w : World) (hs : Lsts w A L) : Calls Tryd.prog 57 #[.slice A L.length c] w (Ret w (sumV (sumE L))) := by
  have n1 := rsums_calls A c L hL w hs
  have hin := fun p (h : sumE L = some p) => sumE_in h
  clear hs
  cases hr : sumE L with
  | none =>
    rw [hr] at n1
    replace n1 : Calls Tryd.prog 94 #[.slice A L.length c] w (Ret w (.tuple #[.agg #[.int .u64 0, .int .u64 0, .bool false], .bool false])) := n1
    replace n1 := Lib.hid n1
    replace hr := Lib.hid hr
    clear hin
    go_enter Tryd.func57, Tryd.ntmps57
    go_wp2_with fail
    refine n1.out.mono ?_
    rintro e w1 ⟨rfl, h1⟩
    go_wp2_with fail
    go_ret2
    exact ⟨rfl, h1.alloc h1.size _⟩
  | some p =>
    rw [hr] at n1
    replace n1 : Calls Tryd.prog 94 #[.slice A L.length c] w (Ret w (.tuple #[.agg #[.int .u64 (px p), .int .u64 (py p), .bool (pf p)], .bool true])) := n1
    have n2 := fun W => rbytes_good (hin p hr) W
    replace n1 := Lib.hid n1
    replace hr := Lib.hid hr
    replace n2 := Lib.hid n2
    clear hin
    go_enter Tryd.func57, Tryd.ntmps57
    go_wp2_with fail
    refine n1.out.mono ?_
    rintro e w1 ⟨rfl, h1⟩
    go_wp2_with fail
    refine (n2.out _).mono ?_
    rintro e w2 ⟨rfl, h2⟩
    go_wp2_with fail
    go_ret2
    exact ⟨rfl, Below.on h2 (h1.alloc h1.size _)⟩
set_option maxRecDepth 100000 in
set_option maxHeartbeats 2000000 in
theorem rverify_calls (k t sg : List UInt8) (ht : t.length ≤ 1048576) (w : World) :
    Calls Tryd.prog 55 #[.string (bs k), .string (bs t), .string (bs sg)] w (Ret w (.bool (verB k t sg))) := by
  have n1 := rfrom_of (bs k)
  have n2 := rfrom_of (bs sg)
  rw [bs_list] at n1 n2
  unfold verB holdsB
  cases hk : fromL k with
  | none =>
    rw [hk, outV_none] at n1
    cases hf : fromL sg with
    | none =>
      rw [hf, outV_none] at n2
      replace n1 := Lib.hid n1
      replace n2 := Lib.hid n2
      replace hf := Lib.hid hf
      replace hk := Lib.hid hk
      go_enter Tryd.func55, Tryd.ntmps55
      go_wp2_with fail
      refine (n1.out _).mono ?_
      rintro e w1 ⟨rfl, h1⟩
      have hB : Below w.heap.size w w1 := Below.on h1 (by repeat (first | assumption | exact Below.refl _ _ | refine Below.setCell ?_ (by first | exact Nat.le_refl _ | (simp; done) | omega | (simp; omega)) _ | refine Below.alloc ?_ (by first | exact Nat.le_refl _ | (simp; done) | omega | (simp; omega)) _ | refine below_drewN ?_ _ | refine Below.drew ?_ | refine Below.on (by assumption) ?_ | refine Below.via (by assumption) (by first | exact Nat.le_refl _ | (simp; done) | omega | (simp; omega)) ?_))
      clear h1
      go_wp2_with fail
      refine (n2.out _).mono ?_
      rintro e w2 ⟨rfl, h2⟩
      have hB2 : Below w.heap.size w w2 := Below.on h2 (by first | exact hB.alloc hB.size _ | exact hB)
      clear h2
      go_wp2_with fail
      go_ret
      exact ⟨rfl, by first | exact hB2.alloc hB2.size _ | exact hB2⟩
    | some s =>
      rw [hf, outV_some] at n2
      replace n1 := Lib.hid n1
      replace n2 := Lib.hid n2
      replace hf := Lib.hid hf
      replace hk := Lib.hid hk
      go_enter Tryd.func55, Tryd.ntmps55
      go_wp2_with fail
      refine (n1.out _).mono ?_
      rintro e w1 ⟨rfl, h1⟩
      have hB : Below w.heap.size w w1 := Below.on h1 (by repeat (first | assumption | exact Below.refl _ _ | refine Below.setCell ?_ (by first | exact Nat.le_refl _ | (simp; done) | omega | (simp; omega)) _ | refine Below.alloc ?_ (by first | exact Nat.le_refl _ | (simp; done) | omega | (simp; omega)) _ | refine below_drewN ?_ _ | refine Below.drew ?_ | refine Below.on (by assumption) ?_ | refine Below.via (by assumption) (by first | exact Nat.le_refl _ | (simp; done) | omega | (simp; omega)) ?_))
      clear h1
      go_wp2_with fail
      refine (n2.out _).mono ?_
      rintro e w2 ⟨rfl, h2⟩
      have hB2 : Below w.heap.size w w2 := Below.on h2 (by first | exact hB.alloc hB.size _ | exact hB)
      clear h2
      go_wp2_with fail
      go_ret
      exact ⟨rfl, by first | exact hB2.alloc hB2.size _ | exact hB2⟩
  | some p =>
    rw [hk, outV_some] at n1
    cases hf : fromL sg with
    | none =>
      rw [hf, outV_none] at n2
      replace n1 := Lib.hid n1
      replace n2 := Lib.hid n2
      replace hf := Lib.hid hf
      replace hk := Lib.hid hk
      go_enter Tryd.func55, Tryd.ntmps55
      go_wp2_with fail
      refine (n1.out _).mono ?_
      rintro e w1 ⟨rfl, h1⟩
      have hB : Below w.heap.size w w1 := Below.on h1 (by repeat (first | assumption | exact Below.refl _ _ | refine Below.setCell ?_ (by first | exact Nat.le_refl _ | (simp; done) | omega | (simp; omega)) _ | refine Below.alloc ?_ (by first | exact Nat.le_refl _ | (simp; done) | omega | (simp; omega)) _ | refine below_drewN ?_ _ | refine Below.drew ?_ | refine Below.on (by assumption) ?_ | refine Below.via (by assumption) (by first | exact Nat.le_refl _ | (simp; done) | omega | (simp; omega)) ?_))
      clear h1
      go_wp2_with fail
      refine (n2.out _).mono ?_
      rintro e w2 ⟨rfl, h2⟩
      have hB2 : Below w.heap.size w w2 := Below.on h2 (by first | exact hB.alloc hB.size _ | exact hB)
      clear h2
      go_wp2_with fail
      go_ret
      exact ⟨rfl, by first | exact hB2.alloc hB2.size _ | exact hB2⟩
    | some s =>
      rw [hf, outV_some] at n2
      have n3 := fun W => rholds_calls p s t ht W
      obtain ⟨r, hr⟩ : ∃ r, (if pf p then false else sameF (pairE s genE) (pairE (hashE t) p)) = r := ⟨_, rfl⟩
      dsimp only
      rw [hr] at n3 ⊢
      replace n1 := Lib.hid n1
      replace n2 := Lib.hid n2
      replace n3 := Lib.hid n3
      replace hf := Lib.hid hf
      replace hk := Lib.hid hk
      replace hr := Lib.hid hr
      go_enter Tryd.func55, Tryd.ntmps55
      go_wp2_with fail
      refine (n1.out _).mono ?_
      rintro e w1 ⟨rfl, h1⟩
      have hB : Below w.heap.size w w1 := Below.on h1 (by repeat (first | assumption | exact Below.refl _ _ | refine Below.setCell ?_ (by first | exact Nat.le_refl _ | (simp; done) | omega | (simp; omega)) _ | refine Below.alloc ?_ (by first | exact Nat.le_refl _ | (simp; done) | omega | (simp; omega)) _ | refine below_drewN ?_ _ | refine Below.drew ?_ | refine Below.on (by assumption) ?_ | refine Below.via (by assumption) (by first | exact Nat.le_refl _ | (simp; done) | omega | (simp; omega)) ?_))
      clear h1
      go_wp2_with fail
      have KP1 := Blk.new0 w1 52 #[.int .u64 (px p), .int .u64 (py p), .bool (pf p)]
      refine (n2.out _).mono ?_
      rintro e w2 ⟨rfl, h2⟩
      have hB2 : Below w.heap.size w w2 := Below.on h2 (by first | exact hB.alloc hB.size _ | exact hB)
      have K7 := Lib.hid ((KP1.below h2).alloc (.cells #[.int .u64 (px s), .int .u64 (py s), .bool (pf s)] 52))
      have K9 := Lib.hid (Blk.new0 w2 52 #[.int .u64 (px s), .int .u64 (py s), .bool (pf s)])
      have hB3 := hB2.alloc hB2.size (.cells #[.int .u64 (px s), .int .u64 (py s), .bool (pf s)] 52)
      clear h2 KP1
      (have k7 := Blk.cell K7.out; have f7 := Blk.free K7.out; have l7 := Blk.lt K7.out; have m7 := Nat.le_of_lt l7; have k9 := Blk.cell K9.out; have f9 := Blk.free K9.out; have l9 := Blk.lt K9.out; have m9 := Nat.le_of_lt l9)
      go_wp2_with fail
      refine (n3.out _).mono ?_
      rintro e w3 ⟨rfl, h3⟩
      go_wp2_with fail
      go_ret
      exact ⟨rfl, Below.on h3 hB3⟩
end Go.Proofs.YtpmmjomejackkaaDoor
end
section
set_option linter.unusedSimpArgs false
set_option linter.unusedVariables false
namespace Go.Proofs.YtpmmjomejackkaaDoor
open BigFrame Go.RowKit Go.Phx Go.Shelf

theorem zero_bytes : bytesE none = [0, 0, 0, 0, 0] := rfl
theorem zero_from : fromL [0, 0, 0, 0, 0] = some none := by
  have h := back_point (p := none) inG_none
  rwa [zero_bytes] at h
theorem sumE_one (k : List UInt8) : sumE [k] = fromL k := by
  unfold sumE sumFrom
  cases fromL k with
  | none => rfl
  | some p => rfl
theorem allB_one (k t sg : List UInt8) : allB [k] t sg = verB k t sg := by
  unfold allB verB
  rw [sumE_one]
  cases hk : fromL k with
  | none => rfl
  | some p =>
    dsimp only
    rw [if_neg (by simp)]
    by_cases hz : [0, 0, 0, 0, 0] ∈ [k]
    · rw [if_pos hz]
      obtain rfl : [0, 0, 0, 0, 0] = k := by simpa using hz
      rw [zero_from] at hk
      injection hk with hk
      subst hk
      unfold holdsB
      cases fromL sg <;> rfl
    · rw [if_neg hz]
theorem sumFrom_no (s : List UInt8) (hs : fromL s = none) : ∀ (L : List (List UInt8)) (p : E), sumFrom p (L ++ [s]) = none
  | [], p => by
    rw [List.nil_append, sumFrom, hs]
  | x :: r, p => by
    rw [List.cons_append, sumFrom]
    cases fromL x with
    | none => rfl
    | some q => exact sumFrom_no s hs r _
theorem lsts_one {w : World} {g : Nat} {k : List UInt8} (h : Blk w g 9 #[.string (bs k)]) : Lsts w (some ⟨g, 0, none⟩) [k] :=
  Strs.mk h.lt fun i x hx => by
    match i, hx with
    | 0, hx =>
      simp at hx
      subst hx
      rw [h.cell]
      rfl
theorem lsts_nil (w : World) (A : Option Addr) : Lsts w A [] := Strs.nil _ _
end Go.Proofs.YtpmmjomejackkaaDoor
end
