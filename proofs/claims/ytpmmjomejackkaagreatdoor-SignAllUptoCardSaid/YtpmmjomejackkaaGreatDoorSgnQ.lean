/- What the statements of chapter 12 begin with: a signature holds of its key, and of no other one, nor of another text. -/
import Derived.Test.YtpmmjomejackkaaGreatDoorG23
import Derived.Test.YtpmmjomejackkaaGreatDoorG29
import Derived.Test.YtpmmjomejackkaaGreatDoorG27
set_option linter.unusedSimpArgs false
set_option linter.unusedVariables false
namespace Go.Proofs.YtpmmjomejackkaaGreatDoor
open BigFrame Go.RowKit Go.Phx Go.Shelf
attribute [local go_sem] Oper.semAt_some

/-- the first texts of a row, as lists -/
theorem lsts_take {w : World} {A : Option Addr} {xs : List ByteArray} (hs : Strs w A xs) (n : Nat) : Lsts w A ((xs.take n).map (fun x => x.data.toList)) := by
  rw [Lsts, List.map_map, show (bs ∘ fun x : ByteArray => x.data.toList) = id from funext fun x => rfl, List.map_id]
  intro h0
  obtain ⟨b, o, ha, hb, hcell⟩ := hs (by simp at h0; omega)
  refine ⟨b, o, ha, hb, fun i x hx => hcell i x ?_⟩
  have hi := (List.getElem?_eq_some_iff.1 hx).1
  rw [List.getElem?_take_of_lt (by simp at hi; omega)] at hx
  exact hx
theorem sumV_is (r : Option E) : ∃ (b : List UInt8) (er : Int), sumV r = .tuple #[.string (bs b), .int .i64 er] := by
  cases r with
  | none => exact ⟨[], 100, rfl⟩
  | some p => exact ⟨_, _, rfl⟩
theorem sameF_eq (x y : F2) : sameF x y = true ↔ x = y := by
  unfold sameF
  rw [Bool.and_eq_true, beq_iff_eq, beq_iff_eq]
  exact ⟨fun h => Prod.ext (vz_inj h.1) (vz_inj h.2), fun h => by rw [h]; exact ⟨rfl, rfl⟩⟩
theorem pf_of {p : E} (h : p ≠ none) : pf p = false := by
  cases p with
  | none => exact absurd rfl h
  | some _ => rfl
set_option maxRecDepth 100000 in
theorem five_c : timesC 5 genC ≠ none := by decide +kernel
theorem five_some : timesE 5 genE ≠ none := by
  rw [← timesC_eq, ← genC_eq]
  exact five_c
theorem keyV_is (n : Int) (p : E) (h : IsSecret n) : keyV n p = .tuple #[.string (bs (bytesE (timesE n p))), .int .i64 0] := by
  unfold keyV keyB keyE
  rw [if_pos h, if_pos h]
theorem verB_is {p s : E} (hp : inG p = true) (hs : inG s = true) (h0 : pf p = false) (t : List UInt8) : verB (bytesE p) t (bytesE s) = sameF (pairE s genE) (pairE (hashE t) p) := by
  unfold verB
  rw [back_point hp]
  dsimp only
  unfold holdsB
  rw [back_point hs]
  dsimp only
  rw [h0]
  rfl
theorem key5_in : inG (timesE 5 genE) = true := times_in gen_in 5 (by decide) (by decide)
theorem sig5_in : inG (timesE 5 (hashE [97])) = true := times_in (hash_in _) 5 (by decide) (by decide)
theorem sig6_in : inG (timesE 6 (hashE [97])) = true := times_in (hash_in _) 6 (by decide) (by decide)
theorem shown_v1 : verB (bytesE (timesE 5 genE)) [97] (bytesE (timesE 5 (hashE [97]))) = true := by
  rw [verB_is key5_in sig5_in (pf_of five_some)]
  exact (sameF_eq _ _).2 sign_same
theorem shown_v2 : verB (bytesE (timesE 5 genE)) [97] (bytesE (timesE 6 (hashE [97]))) = false := by
  rw [verB_is key5_in sig6_in (pf_of five_some)]
  exact Bool.eq_false_iff.2 fun h => sign_other ((sameF_eq _ _).1 h)
theorem shown_v3 : verB (bytesE (timesE 5 genE)) [98] (bytesE (timesE 5 (hashE [97]))) = false := by
  rw [verB_is key5_in sig5_in (pf_of five_some)]
  exact Bool.eq_false_iff.2 fun h => sign_text ((sameF_eq _ _).1 h)
theorem secret5 : IsSecret 5 := ⟨by decide, by decide⟩
theorem secret6 : IsSecret 6 := ⟨by decide, by decide⟩
set_option maxRecDepth 100000 in
set_option maxHeartbeats 8000000 in
theorem shown12_calls (w : World) (hk : HasK w) : Calls Tryz.prog 4 #[] w (Ret w (.bool true)) := by
  have c1 := fun W => key_calls 5 (by decide) (by decide) W
  have c2 := fun W (hB : Below w.heap.size w W) => sign_calls 5 (by decide) (by decide) [97] (by decide) W (hk.on hB)
  have c3 := fun W (hB : Below w.heap.size w W) => sign_calls 6 (by decide) (by decide) [97] (by decide) W (hk.on hB)
  have v1 := fun W (hB : Below w.heap.size w W) => verify_calls (bytesE (timesE 5 genE)) [97] (bytesE (timesE 5 (hashE [97]))) (by decide) W (hk.on hB)
  have v2 := fun W (hB : Below w.heap.size w W) => verify_calls (bytesE (timesE 5 genE)) [97] (bytesE (timesE 6 (hashE [97]))) (by decide) W (hk.on hB)
  have v3 := fun W (hB : Below w.heap.size w W) => verify_calls (bytesE (timesE 5 genE)) [98] (bytesE (timesE 5 (hashE [97]))) (by decide) W (hk.on hB)
  rw [shown_v1] at v1
  rw [shown_v2] at v2
  rw [shown_v3] at v3
  rw [keyV_is 5 _ secret5] at c1 c2
  rw [keyV_is 6 _ secret6] at c3
  rw [show bs [97] = { data := #[97] } from rfl] at c2 c3 v1 v2
  rw [show bs [98] = { data := #[98] } from rfl] at v3
  generalize bytesE (timesE 5 genE) = K at *
  generalize bytesE (timesE 5 (hashE [97])) = S at *
  generalize bytesE (timesE 6 (hashE [97])) = T at *
  replace c1 := Lib.hid c1
  replace c2 := Lib.hid c2
  replace c3 := Lib.hid c3
  replace v1 := Lib.hid v1
  replace v2 := Lib.hid v2
  replace v3 := Lib.hid v3
  clear hk
  go_enter Tryz.func4, Tryz.ntmps4
  go_wp2_with fail
  refine (c1.out _).mono ?_
  rintro e w1 ⟨rfl, h1⟩
  have hB1 : Below w.heap.size w w1 := Below.on h1 (by repeat (first | assumption | exact Below.refl _ _ | refine Below.setCell ?_ (by first | exact Nat.le_refl _ | (simp; done) | omega | (simp; omega)) _ | refine Below.alloc ?_ (by first | exact Nat.le_refl _ | (simp; done) | omega | (simp; omega)) _ | refine below_drewN ?_ _ | refine Below.drew ?_ | refine Below.on (by assumption) ?_ | refine Below.via (by assumption) (by first | exact Nat.le_refl _ | (simp; done) | omega | (simp; omega)) ?_))
  clear h1
  go_wp2_with fail
  refine (c2.out _ hB1).mono ?_
  rintro e w2 ⟨rfl, h2⟩
  have hB2 : Below w.heap.size w w2 := Below.on h2 hB1
  clear h2 hB1
  go_wp2_with fail
  refine (c3.out _ hB2).mono ?_
  rintro e w3 ⟨rfl, h3⟩
  have hB3 : Below w.heap.size w w3 := Below.on h3 hB2
  clear h3 hB2
  go_wp2_with fail
  refine (v1.out _ hB3).mono ?_
  rintro e w4 ⟨rfl, h4⟩
  have hB4 : Below w.heap.size w w4 := Below.on h4 hB3
  clear h4 hB3
  go_wp2_with fail
  refine (v2.out _ hB4).mono ?_
  rintro e w5 ⟨rfl, h5⟩
  have hB5 : Below w.heap.size w w5 := Below.on h5 hB4
  clear h5 hB4
  go_wp2_with fail
  refine (v3.out _ hB5).mono ?_
  rintro e w6 ⟨rfl, h6⟩
  have hB6 : Below w.heap.size w w6 := Below.on h6 hB5
  clear h6 hB5
  go_wp2_with fail
  go_ret
  exact ⟨rfl, hB6⟩
end Go.Proofs.YtpmmjomejackkaaGreatDoor
