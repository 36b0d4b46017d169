/- What the statements of chapter 02 begin with; the parts joined. -/
import Derived.Test.YtpmmjomejackkaaDoorHex
set_option linter.unusedSimpArgs false
set_option linter.unusedVariables false
namespace Go.Proofs.YtpmmjomejackkaaDoor
open BigFrame Go.RowKit Go.Phx Go.Shelf
attribute [local go_sem] Oper.semAt_some

theorem strs2 (w : World) (a b : ByteArray) : Strs (w.alloc (.cells #[.string a, .string b] 9)) (some ⟨w.heap.size, 0, none⟩) [a, b] :=
  Strs.mk (by simp) fun i x hx => by
    rw [(Blk.new0 w _ _).cell, Nat.zero_add]
    match i, hx with
    | 0, hx => simp at hx; subst hx; rfl
    | 1, hx => simp at hx; subst hx; rfl
theorem cat_app (a b : List ByteArray) : cat (a ++ b) = cat a ++ cat b := by simp [cat]
theorem cat_take (xs : List ByteArray) (k : Nat) (h : k < xs.length) : cat (xs.take (k + 1)) = cat (xs.take k) ++ xs[k].data.toList := by
  rw [List.take_add_one, List.getElem?_eq_getElem h, cat_app]
  congr 1
  simp [cat]
theorem cat_take_le (xs : List ByteArray) (k : Nat) : (cat (xs.take k)).length ≤ (cat xs).length := by
  conv => rhs; rw [← List.take_append_drop k xs]
  rw [cat_app, List.length_append]
  omega
theorem cat_ab : cat [{ data := #[97] }, { data := #[98, 99] }] = [97, 98, 99] := rfl
theorem shown_hex : (hexL (sha [97, 98, 99])).take 8 = [98, 97, 55, 56, 49, 54, 98, 102] := by rw [sha_abc]; decide +kernel
set_option maxRecDepth 100000 in
set_option maxHeartbeats 2000000 in
theorem shown_calls (w : World) (hk : HasK w) : Calls Tryd.prog 22 #[] w (Ret w (.bool true)) := by
  have hsl : (sha [97, 98, 99]).length = 32 := sha_len _
  have HH := Lib.hid shown_hex
  have hhl : (hexL (sha [97, 98, 99])).length = 64 := by rw [hexL_len, hsl]
  have hk1 := fun W (hB : Below w.heap.size w W) => hk.on hB
  replace hk1 := Lib.hid hk1
  clear hk
  go_enter Tryd.func22, Tryd.ntmps22
  go_wp2_with fail
  refine (sum_calls _ _ [{ data := #[97] }, { data := #[98, 99] }] _ (hk1.out _ (by repeat (first | assumption | exact Below.refl _ _ | refine Below.setCell ?_ (by first | exact Nat.le_refl _ | (simp; done) | omega | (simp; omega)) _ | refine Below.alloc ?_ (by first | exact Nat.le_refl _ | (simp; done) | omega | (simp; omega)) _ | refine below_drewN ?_ _ | refine Below.drew ?_ | refine Below.on (by assumption) ?_ | refine Below.via (by assumption) (by first | exact Nat.le_refl _ | (simp; done) | omega | (simp; omega)) ?_))) (strs2 w _ _) (by simp) (by simp) (by rw [cat_ab]; simp)).mono ?_
  rintro e w1 ⟨rfl, h1⟩
  rw [cat_ab]
  obtain ⟨s, hs⟩ : ∃ s, sha [97, 98, 99] = s := ⟨_, rfl⟩
  rw [hs] at hsl HH hhl ⊢
  have HS := Lib.hid hs
  clear hs
  go_wp2_with fail
  refine (hex_calls s (by omega) _).mono ?_
  rintro e w2 ⟨rfl, h2⟩
  have hB2 : Below w.heap.size w w2 := Below.on h2 (Below.on h1 (by repeat (first | assumption | exact Below.refl _ _ | refine Below.setCell ?_ (by first | exact Nat.le_refl _ | (simp; done) | omega | (simp; omega)) _ | refine Below.alloc ?_ (by first | exact Nat.le_refl _ | (simp; done) | omega | (simp; omega)) _ | refine below_drewN ?_ _ | refine Below.drew ?_ | refine Below.on (by assumption) ?_ | refine Below.via (by assumption) (by first | exact Nat.le_refl _ | (simp; done) | omega | (simp; omega)) ?_)))
  have hz2 := hB2.size
  clear h1 h2
  go_wp2_with fail
  refine (sum_calls _ _ [{ data := #[97] }, { data := #[98, 99] }] _ (hk1.out _ (by repeat (first | assumption | exact Below.refl _ _ | refine Below.setCell ?_ (by first | exact Nat.le_refl _ | (simp; done) | omega | (simp; omega)) _ | refine Below.alloc ?_ (by first | exact Nat.le_refl _ | (simp; done) | omega | (simp; omega)) _ | refine below_drewN ?_ _ | refine Below.drew ?_ | refine Below.on (by assumption) ?_ | refine Below.via (by assumption) (by first | exact Nat.le_refl _ | (simp; done) | omega | (simp; omega)) ?_))) (strs2 w2 _ _) (by simp) (by simp) (by rw [cat_ab]; simp)).mono ?_
  rintro e w3 ⟨rfl, h1⟩
  rw [cat_ab, show sha [97, 98, 99] = s from HS.out]
  go_wp2_with fail
  refine (hex_calls s (by omega) _).mono ?_
  rintro e w4 ⟨rfl, h2⟩
  have hB4 : Below w.heap.size w w4 := Below.on h2 (Below.on h1 (by repeat (first | assumption | exact Below.refl _ _ | refine Below.setCell ?_ (by first | exact Nat.le_refl _ | (simp; done) | omega | (simp; omega)) _ | refine Below.alloc ?_ (by first | exact Nat.le_refl _ | (simp; done) | omega | (simp; omega)) _ | refine below_drewN ?_ _ | refine Below.drew ?_ | refine Below.on (by assumption) ?_ | refine Below.via (by assumption) (by first | exact Nat.le_refl _ | (simp; done) | omega | (simp; omega)) ?_)))
  clear h1 h2 hB2
  obtain ⟨q, hq⟩ : ∃ q, hexL s = q := ⟨_, rfl⟩
  rw [hq] at HH hhl ⊢
  clear hq
  go_wp2_with fail
  go_ret
  exact ⟨by show Ending.returned (.bool (q.take (min (8 : Int) 64).toNat == _)) = _; rw [show q.take (min (8 : Int) 64).toNat = _ from HH.out]; rfl, hB4⟩
set_option maxRecDepth 100000 in
set_option maxHeartbeats 2000000 in
theorem joined_calls (A : Option Addr) (c : Nat) (xs : List ByteArray) (w : World) (hs : Strs w A xs) (hn : xs.length ≤ 100) (hlen : (cat xs).length ≤ 100000000000000) :
    Calls Tryd.prog 23 #[.slice A xs.length c] w (Ret w (.string (bs (cat xs)))) := by
  go_enter Tryd.func23, Tryd.ntmps23
  go_wp2_with fail
  go_loop [3, 4] (fun v i => ∃ k : Nat, k ≤ xs.length ∧ i = .int .i64 k ∧ v = .string (bs (cat (xs.take k)))) (fun _ i => (xs.length - intOf i).toNat)
  case atStart => exact ⟨0, by omega, rfl, rfl⟩
  case round =>
    obtain ⟨k, hk, rfl, rfl⟩ := hrel
    by_cases hlt : k < xs.length
    · obtain ⟨b, o, rfl, hb, hcell⟩ := hs (by omega)
      have hc := hcell k xs[k] (List.getElem?_eq_getElem hlt)
      have ht := cat_take xs k hlt
      have hl1 := cat_take_le xs (k + 1)
      rw [ht, List.length_append] at hl1
      have HT := Lib.hid ht
      clear ht hcell
      rw [← bs_of xs[k]] at hc
      generalize xs[k].data.toList = x at *
      generalize cat (xs.take k) = q at *
      go_wp2_with fail
      go_round
      case rel => exact ⟨k + 1, by omega, by go_num, by rw [HT.out]⟩
      case measure => simp [intOf]; omega
    · obtain rfl : k = xs.length := by omega
      rw [List.take_of_length_le (Nat.le_refl _)]
      go_wp2_with fail
      go_ret
      exact ⟨rfl, Below.refl _ _⟩
end Go.Proofs.YtpmmjomejackkaaDoor
