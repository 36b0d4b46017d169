/- A number's chunk, by the program. -/
import Derived.Test.YtpmmjomejackkaaDoorSszC
set_option linter.unusedSimpArgs false
set_option linter.unusedVariables false
namespace Go.Proofs.YtpmmjomejackkaaDoor
open BigFrame Go.RowKit Go.Phx Go.Shelf
attribute [local go_sem] Oper.semAt_some

/-- a number's chunk -/
def numP (n : Nat) : Bytes := (List.range 8).map (fun i => UInt8.ofNat (n / 2 ^ (8 * i))) ++ List.replicate 24 0
theorem numP_len (n : Nat) : (numP n).length = 32 := by simp [numP]
theorem numP_at (n k : Nat) (hk : k < 8) : (n : Int) / 2 ^ (8 * k) % 256 = (((numP n).getD k 0).toNat : Int) := by
  have e : (numP n).getD k 0 = UInt8.ofNat (n / 2 ^ (8 * k)) := by
    unfold numP
    rw [List.getD, List.getElem?_append_left (by simp; omega), List.getElem?_map, List.getElem?_range hk]
    rfl
  have e2 : (n : Int) / 2 ^ (8 * k) = ((n / 2 ^ (8 * k) : Nat) : Int) := by simp
  rw [e, e2]
  simp
theorem num_cells (n : Nat) : bcells 32 (numP n) 8 = bcells 32 (numP n) 32 := by
  unfold bcells numP
  simp [List.take_append]
  rw [List.take_of_length_le (by simp)]
set_option maxRecDepth 100000 in
set_option maxHeartbeats 2000000 in
theorem number_calls (n : Nat) (hn : n < 18446744073709551616) (w : World) : Calls Tryd.prog 45 #[.int .u64 n] w (Ret w (.string (bs (numP n)))) := by
  go_enter Tryd.func45, Tryd.ntmps45
  go_wp2_with fail
  have K0 := Lib.hid (Blk.new0 w 70 (bcells 32 (numP n) 0))
  have hB0 : Below w.heap.size w (w.alloc (.cells (bcells 32 (numP n) 0) 70)) := (Below.refl _ _).alloc (Nat.le_refl _) _
  go_loopw [5] (fun i wr => ∃ k : Nat, k ≤ 8 ∧ i = .int .i64 k ∧ Blk wr w.heap.size 70 (bcells 32 (numP n) k) ∧ Below w.heap.size w wr) (fun i _ => (8 - intOf i).toNat)
  case atStart => exact ⟨0, by omega, rfl, K0.out, hB0⟩
  case round =>
    clear K0 hB0
    obtain ⟨k, hk, rfl, K0, hB⟩ := hrel
    by_cases hlt : k < 8
    · have hx := numP_at n k hlt
      have hset := bcells_set 32 (numP n) k (by omega) (numP_len n) _ hx
      have HS := Lib.hid hset
      clear hset hx
      replace K0 := Lib.hid K0
      (have k0 := Blk.cell K0.out; have f0 := Blk.free K0.out; have l0 := Blk.lt K0.out; have m0 := Nat.le_of_lt l0)
      have gk := bcells_at 32 (numP n) k (by omega) (numP_len n)
      go_wp2_with fail
      exact ⟨⟨k + 1, by omega, by go_num, by rw [← HS.out]; exact K0.out.set_ _ _, hB.setCell (by simp) _⟩, by simp [intOf]; omega⟩
    · obtain rfl : k = 8 := by omega
      rw [num_cells, bcells_all 32 (numP n) (numP_len n)] at K0
      have hcv := fun c => conv_row wr w.heap.size _ (numP n) 32 c K0 (numP_len n)
      replace K0 := Lib.hid K0
      simp only [show ((8 : Nat) : Int) = 8 from rfl]
      go_wp2_with fail
      go_ret
      exact ⟨rfl, hB⟩
set_option maxRecDepth 100000 in
/-- a root with a length, by the program -/
theorem mix_calls (r : Bytes) (hr : r.length ≤ 9223372036854775807) (n : Nat) (hn : n < 18446744073709551616) (w : World) (hk : HasK w) :
    Calls Tryd.prog 42 #[.string (bs r), .int .u64 n] w (Ret w (if r.length = 32 then .tuple #[.string (bs (sha (r ++ numP n))), .int .i64 0] else .tuple #[.string { data := #[] }, .int .i64 80])) := by
  have hl := numP_len n
  by_cases h : r.length = 32
  · rw [if_pos h]
    go_enter Tryd.func42, Tryd.ntmps42
    go_wp2_with fail
    refine (isChunk_calls r hr _).mono ?_
    rintro e w1 ⟨rfl, h1⟩
    go_wp2_with fail
    refine (number_calls n hn _).mono ?_
    rintro e w2 ⟨rfl, h2⟩
    have h12 := Below.on h2 h1
    go_wp2_with fail
    refine (sum2_calls r (numP n) (by omega) (by omega) _ _ (by exact hk.on (h12.alloc h12.size _)) (by exact strs2 w2 _ _)).mono ?_
    rintro e w3 ⟨rfl, h3⟩
    go_wp2_with fail
    go_ret2
    exact ⟨rfl, Below.on h3 (h12.alloc h12.size _)⟩
  · rw [if_neg h]
    go_enter Tryd.func42, Tryd.ntmps42
    go_wp2_with fail
    refine (isChunk_calls r hr _).mono ?_
    rintro e w1 ⟨rfl, h1⟩
    go_wp2_with fail
    go_ret2
    exact ⟨rfl, h1⟩
end Go.Proofs.YtpmmjomejackkaaDoor
