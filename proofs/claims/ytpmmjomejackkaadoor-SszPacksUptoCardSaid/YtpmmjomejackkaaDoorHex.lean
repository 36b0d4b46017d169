/- Bytes as digits, by the program and by the reference. -/
import Derived.Test.YtpmmjomejackkaaDoorSha10
import Derived.Test.YtpmmjomejackkaaDoorBld
set_option linter.unusedSimpArgs false
set_option linter.unusedVariables false
namespace Go.Proofs.YtpmmjomejackkaaDoor
open BigFrame Go.RowKit Go.Phx Go.Shelf
attribute [local go_sem] Oper.semAt_some

def digs : List UInt8 := [48, 49, 50, 51, 52, 53, 54, 55, 56, 57, 97, 98, 99, 100, 101, 102]
def dig (d : Nat) : UInt8 := digs.getD d 0
/-- bytes of the call's own as a text, none too -/
theorem conv_owned (W : World) {base : Nat} {v : Value} {L : List UInt8} (h : W.ownsRow base 5 1 v L.length (L.map bv)) :
    ∃ A c, v = .slice A L.length c ∧ (convert 39 9 (.slice A L.length c)).run Tryd.prog W = .ok (.string (bs L)) W := by
  rcases h.2 with ⟨rfl, h0⟩ | ⟨g, cap, cur, rfl, _⟩
  · obtain rfl := List.eq_nil_of_length_eq_zero h0
    exact ⟨none, 0, rfl, run_convert_bytes_nil W _ _ (show Tryd.prog.underlying 39 = some (.slice 5) by kernel_rfl) (show Tryd.prog.underlying 5 = some (.int .u8) by kernel_rfl) 0 0 _ (show Tryd.prog.underlying 9 = some .string by kernel_rfl)⟩
  · exact ⟨some ⟨g, 0, none⟩, cap, rfl, conv_cells W g L L.length cap rfl (own_cells h)⟩
theorem news2 (W : World) (t : TypeId) (a b : Value) : ∀ j u, [a, b][j]? = some u → (W.alloc (.cells #[a, b] t)).drew.cell? ((⟨W.heap.size, 0, none⟩ : Addr).add j) = some u := by
  intro j u hu
  have hK := (Blk.new0 W t #[a, b]).drew
  rw [Addr.add_mid, hK.cell, Nat.zero_add]
  simpa using hu
/-- bytes as digits -/
def hexL (l : List UInt8) : List UInt8 := l.flatMap fun c => [dig (c.toNat / 16), dig (c.toNat % 16)]
theorem hexL_len (l : List UInt8) : (hexL l).length = 2 * l.length := by
  induction l with
  | nil => rfl
  | cons c l ih => simp [hexL] at ih ⊢; omega
theorem hexL_app (a b : List UInt8) : hexL (a ++ b) = hexL a ++ hexL b := by simp [hexL]
theorem hexL_take (l : List UInt8) (k : Nat) (h : k < l.length) : hexL (l.take (k + 1)) = hexL (l.take k) ++ [dig ((l.getD k 0).toNat / 16), dig ((l.getD k 0).toNat % 16)] := by
  rw [List.take_add_one, List.getElem?_eq_getElem h, hexL_app, List.getD, List.getElem?_eq_getElem h]
  rfl
theorem and15' : ∀ n : Nat, n < 256 → bits .and .u8 (n : Int) 15 = ((n % 16 : Nat) : Int) := by decide +kernel
theorem and15 (c : UInt8) : bits .and .u8 (c.toNat : Int) 15 = ((c.toNat % 16 : Nat) : Int) := and15' _ c.toNat_lt
theorem index_bs (l : List UInt8) (k : Nat) (hk : k < l.length) (h63 : l.length ≤ 9223372036854775807) (w : World) : (Instr.index 9 (.string (bs l)) (.int .i64 (k : Int))).run Tryd.prog w = .ok (.int .u8 ((l.getD k 0).toNat : Int)) w := by
  have := index_at (bs l) k (by rw [bs_size]; exact hk) (by rw [bs_size]; exact h63) w
  rw [vw_bw] at this
  exact this
@[go_sem] theorem dig_get : ∀ (d : Nat) (h : d < (ByteArray.mk #[48, 49, 50, 51, 52, 53, 54, 55, 56, 57, 97, 98, 99, 100, 101, 102]).size), (ByteArray.mk #[48, 49, 50, 51, 52, 53, 54, 55, 56, 57, 97, 98, 99, 100, 101, 102])[d]'h = dig d
  | 0, _ => rfl
  | 1, _ => rfl
  | 2, _ => rfl
  | 3, _ => rfl
  | 4, _ => rfl
  | 5, _ => rfl
  | 6, _ => rfl
  | 7, _ => rfl
  | 8, _ => rfl
  | 9, _ => rfl
  | 10, _ => rfl
  | 11, _ => rfl
  | 12, _ => rfl
  | 13, _ => rfl
  | 14, _ => rfl
  | 15, _ => rfl
  | d + 16, h => absurd h (by simp [ByteArray.size])
set_option maxRecDepth 100000 in
set_option maxHeartbeats 2000000 in
theorem hex_calls (l : List UInt8) (hl : l.length ≤ 70000000000000) (w : World) : Calls Tryd.prog 28 #[.string (bs l)] w (Ret w (.string (bs (hexL l)))) := by
  go_enter Tryd.func28, Tryd.ntmps28
  go_wp2_with fail
  go_loopw [7] (fun i wr => ∃ k : Nat, k ≤ l.length ∧ i = .int .i64 k ∧ BldAt w.heap.size w.heap.size (hexL (l.take k)) wr ∧ Below w.heap.size w wr) (fun i _ => (l.length - intOf i).toNat)
  case atStart => exact ⟨0, by omega, rfl, bld_new _ (.bool true), (by repeat (first | assumption | exact Below.refl _ _ | refine Below.setCell ?_ (by first | exact Nat.le_refl _ | (simp; done) | omega | (simp; omega)) _ | refine Below.alloc ?_ (by first | exact Nat.le_refl _ | (simp; done) | omega | (simp; omega)) _ | refine below_drewN ?_ _ | refine Below.drew ?_ | refine Below.on (by assumption) ?_ | refine Below.via (by assumption) (by first | exact Nat.le_refl _ | (simp; done) | omega | (simp; omega)) ?_))⟩
  case round =>
    obtain ⟨k, hk, rfl, HB0, HB⟩ := hrel
    by_cases hlt : k < l.length
    · have hix := fun W => index_bs l k hlt (by omega) W
      have HT := Lib.hid (hexL_take l k hlt)
      have hql : (hexL (l.take k)).length ≤ 140000000000000 := by rw [hexL_len]; simp; omega
      generalize l.getD k 0 = c at *
      generalize hexL (l.take k) = q at *
      have hc := c.toNat_lt
      have d1 : (0 : Int) ≤ (c.toNat : Int) / 16 := by omega
      have d2 : (c.toNat : Int) / 16 < 16 := by omega
      have d3 : c.toNat % 16 < 16 := by omega
      have a1 := and15 c
      clear hc
      replace HB0 := Lib.hid HB0
      go_wp2_with fail
      refine (write_byte _ _ q (dig (c.toNat / 16)) _ HB0.out (by omega) HB.size).mono ?_
      rintro e w1 ⟨rfl, h1, hB1⟩
      clear HB0
      replace h1 := Lib.hid h1
      go_wp2_with fail
      refine (write_byte _ _ (q ++ [dig (c.toNat / 16)]) (dig (c.toNat % 16)) _ h1.out (by simp; omega) (HB.trans hB1).size).mono ?_
      rintro e w2 ⟨rfl, h2, hB2⟩
      clear h1
      replace h2 := Lib.hid h2
      have hb3 := (HB.trans hB1).trans hB2
      clear hix a1 d1 d2
      go_wp2_with fail
      go_roundw
      case rel => exact ⟨k + 1, by omega, by go_num, by rw [HT.out]; have := h2.out; simpa using this, hb3⟩
      case measure => simp [intOf]; omega
    · obtain rfl : k = l.length := by omega
      rw [List.take_of_length_le (Nat.le_refl _)] at HB0
      replace HB0 := Lib.hid HB0
      go_wp2_with fail
      refine (bld_string _ _ _ _ HB0.out HB.size).mono ?_
      rintro e w2 ⟨rfl, hB2⟩
      go_wp2_with fail
      go_ret
      exact ⟨rfl, HB.trans hB2⟩

set_option maxRecDepth 100000 in
set_option maxHeartbeats 2000000 in
theorem rhex_calls (l : List UInt8) (hl : l.length ≤ 70000000000000) (w : World) : Calls Tryd.prog 29 #[.string (bs l)] w (Ret w (.string (bs (hexL l)))) := by
  obtain ⟨i0, hi, hz0, hz1, hz2⟩ := info_parts infoU8
  go_enter Tryd.func29, Tryd.ntmps29
  go_wp2_with fail
  go_loopw [4, 5] (fun v i wr => ∃ k : Nat, k ≤ l.length ∧ i = .int .i64 k ∧ wr.ownsRow w.heap.size 5 1 v (2 * k) ((hexL (l.take k)).map bv) ∧ Below w.heap.size w wr) (fun _ i _ => (l.length - intOf i).toNat)
  case atStart => exact ⟨0, by omega, rfl, World.ownsRow_nil _ _ _ _, (by repeat (first | assumption | exact Below.refl _ _ | refine Below.setCell ?_ (by first | exact Nat.le_refl _ | (simp; done) | omega | (simp; omega)) _ | refine Below.alloc ?_ (by first | exact Nat.le_refl _ | (simp; done) | omega | (simp; omega)) _ | refine below_drewN ?_ _ | refine Below.drew ?_ | refine Below.on (by assumption) ?_ | refine Below.via (by assumption) (by first | exact Nat.le_refl _ | (simp; done) | omega | (simp; omega)) ?_))⟩
  case round =>
    obtain ⟨k, hk, rfl, OWN, HB⟩ := hrel
    by_cases hlt : k < l.length
    · have hix := fun W => index_bs l k hlt (by omega) W
      have HT := Lib.hid (hexL_take l k hlt)
      have hql : (hexL (l.take k)).length ≤ 140000000000000 := by rw [hexL_len]; simp; omega
      generalize l.getD k 0 = c at *
      generalize hexL (l.take k) = q at *
      have hc := c.toNat_lt
      have d1 : (0 : Int) ≤ (c.toNat : Int) / 16 := by omega
      have d2 : (c.toNat : Int) / 16 < 16 := by omega
      have d3 : c.toNat % 16 < 16 := by omega
      have d4 : (0 : Int) ≤ (c.toNat : Int) % 16 := by omega
      have d5 : (c.toNat : Int) % 16 < 16 := by omega
      have n1 : ((c.toNat : Int) / 16).toNat = c.toNat / 16 := by omega
      have n2 : ((c.toNat : Int) % 16).toNat = c.toNat % 16 := by omega
      have a1 := and15 c
      clear hc
      replace OWN := Lib.hid OWN
      go_wp2_with fail
      go_region_held3 (fun w' => True) (exact trivial) ((refine step_append_lies _ (by rfl) _ _ _ (by rfl) w.heap.size 5 i0 (.int .u8 0) 1 1 Tryd.underlying39 hi hz0 hz1 hz2 (by rfl) (by omega) _ (2 * k) (q.map bv) (by rfl) (OWN.out.alloc _).drew ⟨_, 0, none⟩ 2 2 _ (by rfl) (by rfl) (news2 _ _ _ _) (by simp [Value.oneCell']) (by omega) (by unfold maxLen; omega) (by omega) (by have := HB.size; simp; omega) (wr.heap.size + 1) (by simp) ?_; intro g2 cap2 w2 hown2 hgrow2 hat2 hlt2))
      all_goals
        (try simp only [n1, n2] at hown2)
        (try simp only [n1, n2] at hgrow2)
        have hown3 := Lib.hid (show w2.ownsRow w.heap.size 5 1 (.slice (some ⟨g2, 0, none⟩) (2 * k + 2) cap2) (2 * (k + 1)) ((hexL (l.take (k + 1))).map bv) from by
          rw [HT.out, List.map_append]
          exact hown2)
        have HB2 := ((HB.alloc HB.size _).drew).grown hgrow2 (by have := HB.size; simp; omega) (fun j e => (OWN.out.lt _ e).1)
        clear hown2 hgrow2 hat2 hix a1 d1 d2 d4 d5 n1 n2
        go_wp2_with fail
        go_roundw
        case rel => exact ⟨k + 1, by omega, by go_num, hown3.out, HB2⟩
        case measure => simp [intOf]; omega
    · obtain rfl : k = l.length := by omega
      rw [List.take_of_length_le (Nat.le_refl _)] at OWN
      rw [← hexL_len] at OWN
      obtain ⟨A, cap, rfl, hcv⟩ := conv_owned wr OWN
      go_wp2_with fail
      go_ret
      exact ⟨rfl, HB⟩
end Go.Proofs.YtpmmjomejackkaaDoor
