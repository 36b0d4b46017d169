/- Points as bytes, by the curve's package and by the reference. Any points. -/
import Derived.Test.YtpmmjomejackkaaCrv13
set_option linter.unusedSimpArgs false
set_option linter.unusedVariables false
namespace Go.Proofs.Ytpmmjomejackkaa
open BigFrame Go.RowKit Go.Phx Go.Shelf
attribute [local go_sem] Oper.semAt_some fldInf

/-- a text's value -/
abbrev vs (l : List UInt8) : Value := .string ⟨l.toArray⟩
/-- a point's bytes -/
noncomputable def bytesE : E → List UInt8
  | none => [0, 0, 0, 0, 0]
  | some (x, y) => [UInt8.ofNat (2 + y.val % 2), UInt8.ofNat (x.val / 16777216), UInt8.ofNat (x.val / 65536), UInt8.ofNat (x.val / 256), UInt8.ofNat x.val]

theorem ofNat_mod (n : Nat) : UInt8.ofNat (n % 256) = UInt8.ofNat n := by
  apply UInt8.toNat_inj.1
  simp
theorem byte_at (x : F) (k : Nat) : UInt8.ofNat (vz x / (k : Int) % 256).toNat = UInt8.ofNat (x.val / k) := by
  unfold vz
  rw [show ((x.val : Int) / (k : Int) % 256).toNat = x.val / k % 256 from by
    rw [← Int.natCast_ediv]
    show (((x.val / k : Nat) : Int) % ((256 : Nat) : Int)).toNat = _
    rw [← Int.natCast_emod, Int.toNat_natCast]]
  exact ofNat_mod _
theorem byte_low (x : F) : UInt8.ofNat (vz x % 256).toNat = UInt8.ofNat x.val := by
  have := byte_at x 1
  simpa using this
theorem byte_top (x : F) : UInt8.ofNat (vz x / 16777216).toNat = UInt8.ofNat (x.val / 16777216) := by
  unfold vz
  congr 1
theorem bits_and1 (y : F) : bits .and .u64 (vz y) 1 = vz y % 2 := by
  have h := vz_lt y
  have h0 := vz_nonneg y
  rw [u64_and (vz y) 1 h0 (by omega) (by decide) (by decide)]
  show ((((vz y).toNat &&& 1 : Nat)) : Int) = _
  rw [nat_mask1]
  omega
theorem bits_or2 (n : Int) (h : n = 0 ∨ n = 1) : bits .or .u64 2 n = 2 + n := by
  rcases h with rfl | rfl <;> decide
theorem byte_sign (y : F) : UInt8.ofNat (bits .or .u64 2 (bits .and .u64 (vz y) 1) % 256).toNat = UInt8.ofNat (2 + y.val % 2) := by
  rw [bits_and1, bits_or2 _ (by omega)]
  congr 1
  unfold vz
  omega
theorem byte_sum (y : F) : UInt8.ofNat (2 + vz y % 2).toNat = UInt8.ofNat (2 + y.val % 2) := by
  rw [show (2 + vz y % 2).toNat = 2 + y.val % 2 from by unfold vz; omega]
theorem conv5 (W : World) (t : TypeId) (a b c d e : Int) (k : Nat) : (convert 68 9 (.slice (some ⟨W.heap.size, 0, none⟩) 5 k)).run Try.prog (W.alloc (.cells #[.int .u8 a, .int .u8 b, .int .u8 c, .int .u8 d, .int .u8 e] t)) =
    .ok (.string ⟨#[UInt8.ofNat a.toNat, UInt8.ofNat b.toNat, UInt8.ofNat c.toNat, UInt8.ofNat d.toNat, UInt8.ofNat e.toNat]⟩) (W.alloc (.cells #[.int .u8 a, .int .u8 b, .int .u8 c, .int .u8 d, .int .u8 e] t)) := by
  have hs : Try.prog.underlying 68 = some (.slice 5) := by kernel_rfl
  have he : Try.prog.underlying 5 = some (.int .u8) := by kernel_rfl
  have hd : Try.prog.underlying 9 = some .string := by kernel_rfl
  exact run_convert_bytes_arg _ _ _ hs he W.heap.size 0 5 k [a, b, c, d, e] rfl (fun i hi => by
    have hK := Blk.new0 W t #[.int .u8 a, .int .u8 b, .int .u8 c, .int .u8 d, .int .u8 e]
    rw [hK.cell]
    rcases i with _ | _ | _ | _ | _ | i
    · rfl
    · rfl
    · rfl
    · rfl
    · rfl
    · omega) _ hd
attribute [local go_sem] conv5

set_option maxRecDepth 100000 in
set_option maxHeartbeats 2000000 in
theorem bytes_bad (x y : Int) (i : Bool) (hx : 0 ≤ x) (hy : 0 ≤ y) (h : inR x y i = false) (w : World) :
    Calls Try.prog 50 #[.agg #[.int .u64 x, .int .u64 y, .bool i]] w (Ret w (.tuple #[vs [], .int .i64 100])) := by
  have n1 := in_of x y i hx hy
  rw [h] at n1
  clear h
  go_enter Try.func50, Try.ntmps50
  go_wp2_with fail
  refine (n1 _).mono ?_
  rintro e w1 ⟨rfl, hB⟩
  (have HBn : Below w.heap.size w w1 := Below.on hB (by repeat (first | assumption | exact Below.refl _ _ | refine Below.setCell ?_ (by first | exact Nat.le_refl _ | (simp; done) | omega | (simp; omega)) _ | refine Below.alloc ?_ (by first | exact Nat.le_refl _ | (simp; done) | omega | (simp; omega)) _ | refine below_drewN ?_ _ | refine Below.drew ?_ | refine Below.on (by assumption) ?_ | refine Below.via (by assumption) (by first | exact Nat.le_refl _ | (simp; done) | omega | (simp; omega)) ?_)); have N0 := Lib.hid (Blk.below (g := w.heap.size) (by repeat (first | with_reducible exact Blk.new0 _ _ _ | with_reducible exact Blk.new1 _ _ _ _ | with_reducible exact Blk.new2 _ _ _ _ _ | with_reducible exact Blk.new3 _ _ _ _ _ _ | with_reducible exact Blk.new4 _ _ _ _ _ _ _ | with_reducible apply Blk.set_ | with_reducible apply Blk.alloc | with_reducible apply Blk.drewN | with_reducible apply Blk.drew | (with_reducible apply Blk.over; first | (intro h; omega) | (simp; done) | (simp; omega)))) hB); (try simp only [List.setIfInBounds_toArray, List.set_cons_succ, List.set_cons_zero] at N0); (try clear HB); clear hB; have HB := HBn; clear HBn; have HZw1 := HB.size; have K0 := N0; clear N0; have k0 := Blk.cell K0.out; have f0 := Blk.free K0.out; have l0 := Blk.lt K0.out; have m0 := Nat.le_of_lt l0)
  go_wp2_with fail
  go_ret2
  exact ⟨rfl, HB⟩
set_option maxRecDepth 100000 in
set_option maxHeartbeats 2000000 in
theorem bytes_some (x y : F) (h : inG (some (x, y)) = true) (w : World) :
    Calls Try.prog 50 #[.agg #[.int .u64 (vz x), .int .u64 (vz y), .bool false]] w (Ret w (.tuple #[vs (bytesE (some (x, y))), .int .i64 0])) := by
  have n1 := in_good (some (x, y)) (inG_on h)
  rw [h] at n1
  change ∀ w, Calls _ _ #[.agg #[.int .u64 (vz x), .int .u64 (vz y), .bool false]] w _ at n1
  have b1 := vz_nonneg x
  have b2 := vz_lt x
  have b3 := vz_nonneg y
  have b4 := vz_lt y
  clear h
  go_enter Try.func50, Try.ntmps50
  go_wp2_with fail
  refine (n1 _).mono ?_
  rintro e w1 ⟨rfl, hB⟩
  (have HBn : Below w.heap.size w w1 := Below.on hB (by repeat (first | assumption | exact Below.refl _ _ | refine Below.setCell ?_ (by first | exact Nat.le_refl _ | (simp; done) | omega | (simp; omega)) _ | refine Below.alloc ?_ (by first | exact Nat.le_refl _ | (simp; done) | omega | (simp; omega)) _ | refine below_drewN ?_ _ | refine Below.drew ?_ | refine Below.on (by assumption) ?_ | refine Below.via (by assumption) (by first | exact Nat.le_refl _ | (simp; done) | omega | (simp; omega)) ?_)); have N0 := Lib.hid (Blk.below (g := w.heap.size) (by repeat (first | with_reducible exact Blk.new0 _ _ _ | with_reducible exact Blk.new1 _ _ _ _ | with_reducible exact Blk.new2 _ _ _ _ _ | with_reducible exact Blk.new3 _ _ _ _ _ _ | with_reducible exact Blk.new4 _ _ _ _ _ _ _ | with_reducible apply Blk.set_ | with_reducible apply Blk.alloc | with_reducible apply Blk.drewN | with_reducible apply Blk.drew | (with_reducible apply Blk.over; first | (intro h; omega) | (simp; done) | (simp; omega)))) hB); (try simp only [List.setIfInBounds_toArray, List.set_cons_succ, List.set_cons_zero] at N0); (try clear HB); clear hB; have HB := HBn; clear HBn; have HZw1 := HB.size; have K0 := N0; clear N0; have k0 := Blk.cell K0.out; have f0 := Blk.free K0.out; have l0 := Blk.lt K0.out; have m0 := Nat.le_of_lt l0)
  go_wp2_with fail
  refine wp_loop_rounds 5 ?_
  iterate 5 (rw [rounds_succ]; go_wp2_with fail)
  go_ret2
  refine ⟨?_, (by repeat (first | assumption | exact Below.refl _ _ | refine Below.setCell ?_ (by first | exact Nat.le_refl _ | (simp; done) | omega | (simp; omega)) _ | refine Below.alloc ?_ (by first | exact Nat.le_refl _ | (simp; done) | omega | (simp; omega)) _ | refine below_drewN ?_ _ | refine Below.drew ?_ | refine Below.on (by assumption) ?_ | refine Below.via (by assumption) (by first | exact Nat.le_refl _ | (simp; done) | omega | (simp; omega)) ?_))⟩
  simp only [byte_sign, byte_top, byte_low]
  rw [show vz x / 65536 = vz x / ((65536 : Nat) : Int) from rfl, show vz x / 256 = vz x / ((256 : Nat) : Int) from rfl, byte_at, byte_at]
  rfl
set_option maxRecDepth 100000 in
set_option maxHeartbeats 2000000 in
theorem bytes_none (w : World) :
    Calls Try.prog 50 #[.agg #[.int .u64 0, .int .u64 0, .bool true]] w (Ret w (.tuple #[vs (bytesE none), .int .i64 0])) := by
  have n1 := in_good none rfl
  rw [inG_none] at n1
  change ∀ w, Calls _ _ #[.agg #[.int .u64 0, .int .u64 0, .bool true]] w _ at n1
  go_enter Try.func50, Try.ntmps50
  go_wp2_with fail
  refine (n1 _).mono ?_
  rintro e w1 ⟨rfl, hB⟩
  (have HBn : Below w.heap.size w w1 := Below.on hB (by repeat (first | assumption | exact Below.refl _ _ | refine Below.setCell ?_ (by first | exact Nat.le_refl _ | (simp; done) | omega | (simp; omega)) _ | refine Below.alloc ?_ (by first | exact Nat.le_refl _ | (simp; done) | omega | (simp; omega)) _ | refine below_drewN ?_ _ | refine Below.drew ?_ | refine Below.on (by assumption) ?_ | refine Below.via (by assumption) (by first | exact Nat.le_refl _ | (simp; done) | omega | (simp; omega)) ?_)); have N0 := Lib.hid (Blk.below (g := w.heap.size) (by repeat (first | with_reducible exact Blk.new0 _ _ _ | with_reducible exact Blk.new1 _ _ _ _ | with_reducible exact Blk.new2 _ _ _ _ _ | with_reducible exact Blk.new3 _ _ _ _ _ _ | with_reducible exact Blk.new4 _ _ _ _ _ _ _ | with_reducible apply Blk.set_ | with_reducible apply Blk.alloc | with_reducible apply Blk.drewN | with_reducible apply Blk.drew | (with_reducible apply Blk.over; first | (intro h; omega) | (simp; done) | (simp; omega)))) hB); (try simp only [List.setIfInBounds_toArray, List.set_cons_succ, List.set_cons_zero] at N0); (try clear HB); clear hB; have HB := HBn; clear HBn; have HZw1 := HB.size; have K0 := N0; clear N0; have k0 := Blk.cell K0.out; have f0 := Blk.free K0.out; have l0 := Blk.lt K0.out; have m0 := Nat.le_of_lt l0)
  go_wp2_with fail
  refine wp_loop_rounds 5 ?_
  iterate 5 (rw [rounds_succ]; go_wp2_with fail)
  go_ret2
  exact ⟨rfl, (by repeat (first | assumption | exact Below.refl _ _ | refine Below.setCell ?_ (by first | exact Nat.le_refl _ | (simp; done) | omega | (simp; omega)) _ | refine Below.alloc ?_ (by first | exact Nat.le_refl _ | (simp; done) | omega | (simp; omega)) _ | refine below_drewN ?_ _ | refine Below.drew ?_ | refine Below.on (by assumption) ?_ | refine Below.via (by assumption) (by first | exact Nat.le_refl _ | (simp; done) | omega | (simp; omega)) ?_))⟩
theorem bytes_good {p : E} (h : inG p = true) (w : World) :
    Calls Try.prog 50 #[.agg #[.int .u64 (px p), .int .u64 (py p), .bool (pf p)]] w (Ret w (.tuple #[vs (bytesE p), .int .i64 0])) := by
  rcases p with _ | ⟨x, y⟩
  · exact bytes_none w
  · exact bytes_some x y h w

set_option maxRecDepth 100000 in
set_option maxHeartbeats 2000000 in
theorem rbytes_bad (x y : Int) (i : Bool) (hx : 0 ≤ x) (hy : 0 ≤ y) (h : inR x y i = false) (w : World) :
    Calls Try.prog 51 #[.agg #[.int .u64 x, .int .u64 y, .bool i]] w (Ret w (.tuple #[vs [], .int .i64 100])) := by
  have n1 := rin_of x y i hx hy
  rw [h] at n1
  clear h
  go_enter Try.func51, Try.ntmps51
  go_wp2_with fail
  refine (n1 _).mono ?_
  rintro e w1 ⟨rfl, hB⟩
  (have HBn : Below w.heap.size w w1 := Below.on hB (by repeat (first | assumption | exact Below.refl _ _ | refine Below.setCell ?_ (by first | exact Nat.le_refl _ | (simp; done) | omega | (simp; omega)) _ | refine Below.alloc ?_ (by first | exact Nat.le_refl _ | (simp; done) | omega | (simp; omega)) _ | refine below_drewN ?_ _ | refine Below.drew ?_ | refine Below.on (by assumption) ?_ | refine Below.via (by assumption) (by first | exact Nat.le_refl _ | (simp; done) | omega | (simp; omega)) ?_)); have N0 := Lib.hid (Blk.below (g := w.heap.size) (by repeat (first | with_reducible exact Blk.new0 _ _ _ | with_reducible exact Blk.new1 _ _ _ _ | with_reducible exact Blk.new2 _ _ _ _ _ | with_reducible exact Blk.new3 _ _ _ _ _ _ | with_reducible exact Blk.new4 _ _ _ _ _ _ _ | with_reducible apply Blk.set_ | with_reducible apply Blk.alloc | with_reducible apply Blk.drewN | with_reducible apply Blk.drew | (with_reducible apply Blk.over; first | (intro h; omega) | (simp; done) | (simp; omega)))) hB); (try simp only [List.setIfInBounds_toArray, List.set_cons_succ, List.set_cons_zero] at N0); (try clear HB); clear hB; have HB := HBn; clear HBn; have HZw1 := HB.size; have K0 := N0; clear N0; have k0 := Blk.cell K0.out; have f0 := Blk.free K0.out; have l0 := Blk.lt K0.out; have m0 := Nat.le_of_lt l0)
  go_wp2_with fail
  go_ret2
  exact ⟨rfl, HB⟩
set_option maxRecDepth 100000 in
set_option maxHeartbeats 2000000 in
theorem rbytes_none (w : World) :
    Calls Try.prog 51 #[.agg #[.int .u64 0, .int .u64 0, .bool true]] w (Ret w (.tuple #[vs (bytesE none), .int .i64 0])) := by
  have n1 := rin_good none rfl
  rw [inG_none] at n1
  change ∀ w, Calls _ _ #[.agg #[.int .u64 0, .int .u64 0, .bool true]] w _ at n1
  go_enter Try.func51, Try.ntmps51
  go_wp2_with fail
  refine (n1 _).mono ?_
  rintro e w1 ⟨rfl, hB⟩
  (have HBn : Below w.heap.size w w1 := Below.on hB (by repeat (first | assumption | exact Below.refl _ _ | refine Below.setCell ?_ (by first | exact Nat.le_refl _ | (simp; done) | omega | (simp; omega)) _ | refine Below.alloc ?_ (by first | exact Nat.le_refl _ | (simp; done) | omega | (simp; omega)) _ | refine below_drewN ?_ _ | refine Below.drew ?_ | refine Below.on (by assumption) ?_ | refine Below.via (by assumption) (by first | exact Nat.le_refl _ | (simp; done) | omega | (simp; omega)) ?_)); have N0 := Lib.hid (Blk.below (g := w.heap.size) (by repeat (first | with_reducible exact Blk.new0 _ _ _ | with_reducible exact Blk.new1 _ _ _ _ | with_reducible exact Blk.new2 _ _ _ _ _ | with_reducible exact Blk.new3 _ _ _ _ _ _ | with_reducible exact Blk.new4 _ _ _ _ _ _ _ | with_reducible apply Blk.set_ | with_reducible apply Blk.alloc | with_reducible apply Blk.drewN | with_reducible apply Blk.drew | (with_reducible apply Blk.over; first | (intro h; omega) | (simp; done) | (simp; omega)))) hB); (try simp only [List.setIfInBounds_toArray, List.set_cons_succ, List.set_cons_zero] at N0); (try clear HB); clear hB; have HB := HBn; clear HBn; have HZw1 := HB.size; have K0 := N0; clear N0; have k0 := Blk.cell K0.out; have f0 := Blk.free K0.out; have l0 := Blk.lt K0.out; have m0 := Nat.le_of_lt l0)
  go_wp2_with fail
  go_ret2
  exact ⟨rfl, (by repeat (first | assumption | exact Below.refl _ _ | refine Below.setCell ?_ (by first | exact Nat.le_refl _ | (simp; done) | omega | (simp; omega)) _ | refine Below.alloc ?_ (by first | exact Nat.le_refl _ | (simp; done) | omega | (simp; omega)) _ | refine below_drewN ?_ _ | refine Below.drew ?_ | refine Below.on (by assumption) ?_ | refine Below.via (by assumption) (by first | exact Nat.le_refl _ | (simp; done) | omega | (simp; omega)) ?_))⟩
set_option maxRecDepth 100000 in
set_option maxHeartbeats 2000000 in
theorem rbytes_some (x y : F) (h : inG (some (x, y)) = true) (w : World) :
    Calls Try.prog 51 #[.agg #[.int .u64 (vz x), .int .u64 (vz y), .bool false]] w (Ret w (.tuple #[vs (bytesE (some (x, y))), .int .i64 0])) := by
  have n1 := rin_good (some (x, y)) (inG_on h)
  rw [h] at n1
  change ∀ w, Calls _ _ #[.agg #[.int .u64 (vz x), .int .u64 (vz y), .bool false]] w _ at n1
  have b1 := vz_nonneg x
  have b2 := vz_lt x
  have b3 := vz_nonneg y
  have b4 := vz_lt y
  clear h
  go_enter Try.func51, Try.ntmps51
  go_wp2_with fail
  refine (n1 _).mono ?_
  rintro e w1 ⟨rfl, hB⟩
  (have HBn : Below w.heap.size w w1 := Below.on hB (by repeat (first | assumption | exact Below.refl _ _ | refine Below.setCell ?_ (by first | exact Nat.le_refl _ | (simp; done) | omega | (simp; omega)) _ | refine Below.alloc ?_ (by first | exact Nat.le_refl _ | (simp; done) | omega | (simp; omega)) _ | refine below_drewN ?_ _ | refine Below.drew ?_ | refine Below.on (by assumption) ?_ | refine Below.via (by assumption) (by first | exact Nat.le_refl _ | (simp; done) | omega | (simp; omega)) ?_)); have N0 := Lib.hid (Blk.below (g := w.heap.size) (by repeat (first | with_reducible exact Blk.new0 _ _ _ | with_reducible exact Blk.new1 _ _ _ _ | with_reducible exact Blk.new2 _ _ _ _ _ | with_reducible exact Blk.new3 _ _ _ _ _ _ | with_reducible exact Blk.new4 _ _ _ _ _ _ _ | with_reducible apply Blk.set_ | with_reducible apply Blk.alloc | with_reducible apply Blk.drewN | with_reducible apply Blk.drew | (with_reducible apply Blk.over; first | (intro h; omega) | (simp; done) | (simp; omega)))) hB); (try simp only [List.setIfInBounds_toArray, List.set_cons_succ, List.set_cons_zero] at N0); (try clear HB); clear hB; have HB := HBn; clear HBn; have HZw1 := HB.size; have K0 := N0; clear N0; have k0 := Blk.cell K0.out; have f0 := Blk.free K0.out; have l0 := Blk.lt K0.out; have m0 := Nat.le_of_lt l0)
  go_wp2_with fail
  go_ret2
  refine ⟨?_, (by repeat (first | assumption | exact Below.refl _ _ | refine Below.setCell ?_ (by first | exact Nat.le_refl _ | (simp; done) | omega | (simp; omega)) _ | refine Below.alloc ?_ (by first | exact Nat.le_refl _ | (simp; done) | omega | (simp; omega)) _ | refine below_drewN ?_ _ | refine Below.drew ?_ | refine Below.on (by assumption) ?_ | refine Below.via (by assumption) (by first | exact Nat.le_refl _ | (simp; done) | omega | (simp; omega)) ?_))⟩
  simp only [byte_sum, byte_top, byte_low]
  rw [show vz x / 65536 = vz x / ((65536 : Nat) : Int) from rfl, show vz x / 256 = vz x / ((256 : Nat) : Int) from rfl, byte_at, byte_at]
  rfl
theorem rbytes_good {p : E} (h : inG p = true) (w : World) :
    Calls Try.prog 51 #[.agg #[.int .u64 (px p), .int .u64 (py p), .bool (pf p)]] w (Ret w (.tuple #[vs (bytesE p), .int .i64 0])) := by
  rcases p with _ | ⟨x, y⟩
  · exact rbytes_none w
  · exact rbytes_some x y h w
end Go.Proofs.Ytpmmjomejackkaa
