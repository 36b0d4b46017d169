/- A tree's root and a leaf's branch, by the reference. -/
import Derived.Test.YtpmmjomejackkaaDoorSszT
import Derived.Test.YtpmmjomejackkaaDoorSszG
set_option linter.unusedSimpArgs false
set_option linter.unusedVariables false
namespace Go.Proofs.YtpmmjomejackkaaDoor
open BigFrame Go.RowKit Go.Phx Go.Shelf
attribute [local go_sem] Oper.semAt_some

theorem rright_ret (A : Option Addr) (c : Nat) (L : List Bytes) (d : Int) (hx : ∀ x ∈ L, x.length ≤ 9223372036854775807) (r : Bool) (hr : decide (RightP L d) = r) (w : World) (hs : Txts w A L) :
    Calls Tryd.prog 71 #[.slice A L.length c, .int .i64 d] w (Ret w (.bool r)) :=
  (rright_calls A c L d hx w hs).mono fun e w' ⟨⟨r', he, h'⟩, hB⟩ => ⟨by
    rw [he, ← hr]
    congr 2
    rw [Bool.eq_iff_iff, h', decide_eq_true_iff], hB⟩
theorem right_le {L : List Bytes} {d : Nat} (hR : RightP L d) : L.length ≤ 2 ^ d := by
  have h := hR.2.2.2.1
  rwa [Int.toNat_natCast] at h
set_option maxRecDepth 100000 in
set_option maxHeartbeats 4000000 in
theorem rroot_yes (A : Option Addr) (c : Nat) (L : List Bytes) (d : Nat) (hR : RightP L d) (w : World) (hs : Txts w A L) :
    Calls Tryd.prog 32 #[.slice A L.length c, .int .i64 d] w (Ret w (.tuple #[.string (bs (rootP L d)), .int .i64 0])) := by
  have hL : L.length ≤ 256 := hR.2.2.1
  have hd : d ≤ 10 := by have := hR.2.1; omega
  have hall := hR.2.2.2.2
  have hx : ∀ x ∈ L, x.length ≤ 9223372036854775807 := fun x h => by have := hall x h; omega
  have hle := right_le hR
  have hroot := Lib.hid (root_full L d hle)
  have hfl := fullL_len L d hle d (Nat.le_refl _)
  rw [Nat.sub_self, Nat.pow_zero] at hfl
  replace hle := Lib.hid hle
  go_enter Tryd.func32, Tryd.ntmps32
  go_wp2_with fail
  refine (rright_ret A c L d hx true (by simpa using hR) _ hs).mono ?_
  rintro e w1 ⟨rfl, hB1⟩
  have hs1 := Txts.below hs hB1
  replace hR := Lib.hid hR
  clear hs
  go_wp2_with fail
  refine (level_calls A c L d d hd hle.out (Nat.le_refl _) hall _ hs1).mono ?_
  rintro e w2 ⟨v, rfl, R, hB2⟩
  have hB := Below.on hB2 hB1
  generalize fullL L d d = F at *
  obtain ⟨g, cap, rfl, _, _⟩ := R.form1 (by intro h; rw [h] at hfl; simp at hfl)
  have c1 := LRow.at R 0 (by omega)
  rw [hroot.out] at c1
  have hi1 := fun W => index_txt g F.length cap 0 0 rfl (by omega) W
  rw [hfl] at hi1 ⊢
  replace hfl := Lib.hid hfl
  clear R hs1 hx hall hB2 hB1
  go_wp2_with fail
  go_ret2
  exact ⟨rfl, hB⟩
set_option maxRecDepth 100000 in
theorem rroot_no (A : Option Addr) (c : Nat) (L : List Bytes) (d : Int) (hR : ¬ RightP L d) (hx : ∀ x ∈ L, x.length ≤ 9223372036854775807) (w : World) (hs : Txts w A L) :
    Calls Tryd.prog 32 #[.slice A L.length c, .int .i64 d] w (Ret w (.tuple #[.string { data := #[] }, .int .i64 80])) := by
  go_enter Tryd.func32, Tryd.ntmps32
  go_wp2_with fail
  refine (rright_ret A c L d hx false (by simpa using hR) _ hs).mono ?_
  rintro e w1 ⟨rfl, hB1⟩
  clear hR hs hx
  go_wp2_with fail
  go_ret2
  exact ⟨rfl, hB1⟩
theorem rroot_calls (A : Option Addr) (c : Nat) (L : List Bytes) (d : Int) (hx : ∀ x ∈ L, x.length ≤ 9223372036854775807) (w : World) (hs : Txts w A L) :
    Calls Tryd.prog 32 #[.slice A L.length c, .int .i64 d] w (Ret w (rootV L d)) := by
  by_cases hR : RightP L d
  · have e : ((d.toNat : Nat) : Int) = d := Int.toNat_of_nonneg hR.1
    have := rroot_yes A c L d.toNat (by rw [e]; exact hR) w hs
    rw [e] at this
    unfold rootV
    rw [if_pos hR]
    exact this
  · unfold rootV
    rw [if_neg hR]
    exact rroot_no A c L d hR hx w hs
set_option maxRecDepth 100000 in
set_option maxHeartbeats 8000000 in
theorem rbranch_yes (A : Option Addr) (c : Nat) (L : List Bytes) (d i : Nat) (hR : RightP L d) (hi : i < 2 ^ d) (w : World) (hs : Txts w A L) :
    Calls Tryd.prog 34 #[.slice A L.length c, .int .i64 d, .int .i64 i] w (fun e w' => ∃ v, e = .returned (.tuple #[v, .int .i64 0]) ∧ LRow w.heap.size w' v (branchP L i d) ∧ Below w.heap.size w w') := by
  have hL : L.length ≤ 256 := hR.2.2.1
  have hd : d ≤ 10 := by have := hR.2.1; omega
  have hall := hR.2.2.2.2
  have hx : ∀ x ∈ L, x.length ≤ 9223372036854775807 := fun x h => by have := hall x h; omega
  have hle := right_le hR
  have hp10 : 2 ^ d ≤ 1024 := Nat.le_trans (Nat.pow_le_pow_right (by omega) hd) (by decide)
  have hw2 := pow_wrap d hd
  have hi0 : decide ((i : Int) < 0) = false := by simp
  have hi1 : decide (2 ^ d ≤ i) = false := by simp only [decide_eq_false_iff_not]; omega
  have hi2 : i < 1024 := by omega
  have hodd := fun k (hk : k < d) h => branch_odd L d k i hle hk hi h
  have heven := fun k (hk : k < d) h => branch_even L d k i hle hk hi h
  have hnle : ∀ k, k ≤ d → (fullL L d k).length ≤ 1024 := fun k hk => by
    rw [fullL_len L d hle k hk]
    exact Nat.le_trans (Nat.pow_le_pow_right (by omega) (Nat.sub_le _ _)) hp10
  replace hle := Lib.hid hle
  replace hodd := Lib.hid hodd
  replace heven := Lib.hid heven
  replace hnle := Lib.hid hnle
  obtain ⟨N, hN⟩ : ∃ N, 2 ^ d = N := ⟨_, rfl⟩
  rw [hN] at hw2 hi1
  replace hN := Lib.hid hN
  clear hi hp10
  go_enter Tryd.func34, Tryd.ntmps34
  go_wp2_with fail
  refine (rright_ret A c L d hx true (by simpa using hR) _ hs).mono ?_
  rintro e w1 ⟨rfl, hB1⟩
  replace hR := Lib.hid hR
  replace hs := Lib.hid hs
  go_wp2_with fail
  try simp only [hw2]
  replace hw2 := Lib.hid hw2
  go_loopw [9, 10] (fun v n wr => ∃ (u : Value) (k : Nat), u = v ∧ k ≤ d ∧ n = .int .i64 k ∧ LRow w.heap.size wr u (branchP L i k) ∧ Below w.heap.size w wr) (fun _ n _ => (d - intOf n).toNat)
  case atStart => exact ⟨_, 0, rfl, by omega, rfl, World.ownsRow_nil _ _ _ _, hB1⟩
  case round =>
    clear hB1
    obtain ⟨v, k, rfl, hk, rfl, OWN, HB⟩ := hrel
    have hsr := Txts.below hs.out HB
    by_cases hlt : k < d
    · have hbl := branchP_len L i k
      have hlv := Lib.hid (level_calls A c L d k hd hle.out hk hall wr hsr)
      have hod := hodd.out k hlt
      have hev := heven.out k hlt
      have hFl := hnle.out k hk
      have hm : i / 2 ^ k < 1024 := Nat.lt_of_le_of_lt (Nat.div_le_self _ _) hi2
      have hsh : (i : Int) / 2 ^ k = ((i / 2 ^ k : Nat) : Int) := by simp
      generalize i / 2 ^ k = m at *
      generalize fullL L d k = F at *
      generalize branchP L i k = q at *
      have hql : q.length ≤ 10 := by omega
      replace hod := Lib.hid hod
      replace hev := Lib.hid hev
      replace hsr := Lib.hid hsr
      replace OWN := Lib.hid OWN
      clear hbl hx hall
      go_wp2_with fail
      refine hlv.out.mono ?_
      rintro e w3 ⟨v3, rfl, R, h3⟩
      have OWN1 := Lib.hid (LRow.below OWN.out h3)
      have HB1 := Below.on h3 HB
      have hz1 := HB1.size
      clear h3 OWN hlv hsr
      obtain ⟨n, hn⟩ : ∃ n, F.length = n := ⟨_, rfl⟩
      rcases Nat.mod_two_eq_zero_or_one m with hm2 | hm2
      · obtain ⟨hbn, hj⟩ := hev.out hm2
        have hm3 : ((m : Int) % 2 == 0) = true := by
          have : (m : Int) % 2 = 0 := by omega
          rw [this]; rfl
        have hm4 : (m : Int) % 2 = 0 := by omega
        obtain ⟨g, cap, rfl, _, _⟩ := R.form1 (by intro h; rw [h] at hj; simp at hj)
        have hcj := LRow.at R (m + 1) hj
        generalize F.getD (m + 1) [] = y at *
        have hi1 := fun W => index_txt g F.length cap ((m : Int) + 1) (m + 1) (by omega) hj W
        rw [hn] at hi1 hj hFl ⊢
        replace hn := Lib.hid hn
        clear R hm2
        replace hbn := Lib.hid hbn
        go_wp2_with (at_builtin; refine wpList_append_txt rfl _ _ rfl w.heap.size v q rfl (OWN1.out.on _) y ⟨w3.heap.size, 0, none⟩ rfl (new_cell _ _ _) (by omega) (by simp; omega) ?_)
        intro v' w' hown hgrow _
        have OWN2 := Lib.hid (show LRow w.heap.size w' v' (branchP L i (k + 1)) from by rw [hbn.out]; exact hown)
        have HB2 := below_app (HB1.alloc HB1.size _) (OWN1.out.on _) hgrow
        clear hown hgrow OWN1
        go_wp2_with fail
        go_roundw
        case rel => exact ⟨_, k + 1, rfl, by omega, by go_num, OWN2.out, HB2⟩
        case measure => simp [intOf]; omega
      · obtain ⟨hbn, hj1, hj⟩ := hod.out hm2
        have hm3 : ((m : Int) % 2 == 0) = false := by
          have : (m : Int) % 2 = 1 := by omega
          rw [this]; rfl
        have hm4 : ¬ (m : Int) % 2 = 0 := by omega
        obtain ⟨g, cap, rfl, _, _⟩ := R.form1 (by intro h; rw [h] at hj; simp at hj)
        have hcj := LRow.at R (m - 1) (by omega)
        generalize F.getD (m - 1) [] = y at *
        have hi1 := fun W => index_txt g F.length cap ((m : Int) - 1) (m - 1) (by omega) (by omega) W
        rw [hn] at hi1 hj hFl ⊢
        replace hn := Lib.hid hn
        clear R hm2
        replace hbn := Lib.hid hbn
        go_wp2_with (at_builtin; refine wpList_append_txt rfl _ _ rfl w.heap.size v q rfl (OWN1.out.on _) y ⟨w3.heap.size, 0, none⟩ rfl (new_cell _ _ _) (by omega) (by simp; omega) ?_)
        intro v' w' hown hgrow _
        have OWN2 := Lib.hid (show LRow w.heap.size w' v' (branchP L i (k + 1)) from by rw [hbn.out]; exact hown)
        have HB2 := below_app (HB1.alloc HB1.size _) (OWN1.out.on _) hgrow
        clear hown hgrow OWN1
        go_wp2_with fail
        go_roundw
        case rel => exact ⟨_, k + 1, rfl, by omega, by go_num, OWN2.out, HB2⟩
        case measure => simp [intOf]; omega
    · obtain rfl : k = d := by omega
      replace OWN := Lib.hid OWN
      clear hsr hx hall
      go_wp2_with fail
      go_ret2
      exact ⟨_, rfl, OWN.out, HB⟩
set_option maxRecDepth 100000 in
theorem rbranch_no1 (A : Option Addr) (c : Nat) (L : List Bytes) (d i : Int) (hR : ¬ RightP L d) (hx : ∀ x ∈ L, x.length ≤ 9223372036854775807) (w : World) (hs : Txts w A L) :
    Calls Tryd.prog 34 #[.slice A L.length c, .int .i64 d, .int .i64 i] w (Ret w (.tuple #[.slice none 0 0, .int .i64 80])) := by
  go_enter Tryd.func34, Tryd.ntmps34
  go_wp2_with fail
  refine (rright_ret A c L d hx false (by simpa using hR) _ hs).mono ?_
  rintro e w1 ⟨rfl, hB1⟩
  clear hR hs hx
  go_wp2_with fail
  go_ret2
  exact ⟨rfl, hB1⟩
set_option maxRecDepth 100000 in
theorem rbranch_no2 (A : Option Addr) (c : Nat) (L : List Bytes) (d i : Int) (hR : RightP L d) (hi : i < 0) (hx : ∀ x ∈ L, x.length ≤ 9223372036854775807) (w : World) (hs : Txts w A L) :
    Calls Tryd.prog 34 #[.slice A L.length c, .int .i64 d, .int .i64 i] w (Ret w (.tuple #[.slice none 0 0, .int .i64 80])) := by
  have hi0 : decide (i < 0) = true := by simpa using hi
  go_enter Tryd.func34, Tryd.ntmps34
  go_wp2_with fail
  refine (rright_ret A c L d hx true (by simpa using hR) _ hs).mono ?_
  rintro e w1 ⟨rfl, hB1⟩
  clear hR hs hx
  go_wp2_with fail
  go_ret2
  exact ⟨rfl, hB1⟩
set_option maxRecDepth 100000 in
theorem rbranch_no3 (A : Option Addr) (c : Nat) (L : List Bytes) (d i : Nat) (hR : RightP L d) (hi : 2 ^ d ≤ i) (hx : ∀ x ∈ L, x.length ≤ 9223372036854775807) (w : World) (hs : Txts w A L) :
    Calls Tryd.prog 34 #[.slice A L.length c, .int .i64 d, .int .i64 i] w (Ret w (.tuple #[.slice none 0 0, .int .i64 80])) := by
  have hd : d ≤ 10 := by have := hR.2.1; omega
  have hw2 := pow_wrap d hd
  have hi0 : decide ((i : Int) < 0) = false := by simp
  have hi1 : decide (2 ^ d ≤ i) = true := by simpa using hi
  obtain ⟨N, hN⟩ : ∃ N, 2 ^ d = N := ⟨_, rfl⟩
  rw [hN] at hw2 hi1
  replace hN := Lib.hid hN
  clear hi
  go_enter Tryd.func34, Tryd.ntmps34
  go_wp2_with fail
  refine (rright_ret A c L d hx true (by simpa using hR) _ hs).mono ?_
  rintro e w1 ⟨rfl, hB1⟩
  clear hR hs hx
  go_wp2_with fail
  go_ret2
  exact ⟨rfl, hB1⟩
theorem rbranch_calls (A : Option Addr) (c : Nat) (L : List Bytes) (d i : Int) (hx : ∀ x ∈ L, x.length ≤ 9223372036854775807) (w : World) (hs : Txts w A L) :
    Calls Tryd.prog 34 #[.slice A L.length c, .int .i64 d, .int .i64 i] w (fun e w' => ∃ v, e = .returned (.tuple #[v, .int .i64 (if BranchOk L d i then 0 else 80)]) ∧ LRow w.heap.size w' v (if BranchOk L d i then branchP L i.toNat d.toNat else []) ∧ Below w.heap.size w w') := by
  by_cases hB : BranchOk L d i
  · rw [if_pos hB, if_pos hB]
    obtain ⟨h1, h2, h3⟩ := hB
    obtain ⟨n, rfl⟩ : ∃ n : Nat, d = n := ⟨d.toNat, (Int.toNat_of_nonneg h1.1).symm⟩
    obtain ⟨j, rfl⟩ : ∃ j : Nat, i = j := ⟨i.toNat, (Int.toNat_of_nonneg h2).symm⟩
    exact rbranch_yes A c L n j h1 (by rw [Int.toNat_natCast] at h3; exact Int.ofNat_lt.1 h3) w hs
  · rw [if_neg hB, if_neg hB]
    have : Calls Tryd.prog 34 #[.slice A L.length c, .int .i64 d, .int .i64 i] w (Ret w (.tuple #[.slice none 0 0, .int .i64 80])) := by
      by_cases h1 : RightP L d
      · by_cases h2 : i < 0
        · exact rbranch_no2 A c L d i h1 h2 hx w hs
        · obtain ⟨n, rfl⟩ : ∃ n : Nat, d = n := ⟨d.toNat, (Int.toNat_of_nonneg h1.1).symm⟩
          obtain ⟨j, rfl⟩ : ∃ j : Nat, i = j := ⟨i.toNat, (Int.toNat_of_nonneg (by omega)).symm⟩
          refine rbranch_no3 A c L n j h1 ?_ hx w hs
          refine Nat.le_of_not_lt fun h => hB ⟨h1, by omega, ?_⟩
          rw [Int.toNat_natCast]
          exact Int.ofNat_lt.2 h
      · exact rbranch_no1 A c L d i h1 hx w hs
    exact this.mono fun e w' ⟨h1, h2⟩ => ⟨_, h1, World.ownsRow_nil _ _ _ _, h2⟩
end Go.Proofs.YtpmmjomejackkaaDoor
