/- Have two unlike texts of some one sum? By the reference. -/
import Derived.Test.YtpmmjomejackkaaDoorTxt
import Derived.Test.YtpmmjomejackkaaDoorSszR
set_option linter.unusedSimpArgs false
set_option linter.unusedVariables false
namespace Go.Proofs.YtpmmjomejackkaaDoor
open BigFrame Go.RowKit Go.Phx Go.Shelf
attribute [local go_sem] Oper.semAt_some

theorem sha_step (L : List Bytes) (k : Nat) (hk : k < L.length) : (L.map sha).take (k + 1) = (L.map sha).take k ++ [sha (L.getD k [])] := by
  rw [take_step (L.map sha) [] k (by simpa using hk)]
  congr 2
  simp [List.getD, List.getElem?_eq_getElem hk]
theorem sha_at (L : List Bytes) (k : Nat) (hk : k < L.length) : (L.map sha).getD k [] = sha (L.getD k []) := by
  simp [List.getD, List.getElem?_eq_getElem hk]
set_option maxRecDepth 100000 in
set_option maxHeartbeats 8000000 in
theorem clash_calls (A : Option Addr) (c : Nat) (L : List Bytes) (hL : L.length ≤ 100000) (hall : ∀ x ∈ L, x.length ≤ 1000000000) (w : World) (hs : Txts w A L) :
    Calls Tryd.prog 40 #[.slice A L.length c] w (fun e w' => (∃ r : Bool, e = .returned (.bool r) ∧ (r = true ↔ Clashes L)) ∧ Below w.heap.size w w') := by
  go_enter Tryd.func40, Tryd.ntmps40
  go_wp2_with fail
  go_loopw [3, 4] (fun v n wr => ∃ (u : Value) (k : Nat), u = v ∧ k ≤ L.length ∧ n = .int .i64 k ∧ LRow w.heap.size wr u ((L.map sha).take k) ∧ Below w.heap.size w wr) (fun _ n _ => (L.length - intOf n).toNat)
  case atStart => exact ⟨_, 0, rfl, by omega, rfl, World.ownsRow_nil _ _ _ _, Below.refl _ _⟩
  case round =>
    obtain ⟨v, k, rfl, hk, rfl, OWN, HB⟩ := hrel
    by_cases hlt : k < L.length
    · obtain ⟨b, o, rfl, hb, hc⟩ := Txts.at (Txts.below hs HB) k hlt
      have hy := hall _ (getD_mem hlt)
      have hst := Lib.hid (sha_step L k hlt)
      have hql : ((L.map sha).take k).length ≤ 100000 := by simp; omega
      generalize L.getD k [] = y at *
      generalize (L.map sha).take k = q at *
      replace OWN := Lib.hid OWN
      replace hs := Lib.hid hs
      replace hall := Lib.hid hall
      go_wp2_with fail
      refine (rsum_calls y (by omega) _).mono ?_
      rintro e w1 ⟨rfl, h1⟩
      have OWN1 := Lib.hid (LRow.below OWN.out h1)
      have HB1 := Below.on h1 HB
      have hb1 := HB1.size
      clear h1 OWN
      go_wp2_with (at_builtin; refine wpList_append_txt rfl _ _ rfl w.heap.size v q rfl (OWN1.out.on _) (sha y) ⟨w1.heap.size, 0, none⟩ rfl (new_cell _ _ _) (by omega) (by simp; omega) ?_)
      intro v' w' hown hgrow _
      have OWN2 := Lib.hid (show LRow w.heap.size w' v' ((L.map sha).take (k + 1)) from by rw [hst.out]; exact hown)
      have HB2 := below_app (HB1.alloc HB1.size _) (OWN1.out.on _) hgrow
      clear hown hgrow OWN1
      go_wp2_with fail
      go_roundw
      case rel => exact ⟨_, k + 1, rfl, by omega, by go_num, OWN2.out, HB2⟩
      case measure => simp [intOf]; omega
    · obtain rfl : k = L.length := by omega
      rw [List.take_of_length_le (by simp)] at OWN
      obtain ⟨w2, rfl⟩ : ∃ w2 : World, w2 = wr := ⟨_, rfl⟩
      have hs2 := Lib.hid (Txts.below hs HB)
      have hat := Lib.hid (sha_at L)
      obtain ⟨A2, c2, rfl, T2⟩ := OWN.txts
      have hml : (L.map sha).length = L.length := by simp
      rw [hml]
      replace hml := Lib.hid hml
      replace T2 := Lib.hid T2
      clear hs hall OWN
      go_wp2_with fail
      go_loopw [5] (fun n wr => ∃ i : Nat, i ≤ L.length ∧ n = .int .i64 i ∧ (∀ i', i' < i → ∀ k, k < i' → ¬ Bad L i' k) ∧ Below w2.heap.size w2 wr) (fun n _ => (L.length - intOf n).toNat)
      case atStart => exact ⟨0, by omega, rfl, fun i' h => by omega, Below.refl _ _⟩
      case round =>
        obtain ⟨i, hi, rfl, hno, HB3⟩ := hrel
        obtain ⟨w3, rfl⟩ : ∃ w3 : World, w3 = wr := ⟨_, rfl⟩
        replace hno := Lib.hid hno
        by_cases hil : i < L.length
        · go_wp2_with fail
          go_loopw [6] (fun n wr => ∃ k : Nat, k ≤ i ∧ n = .int .i64 k ∧ (∀ k', k' < k → ¬ Bad L i k') ∧ Below w2.heap.size w2 wr) (fun n _ => (i - intOf n).toNat)
          case atStart => exact ⟨0, by omega, rfl, fun i' h => by omega, HB3⟩
          case round =>
            obtain ⟨k, hk, rfl, hno2, HB4⟩ := hrel
            by_cases hki : k < i
            · have hTr := Txts.below hs2.out HB4
              have hUr := Txts.below T2.out HB4
              obtain ⟨b, o, rfl, hb, hc1⟩ := hTr.at i hil
              obtain ⟨b', o', he, _, hc2⟩ := hTr.at k (by omega)
              simp only [Option.some.injEq, Addr.mk.injEq, and_true] at he
              obtain ⟨rfl, rfl⟩ := he
              obtain ⟨b2, o2, rfl, hb2, hc3⟩ := hUr.at i (by rw [hml.out]; omega)
              obtain ⟨b', o', he, _, hc4⟩ := hUr.at k (by rw [hml.out]; omega)
              simp only [Option.some.injEq, Addr.mk.injEq, and_true] at he
              obtain ⟨rfl, rfl⟩ := he
              rw [hat.out i hil] at hc3
              rw [hat.out k (by omega)] at hc4
              have hbad : Bad L i k ↔ L.getD i [] ≠ L.getD k [] ∧ sha (L.getD i []) = sha (L.getD k []) := Iff.rfl
              have hcl := fun h => clash_some L i k hil (by omega) h
              generalize L.getD i [] = x at *
              generalize L.getD k [] = y at *
              generalize sha x = sx at *
              generalize sha y = sy at *
              replace hno2 := Lib.hid hno2
              clear hTr hUr
              have hki2 : k < L.length := by omega
              by_cases hxy : x = y
              · have hno3 : ∀ k', k' < k + 1 → ¬ Bad L i k' := fun k' h h2 => by
                  rcases Nat.lt_or_ge k' k with h3 | h3
                  · exact hno2.out k' h3 h2
                  · obtain rfl : k' = k := by omega
                    exact (hbad.1 h2).1 hxy
                subst hxy
                replace hno3 := Lib.hid hno3
                clear hbad hcl
                go_wp2_with fail
                go_quiet (fail)
                go_wp2_with fail
                exact ⟨⟨k + 1, by omega, by go_num, hno3.out, below_drewN HB4 _⟩, by simp [intOf]; omega⟩
              · have hne : (x == y) = false := by simpa using hxy
                have hne2 : (x != y) = true := by simpa using hxy
                by_cases hss : sx = sy
                · have hyes := Lib.hid (hcl (hbad.2 ⟨hxy, hss⟩))
                  subst hss
                  clear hbad hcl
                  go_wp2_with fail
                  go_quiet (fail)
                  go_wp2_with fail
                  go_ret
                  exact ⟨⟨true, rfl, by simp [hyes.out]⟩, HB.trans ((below_drewN HB4 _).mono HB.size)⟩
                · have hs2 : (sx == sy) = false := by simpa using hss
                  have hno3 : ∀ k', k' < k + 1 → ¬ Bad L i k' := fun k' h h2 => by
                    rcases Nat.lt_or_ge k' k with h3 | h3
                    · exact hno2.out k' h3 h2
                    · obtain rfl : k' = k := by omega
                      exact hss (hbad.1 h2).2
                  replace hno3 := Lib.hid hno3
                  clear hbad hcl
                  go_wp2_with fail
                  go_quiet (fail)
                  go_wp2_with fail
                  exact ⟨⟨k + 1, by omega, by go_num, hno3.out, below_drewN HB4 _⟩, by simp [intOf]; omega⟩
            · obtain rfl : k = i := by omega
              have hno3 : ∀ i', i' < k + 1 → ∀ k', k' < i' → ¬ Bad L i' k' := fun i' h => by
                rcases Nat.lt_or_ge i' k with h3 | h3
                · exact hno.out i' h3
                · obtain rfl : i' = k := by omega
                  exact hno2
              replace hno3 := Lib.hid hno3
              clear hno2
              go_wp2_with fail
              go_roundw
              case rel => exact ⟨k + 1, by omega, by go_num, hno3.out, HB4⟩
              case measure => simp [intOf]; omega
        · obtain rfl : i = L.length := by omega
          have hnone := Lib.hid (clash_none L hno.out)
          go_wp2_with fail
          go_ret
          exact ⟨⟨false, rfl, by simp [hnone.out]⟩, HB.trans (HB3.mono HB.size)⟩
end Go.Proofs.YtpmmjomejackkaaDoor
