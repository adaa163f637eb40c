/- What the reference's Choices returns. -/
import Derived.Test.YtepibjfmeibgcaaRa
import Derived.Test.YtepibjfmeibgcaaWp
namespace Go.Proofs.Ytepibjfmeibgcaa
open Go.RowKit
set_option linter.unusedVariables false
/-- The error of choices and of what is needed. -/
def chV (l : List Bor) (need : Int) : Int := if 6 < l.length then 5 else if boresB l then (if l.length = 0 then 2 else if inB 0 10000 need then 0 else 3) else 2
set_option maxHeartbeats 1000000 in
set_option maxRecDepth 100000 in
theorem refChoices_ (l : List Bor) (need : Int) (A : Option Addr) (c lo hi : Nat) (w : World) (hR : RdO w lo hi A l) (hn : l.length ≤ maxLen) :
    Calls Try.prog 64 #[.slice A l.length c, .int .i64 need] w fun e w' => e = .returned (.int .i64 (chV l need)) ∧ w = w' := by
  unfold maxLen at hn
  by_cases h6 : 6 < l.length
  · have HC := Lib.hid (show chV l need = 5 from if_pos h6)
    have h6' : (6 : Int) < (l.length : Int) := by omega
    go_enter Try.func64, Try.ntmps64
    go_wp2
    go_ret
    exact ⟨ret_int (by rw [HC.out]), rfl⟩
  · have HC := Lib.hid (show chV l need = if boresB l then (if l.length = 0 then 2 else if inB 0 10000 need then 0 else 3) else 2 from if_neg h6)
    have h6' : (l.length : Int) ≤ 6 := by omega
    go_enter Try.func64, Try.ntmps64
    go_wp2_with fail
    go_loop [5] (fun i => ∃ k : Nat, k ≤ l.length ∧ i = .int .i64 k ∧ boresB (l.take k) = true) (fun i => l.length - (intOf i).toNat)
    case atStart => exact ⟨0, by omega, rfl, rfl⟩
    case round =>
      obtain ⟨k, hk, rfl, hall⟩ := hrel
      have HALL := Lib.hid hall
      clear hall
      by_cases hlt : k < l.length
      · obtain ⟨b, off, rfl, _, _, c0, c1⟩ := RdO.at_ hR hlt
        have hkl : (k : Int) < (l.length : Int) := by omega
        have hs := Lib.hid (boresB_snoc l k hlt)
        cases h1 : inB 4 80 l[k].size with
        | false =>
          have HF := Lib.hid (boresB_false l k hlt (by unfold boreB; rw [h1]; rfl))
          have H1 := Lib.hid h1
          clear h1
          go_wp2_with (go_at_call 74; refine (refIn_ _ _ _ _).mono ?_; rintro e w' ⟨rfl, rfl⟩; rw [H1.out])
          go_ret
          exact ⟨ret_int (by rw [HC.out, HF.out]; rfl), rfl⟩
        | true =>
          cases h2 : inB 0 1000 l[k].price with
          | false =>
            have HF := Lib.hid (boresB_false l k hlt (by unfold boreB; rw [h1, h2]; rfl))
            have H1 := Lib.hid h1
            have H2 := Lib.hid h2
            clear h1 h2
            go_wp2_with (go_at_call 74; refine (refIn_ _ _ _ _).mono ?_; rintro e w' ⟨rfl, rfl⟩; first | rw [H1.out] | rw [H2.out])
            go_ret
            exact ⟨ret_int (by rw [HC.out, HF.out]; rfl), rfl⟩
          | true =>
            have HT := Lib.hid (show boresB (l.take (k + 1)) = true by rw [hs.out, HALL.out]; unfold boreB; rw [h1, h2]; rfl)
            have H1 := Lib.hid h1
            have H2 := Lib.hid h2
            clear h1 h2
            go_wp2_with (go_at_call 74; refine (refIn_ _ _ _ _).mono ?_; rintro e w' ⟨rfl, rfl⟩; first | rw [H1.out] | rw [H2.out])
            exact ⟨⟨k + 1, by omega, by go_num, HT.out⟩, by simp [intOf]; omega⟩
      · obtain rfl : k = l.length := by omega
        have HB := HALL.out
        rw [List.take_length] at HB
        have HB2 := Lib.hid HB
        clear HB
        by_cases h0 : l.length = 0
        · have hb0 : ((l.length : Int) == 0) = true := by simp [h0]
          have H0 := Lib.hid h0
          clear h0
          go_wp2_with fail
          go_ret
          exact ⟨ret_int (by rw [HC.out, HB2.out, if_pos rfl, if_pos H0.out]), rfl⟩
        · have hb0 : ((l.length : Int) == 0) = false := by rw [beq_eq_false_iff_ne]; omega
          have H0 := Lib.hid h0
          clear h0
          cases hn2 : inB 0 10000 need with
          | false =>
            have H2 := Lib.hid hn2
            clear hn2
            go_wp2_with (go_at_call 74; refine (refIn_ _ _ _ _).mono ?_; rintro e w' ⟨rfl, rfl⟩; rw [H2.out])
            go_ret
            exact ⟨ret_int (by rw [HC.out, HB2.out, if_pos rfl, if_neg H0.out, H2.out]; rfl), rfl⟩
          | true =>
            have H2 := Lib.hid hn2
            clear hn2
            go_wp2_with (go_at_call 74; refine (refIn_ _ _ _ _).mono ?_; rintro e w' ⟨rfl, rfl⟩; rw [H2.out])
            go_ret
            exact ⟨ret_int (by rw [HC.out, HB2.out, if_pos rfl, if_neg H0.out, H2.out]; rfl), rfl⟩
end Go.Proofs.Ytepibjfmeibgcaa
