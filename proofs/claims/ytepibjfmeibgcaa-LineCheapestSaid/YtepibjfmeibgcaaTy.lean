/- What the law's helper for true flows returns. -/
import Derived.Test.YtepibjfmeibgcaaCo
import Derived.Test.YtepibjfmeibgcaaAp
import Derived.Test.YtepibjfmeibgcaaKn
namespace Go.Proofs.Ytepibjfmeibgcaa
open Go.RowKit
set_option linter.unusedVariables false
theorem netB_good {n : Net} (h : netB n = true) : (0 ≤ n.pump ∧ n.pump ≤ 10000) ∧ ∀ j, 0 < j → j < n.pipes.length → PipeOk (pAt n.pipes j) := by
  refine ⟨?_, fun j h0 hj => by rw [pAt_eq hj]; exact pipeB_ok (netB_pipe h hj h0)⟩
  unfold netB at h
  simp only [Bool.and_eq_true] at h
  exact inB_true h.1.1.2
/-- Small numbers. -/
def encU (x : Int) : List Value := [.int .u16 x]
abbrev RdU (w : World) (lo hi : Nat) (A : Option Addr) (xs : List Int) : Prop := Rd encU 1 w lo hi A xs
theorem RdU.at_ {w : World} {lo hi : Nat} {A : Option Addr} {xs : List Int} {k : Nat} (h : RdU w lo hi A xs) (hk : k < xs.length) : ∃ b off, A = some ⟨b, off, none⟩ ∧ lo ≤ b ∧ b < hi ∧ w.cell? ⟨b, off + k, none⟩ = some (.int .u16 xs[k]) := by
  obtain ⟨b, off, e, h1, h2, hc⟩ := Rd.at_ h hk
  have := hc 0 (.int .u16 xs[k]) rfl
  simp only [Nat.mul_one, Nat.add_zero] at this
  exact ⟨b, off, e, h1, h2, this⟩
/-- The true flow of a node. -/
def exV (rs : List Rng) (pk : List Int) (i : Nat) : Int := if i < pk.length then lowF rs i + pk.getD i 0 % (highF rs i - lowF rs i + 1) else lowF rs i
/-- What truly returns. -/
def TrulyR (rs : List Rng) (pk : List Int) (base : Nat) (e : Ending) (w' : World) : Prop :=
  if flowsB rs then ∃ D cd, e = .returned (.tuple #[.slice D rs.length cd, .bool true]) ∧ rs.length ≤ cd ∧ RdR w' base w'.heap.size D (pairT (exV rs pk) (exV rs pk) rs.length) else e = .returned (.tuple #[.slice none 0 0, .bool false])
set_option maxHeartbeats 4000000 in
set_option maxRecDepth 100000 in
theorem truly_ (A U : Option Addr) (c cu lo hi l2 h2 : Nat) (rs : List Rng) (pk : List Int) (w : World) (hR : RdR w lo hi A rs) (hhi : hi ≤ w.heap.size) (hU : RdU w l2 h2 U pk) (hh2 : h2 ≤ w.heap.size) (hn : rs.length ≤ 1000000) (hpl : pk.length ≤ maxLen) (hpb : ∀ x ∈ pk, 0 ≤ x ∧ x ≤ 65535) :
    Calls Try.prog 22 #[.slice A rs.length c, .slice U pk.length cu] w fun e w' => TrulyR rs pk w.heap.size e w' ∧ Below w.heap.size w w' := by
  obtain ⟨i0, ei0, ez0, ez1, ez2⟩ := info_parts infoRange
  unfold maxLen at hpl
  go_enter Try.func22, Try.ntmps22
  go_wp2_with fail
  go_loopw [6, 7] (fun v i wr => ∃ k : Nat, k ≤ rs.length ∧ i = .int .i64 k ∧ flowsB (rs.take k) = true ∧ wr.ownsRow w.heap.size 52 2 v k ((pairT (exV rs pk) (exV rs pk) k).flatMap encR) ∧ Below w.heap.size w wr) (fun _ i _ => rs.length - (intOf i).toNat)
  case atStart => exact ⟨0, Nat.zero_le _, rfl, rfl, owns_empty' w w.heap.size w.heap.size _ 2 rfl (Nat.le_refl _), (by repeat (first | exact Below.refl _ _ | exact (Below.refl _ _) | assumption | (refine Below.setCell ?_ (by first | omega | (simp; done) | (simp; omega) | (simp [World.setCell]; done) | (simp [World.setCell]; omega)) _) | (refine Below.alloc ?_ (by first | omega | (simp; done) | (simp; omega) | (simp [World.setCell]; done) | (simp [World.setCell]; omega)) _) | (refine Below.drewN_ ?_ _) | (refine Below.drew ?_)))⟩
  case round =>
    obtain ⟨k, hk, rfl, hall, hrow, hB⟩ := hrel
    have HALL := Lib.hid hall
    clear hall
    have hz := hB.size
    by_cases hlt : k < rs.length
    · have hkl : (k : Int) < (rs.length : Int) := by omega
      obtain ⟨bb, off, rfl, _, hbb, c0, c1⟩ := RdR.at_ (hR.below hB hhi) hlt
      have hs := Lib.hid (flowsB_snoc rs k hlt)
      have HS := Lib.hid (pairT_succ (exV rs pk) (exV rs pk) k)
      have HL := Lib.hid (show lowF rs k = rs[k].low by unfold lowF; rw [rng_getD hlt])
      have HH := Lib.hid (show highF rs k = rs[k].high by unfold highF; rw [rng_getD hlt])
      have hbw : bb < wr.heap.size := by omega
      obtain ⟨lw0, lw1, lw2, lw3, lw4, lw5⟩ := lt6 (show bb < wr.heap.size by omega)
      by_cases h1 : rs[k].low < 0
      · have HF := Lib.hid (flowsB_false rs k hlt (by unfold flowB inB; simp; omega))
        go_wp2_with fail
        go_ret2
        exact ⟨by unfold TrulyR; rw [HF.out]; rfl, (by repeat (first | exact Below.refl _ _ | exact (hB) | assumption | (refine Below.setCell ?_ (by first | omega | (simp; done) | (simp; omega) | (simp [World.setCell]; done) | (simp [World.setCell]; omega)) _) | (refine Below.alloc ?_ (by first | omega | (simp; done) | (simp; omega) | (simp [World.setCell]; done) | (simp [World.setCell]; omega)) _) | (refine Below.drewN_ ?_ _) | (refine Below.drew ?_)))⟩
      · have h1 : 0 ≤ rs[k].low := by omega
        by_cases h3 : 1000000000 < rs[k].high
        · have HF := Lib.hid (flowsB_false rs k hlt (by unfold flowB inB; simp; omega))
          go_wp2_with fail
          go_ret2
          exact ⟨by unfold TrulyR; rw [HF.out]; rfl, (by repeat (first | exact Below.refl _ _ | exact (hB) | assumption | (refine Below.setCell ?_ (by first | omega | (simp; done) | (simp; omega) | (simp [World.setCell]; done) | (simp [World.setCell]; omega)) _) | (refine Below.alloc ?_ (by first | omega | (simp; done) | (simp; omega) | (simp [World.setCell]; done) | (simp [World.setCell]; omega)) _) | (refine Below.drewN_ ?_ _) | (refine Below.drew ?_)))⟩
        · have h3 : rs[k].high ≤ 1000000000 := by omega
          by_cases h2 : rs[k].high < rs[k].low
          · have HF := Lib.hid (flowsB_false rs k hlt (by unfold flowB inB; simp; omega))
            go_wp2_with fail
            go_ret2
            exact ⟨by unfold TrulyR; rw [HF.out]; rfl, (by repeat (first | exact Below.refl _ _ | exact (hB) | assumption | (refine Below.setCell ?_ (by first | omega | (simp; done) | (simp; omega) | (simp [World.setCell]; done) | (simp [World.setCell]; omega)) _) | (refine Below.alloc ?_ (by first | omega | (simp; done) | (simp; omega) | (simp [World.setCell]; done) | (simp [World.setCell]; omega)) _) | (refine Below.drewN_ ?_ _) | (refine Below.drew ?_)))⟩
          · have h2 : rs[k].low ≤ rs[k].high := by omega
            have HF := Lib.hid (show flowB rs[k] = true by unfold flowB inB; simp; omega)
            have HT := Lib.hid (show flowsB (rs.take (k + 1)) = true by rw [hs.out, HALL.out, HF.out]; rfl)
            by_cases hp : k < pk.length
            · have hkp : (k : Int) < (pk.length : Int) := by omega
              obtain ⟨ub, uo, rfl, _, hub, u0⟩ := RdU.at_ (hU.below hB hh2) hp
              have hq := hpb _ (List.getElem_mem hp)
              have HE := Lib.hid (show exV rs pk k = rs[k].low + pk[k] % (rs[k].high - rs[k].low + 1) by unfold exV; rw [if_pos hp, HL.out, HH.out, List.getD_eq_getElem?_getD, List.getElem?_eq_getElem hp]; rfl)
              have hubw : ub < wr.heap.size := by omega
              obtain ⟨lu0, lu1, lu2, lu3, lu4, lu5⟩ := lt6 (show ub < wr.heap.size by omega)
              have hm0 := Int.emod_nonneg pk[k] (show rs[k].high - rs[k].low + 1 ≠ 0 by omega)
              have hm1 := Int.emod_lt_of_pos pk[k] (show 0 < rs[k].high - rs[k].low + 1 by omega)
              have ht := Lib.hid (show (pk[k]).tmod (rs[k].high - rs[k].low + 1) = pk[k] % (rs[k].high - rs[k].low + 1) from Int.tmod_eq_emod_of_nonneg hq.1)
              generalize exV rs pk k = xv at *
              generalize pk[k] = q at *
              go_wp2_with fail
              obtain rfl := HE.out
              go_quiet (fail)
              go_wp2_with (at_builtin; go_loud (refine wpList_append_rd _ rfl _ _ 25 rfl w.heap.size 52 i0 _ 2 16 Try.underlying25 ei0 ez0 ez1 ez2 rfl (by decide) u6 k ((pairT (exV rs pk) (exV rs pk) k).flatMap encR) rfl (by repeat (first | with_reducible exact hrow | with_reducible refine ownsRow_drew ?_ | with_reducible refine ownsRow_drewN ?_ _ | with_reducible refine World.ownsRow.alloc ?_ _)) _ 1 0 _ [⟨rs[k].low + q % (rs[k].high - rs[k].low + 1), rs[k].low + q % (rs[k].high - rs[k].low + 1)⟩] rfl (rd_new (enc := encR) (size := 2) _ ⟨rs[k].low + q % (rs[k].high - rs[k].low + 1), rs[k].low + q % (rs[k].high - rs[k].low + 1)⟩ 52 (wr.heap.size + 1) (by simp)) encR_len encR_one (by unfold maxLen; simp; omega) (by simp; omega) (by simp; omega) ?_); intro v' w3 ho hg)
              exact ⟨⟨k + 1, by omega, by go_num, HT.out, by rw [HS.out, List.flatMap_append]; exact ho, Below.grown (by repeat (first | exact Below.refl _ _ | exact (hB) | assumption | (refine Below.setCell ?_ (by first | omega | (simp; done) | (simp; omega) | (simp [World.setCell]; done) | (simp [World.setCell]; omega)) _) | (refine Below.alloc ?_ (by first | omega | (simp; done) | (simp; omega) | (simp [World.setCell]; done) | (simp [World.setCell]; omega)) _) | (refine Below.drewN_ ?_ _) | (refine Below.drew ?_))) hg (by simp; omega) (fun r e => (hrow.lt r e).1)⟩, by simp [intOf]; omega⟩
            · have HE := Lib.hid (show exV rs pk k = rs[k].low by unfold exV; rw [if_neg hp, HL.out])
              have hkp : (pk.length : Int) ≤ (k : Int) := by omega
              generalize exV rs pk k = xv at *
              generalize rs[k].low = x at *
              obtain rfl : xv = x := HE.out
              go_wp2_with (at_builtin; go_loud (refine wpList_append_rd _ rfl _ _ 25 rfl w.heap.size 52 i0 _ 2 16 Try.underlying25 ei0 ez0 ez1 ez2 rfl (by decide) u6 k ((pairT (exV rs pk) (exV rs pk) k).flatMap encR) rfl (by repeat (first | with_reducible exact hrow | with_reducible refine ownsRow_drew ?_ | with_reducible refine World.ownsRow.alloc ?_ _)) _ 1 0 _ [⟨xv, xv⟩] rfl (rd_new (enc := encR) (size := 2) _ ⟨xv, xv⟩ 52 (wr.heap.size + 1) (by simp)) encR_len encR_one (by unfold maxLen; simp; omega) (by simp; omega) (by simp; omega) ?_); intro v' w3 ho hg)
              exact ⟨⟨k + 1, by omega, by go_num, HT.out, by rw [HS.out, List.flatMap_append]; exact ho, Below.grown (by repeat (first | exact Below.refl _ _ | exact (hB) | assumption | (refine Below.setCell ?_ (by first | omega | (simp; done) | (simp; omega) | (simp [World.setCell]; done) | (simp [World.setCell]; omega)) _) | (refine Below.alloc ?_ (by first | omega | (simp; done) | (simp; omega) | (simp [World.setCell]; done) | (simp [World.setCell]; omega)) _) | (refine Below.drewN_ ?_ _) | (refine Below.drew ?_))) hg (by simp; omega) (fun r e => (hrow.lt r e).1)⟩, by simp [intOf]; omega⟩
    · obtain rfl : k = rs.length := by omega
      have HF := HALL.out
      rw [List.take_length] at HF
      have HF2 := Lib.hid HF
      clear HF
      go_wp2
      go_ret2
      obtain ⟨D, cd, rfl, hcd, hRd⟩ := ownsRow_rd encR_len (by decide) hrow (pairT_len _ _ _).symm
      rw [pairT_len] at hcd ⊢
      exact ⟨by unfold TrulyR; rw [HF2.out]; exact ⟨D, cd, rfl, hcd, hRd⟩, hB⟩
end Go.Proofs.Ytepibjfmeibgcaa
