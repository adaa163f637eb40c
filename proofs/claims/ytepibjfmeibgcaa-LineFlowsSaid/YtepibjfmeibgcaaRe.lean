/- What the reference's Ends returns. -/
import Derived.Test.YtepibjfmeibgcaaRo
import Derived.Test.YtepibjfmeibgcaaWu
namespace Go.Proofs.Ytepibjfmeibgcaa
open Go.RowKit
set_option linter.unusedVariables false
/-- Two rows of one's own that do not share a block. -/
def Sep (v1 v2 : Value) : Prop := v1.ownBlock = none ∨ v1.ownBlock ≠ v2.ownBlock
theorem Sep.symm {v1 v2 : Value} (h : Sep v1 v2) : Sep v2 v1 := by
  rcases h with h | h
  · cases h2 : v2.ownBlock with
    | none => exact .inl h2
    | some b => exact .inr (by rw [h, h2]; simp)
  · exact .inr (Ne.symm h)
theorem Sep.grow {v1 v2 v1' : Value} {s : Nat} (h : Sep v1 v2) (h1 : v1'.ownBlock = v1.ownBlock ∨ v1'.ownBlock = some s) (l2 : ∀ b, v2.ownBlock = some b → b < s) : Sep v1' v2 := by
  rcases h1 with h1 | h1
  · unfold Sep; rw [h1]; exact h
  · exact .inr (by rw [h1]; intro e; exact absurd (l2 s e.symm) (Nat.lt_irrefl _))
set_option maxHeartbeats 2000000 in
set_option maxRecDepth 100000 in
theorem refEnds_ (rs : List Rng) (A : Option Addr) (c lo hi : Nat) (w : World) (hR : RdR w lo hi A rs) (hhi : hi ≤ w.heap.size) (hn : rs.length ≤ 1000000) :
    Calls Try.prog 78 #[.slice A rs.length c] w fun e w' => (∃ B1 c1 B2 c2, e = .returned (.tuple #[.slice B1 rs.length c1, .slice B2 rs.length c2]) ∧ RdI w' w.heap.size w'.heap.size B1 (rs.map (·.low)) ∧ RdI w' w.heap.size w'.heap.size B2 (rs.map (·.high))) ∧ Below w.heap.size w w' := by
  obtain ⟨i0, ei0, ez0, ez1, ez2⟩ := info_parts infoInt
  go_enter Try.func78, Try.ntmps78
  go_wp2_with fail
  go_loopw [4, 5, 6] (fun v1 v2 i wr => ∃ k : Nat, k ≤ rs.length ∧ i = .int .i64 k ∧ wr.ownsRow w.heap.size 3 1 v1 k ((rs.take k).map (fun r => I r.low)) ∧ wr.ownsRow w.heap.size 3 1 v2 k ((rs.take k).map (fun r => I r.high)) ∧ Sep v1 v2 ∧ Below w.heap.size w wr) (fun _ _ i _ => rs.length - (intOf i).toNat)
  case atStart =>
    refine ⟨0, Nat.zero_le _, rfl, ?_, ?_, ?_, (by repeat (first | exact Below.refl _ _ | exact (Below.refl _ _) | assumption | (refine Below.setCell ?_ (by first | omega | (simp; done) | (simp; omega) | (simp [World.setCell]; done) | (simp [World.setCell]; omega)) _) | (refine Below.alloc ?_ (by first | omega | (simp; done) | (simp; omega) | (simp [World.setCell]; done) | (simp [World.setCell]; omega)) _) | (refine Below.drewN_ ?_ _) | (refine Below.drew ?_)))⟩
    · exact (owns_empty1 w w.heap.size w.heap.size _ (Nat.le_refl _) rfl).alloc _
    · exact owns_empty1 _ w.heap.size _ _ (by simp) (by simp)
    · exact .inr (by simp [Value.ownBlock])
  case round =>
    obtain ⟨k, hk, rfl, hl, hh, hs, hB⟩ := hrel
    have hz := hB.size
    by_cases hlt : k < rs.length
    · have hkl : (k : Int) < (rs.length : Int) := by omega
      obtain ⟨bb, off, rfl, _, hbb, c0, c1⟩ := RdR.at_ (hR.below hB hhi) hlt
      have e1 := Lib.hid (show (rs.take (k + 1)).map (fun r => I r.low) = (rs.take k).map (fun r => I r.low) ++ [I rs[k].low] by rw [List.take_succ_eq_append_getElem hlt, List.map_append]; rfl)
      have e2 := Lib.hid (show (rs.take (k + 1)).map (fun r => I r.high) = (rs.take k).map (fun r => I r.high) ++ [I rs[k].high] by rw [List.take_succ_eq_append_getElem hlt, List.map_append]; rfl)
      have HC := Lib.hid (fun (V : World) (hV : Below w.heap.size w V) => (by
        obtain ⟨b', o', e, _, _, _, d1⟩ := RdR.at_ (hR.below hV hhi) hlt
        cases e
        exact d1 : V.cell? ⟨bb, off + k * 2 + 1, none⟩ = some (.int .i64 rs[k].high)))
      have hbw : bb < wr.heap.size := by omega
      obtain ⟨lw0, lw1, lw2, lw3, lw4, lw5⟩ := lt6 (show bb < wr.heap.size by omega)
      generalize rs[k].low = x at *
      generalize rs[k].high = y at *
      generalize (rs.take k).map (fun r => I r.low) = L1 at *
      generalize (rs.take k).map (fun r => I r.high) = L2 at *
      have hne1 : ∀ j, wr.heap.size ≤ j → some j ≠ u4.ownBlock := fun j hj e => by have := (hl.lt j e.symm).2; omega
      have HNE := Lib.hid hne1
      clear hne1
      go_wp2_with fail
      go_region_law (first
        | (refine step_append_cell rfl (.tmp 23) (.tmp 29) _ rfl w.heap.size 3 i0 _ 8 Try.underlying31 ei0 ez0 ez1 ez2 rfl u5 k L2 rfl (by repeat (first | with_reducible exact hh1 | with_reducible refine ownsRow_drew ?_ | with_reducible refine World.ownsRow.alloc ?_ _)) _ _ (I y) rfl (by first | (simp; done) | (refine (hg1.cell_far ⟨_, 0, none⟩ (by first | (simp; done) | (simp; omega)) (HNE.out _ (by first | (simp; done) | (simp; omega)))).trans ?_; first | (simp; done) | (go_simp; done))) rfl (by unfold maxLen; omega) (by omega) (by have := hB1.size; simp; omega) ?_; intro v2' w2 ho2 hg2 hat2; have ho3 : w2.ownsRow w.heap.size 3 1 v1' (k + 1) (L1 ++ [I x]) := World.ownsRow.kept (by repeat (first | with_reducible exact ho1 | with_reducible refine ownsRow_drew ?_ | with_reducible refine World.ownsRow.alloc ?_ _)) hg2 hs1; have hs2 : Sep v1' v2' := (hs1.symm.grow hat2 (fun b e => by have := (ho1.lt b e).2; simp; omega)).symm; have hB2 : Below w.heap.size w w2 := Below.grown (by repeat (first | exact Below.refl _ _ | exact (hB1) | assumption | (refine Below.setCell ?_ (by first | omega | (simp; done) | (simp; omega) | (simp [World.setCell]; done) | (simp [World.setCell]; omega)) _) | (refine Below.alloc ?_ (by first | omega | (simp; done) | (simp; omega) | (simp [World.setCell]; done) | (simp [World.setCell]; omega)) _) | (refine Below.drewN_ ?_ _) | (refine Below.drew ?_))) hg2 (by have := hB1.size; simp; omega) (fun r e => (hh.lt r e).1))
        | (refine step_append_cell rfl (.tmp 15) (.tmp 21) _ rfl w.heap.size 3 i0 _ 8 Try.underlying31 ei0 ez0 ez1 ez2 rfl u4 k L1 rfl (by repeat (first | with_reducible exact hl | with_reducible refine ownsRow_drew ?_ | with_reducible refine World.ownsRow.alloc ?_ _)) _ _ (I x) rfl (by first | (simp; done) | (go_simp; done)) rfl (by unfold maxLen; omega) (by omega) (by simp; omega) ?_; intro v1' w1 ho1 hg1 hat1; have hh1 : w1.ownsRow w.heap.size 3 1 u5 k L2 := World.ownsRow.kept (by repeat (first | with_reducible exact hh | with_reducible refine ownsRow_drew ?_ | with_reducible refine World.ownsRow.alloc ?_ _)) hg1 hs.symm; have hs1 : Sep v1' u5 := hs.grow hat1 (fun b e => by have := (hh.lt b e).2; simp; omega); have hB1 : Below w.heap.size w w1 := Below.grown (by repeat (first | exact Below.refl _ _ | exact (hB) | assumption | (refine Below.setCell ?_ (by first | omega | (simp; done) | (simp; omega) | (simp [World.setCell]; done) | (simp [World.setCell]; omega)) _) | (refine Below.alloc ?_ (by first | omega | (simp; done) | (simp; omega) | (simp [World.setCell]; done) | (simp [World.setCell]; omega)) _) | (refine Below.drewN_ ?_ _) | (refine Below.drew ?_))) hg1 (by simp; omega) (fun r e => (hl.lt r e).1); have c1' := HC.out _ hB1; have hz1 := hB1.size))
      all_goals
        go_wp2_with fail
        refine ⟨⟨k + 1, by omega, by go_num, by rw [e1.out]; exact ho3, by rw [e2.out]; exact ho2, hs2, hB2⟩, by simp [intOf]; omega⟩
    · obtain rfl : k = rs.length := by omega
      go_wp2
      go_ret2
      rw [List.take_of_length_le (Nat.le_refl _)] at hl hh
      have q1 : (rs.map (fun r => I r.low)) = (rs.map (·.low)).map I := by simp
      have q2 : (rs.map (fun r => I r.high)) = (rs.map (·.high)).map I := by simp
      rw [q1] at hl
      rw [q2] at hh
      have m1 : rs.length = (rs.map (·.low)).length := by simp
      have m2 : rs.length = (rs.map (·.high)).length := by simp
      rw [m1] at hl
      rw [m2] at hh
      obtain ⟨B1, c1, rfl, _, r1⟩ := ownsRow_rdI hl
      obtain ⟨B2, c2, rfl, _, r2⟩ := ownsRow_rdI hh
      exact ⟨⟨B1, c1, B2, c2, by simp, r1, r2⟩, hB⟩
end Go.Proofs.Ytepibjfmeibgcaa
