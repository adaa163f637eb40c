/- An abstract walk: ways, heights and distances; bools compared. -/
import Derived.Test.YtepibjfmeibgcaaB4
namespace Go.Proofs.Ytepibjfmeibgcaa
open Go.RowKit
set_option linter.unusedVariables false
theorem bin_neq_bool {xo yo : Operand} (a b : Bool) {r : Bool} (h : (a != b) = r) : BinRun Try.prog .neq 4 xo yo (.bool a) (.bool b) (.bool r) := by
  subst h
  intro w
  cases a <;> cases b <;> kernel_rfl
theorem bin_eql_bool {xo yo : Operand} (a b : Bool) {r : Bool} (h : (a == b) = r) : BinRun Try.prog .eql 4 xo yo (.bool a) (.bool b) (.bool r) := by
  subst h
  intro w
  cases a <;> cases b <;> kernel_rfl
theorem rep_I {w : World} {lo c : Nat} {A : Option Addr} {xs : List Int} (hc : xs.length ≤ c) (h : RdI w lo w.heap.size A xs) : (DV.ls 1 xs.length (Lst eI xs)).rep w (fun b => lo ≤ b ∧ b < w.heap.size) (.slice A xs.length c) :=
  rep_of_rd heI (fun _ => rfl) (fun x u hu => by simp [encI] at hu; subst hu; rfl) rfl hc h
section
variable (n : Net) (hok : netB n = true)
include hok
theorem Way_T (i : Int) (h0 : 0 ≤ i) (h1 : i < n.pipes.length) : CallFr Try.prog 25 [.agg [.i n.pump, .ls 1], .i i] [1] [some (.ro 5 n.pipes.length (Lst eP n.pipes))] (.tup [.one (.ls 4), .one (.i 0)]) [(4, some (.ro 1 (wayL n.pipes i).length (Lst eI (wayL n.pipes i))))] :=
  callFr_ro rfl fun ν sup w m => by
    obtain ⟨A, c, e, h2, h3⟩ := mP m (i := 1) rfl
    simp only [List.map_cons, List.map_nil, SV.val, PV.val, LV.val, e]
    have hl := netB_len hok
    have hv : WayV n i = (wayL n.pipes i, 0) := by unfold WayV; rw [hok, if_pos rfl, inB_mk ⟨h0, by omega⟩, if_pos rfl]
    refine (WayC n A c w 0 _ h3 (Nat.le_refl _) h2 (by unfold maxLen; omega) i).mono fun e w' h => by
      obtain ⟨⟨B, d, h4, h5, h6⟩, h7⟩ := h
      rw [hv] at h4 h5 h6
      exact ⟨⟨_, by rw [h4, upd_self], rep_I h5 h6⟩, h7⟩
theorem Behind_T (i : Int) (h0 : 0 ≤ i) (h1 : i < n.pipes.length) : CallFr Try.prog 44 [.agg [.i n.pump, .ls 1], .i i] [1] [some (.ro 5 n.pipes.length (Lst eP n.pipes))] (.tup [.one (.ls 4), .one (.i 0)]) [(4, some (.ro 1 (trues (behL n.pipes i) 0).length (Lst eI (trues (behL n.pipes i) 0))))] :=
  callFr_ro rfl fun ν sup w m => by
    obtain ⟨A, c, e, h2, h3⟩ := mP m (i := 1) rfl
    simp only [List.map_cons, List.map_nil, SV.val, PV.val, LV.val, e]
    have hl := netB_len hok
    have hv : BehindV n i = (trues (behL n.pipes i) 0, 0) := by unfold BehindV; rw [hok, if_pos rfl, inB_mk ⟨h0, by omega⟩, if_pos rfl]
    refine (BehindC n A c w 0 _ h3 (Nat.le_refl _) h2 (by unfold maxLen; omega) i).mono fun e w' h => by
      obtain ⟨⟨B, d, h4, h5, h6⟩, h7⟩ := h
      rw [hv] at h4 h5 h6
      exact ⟨⟨_, by rw [h4, upd_self], rep_I h5 h6⟩, h7⟩
theorem Heights_T : CallFr Try.prog 30 [.agg [.i n.pump, .ls 1]] [1] [some (.ro 5 n.pipes.length (Lst eP n.pipes))] (.tup [.one (.ls 4), .one (.i 0)]) [(4, some (.ro 1 (heightsL n.pipes).length (Lst eI (heightsL n.pipes))))] :=
  callFr_ro rfl fun ν sup w m => by
    obtain ⟨A, c, e, h2, h3⟩ := mP m (i := 1) rfl
    simp only [List.map_cons, List.map_nil, SV.val, PV.val, LV.val, e]
    have hl := netB_len hok
    have hv : HeightsV n = (heightsL n.pipes, 0) := by unfold HeightsV; rw [hok, if_pos rfl]
    refine (HeightsC n A c w 0 _ h3 (Nat.le_refl _) h2 (by unfold maxLen; omega)).mono fun e w' h => by
      obtain ⟨⟨B, d, h4, h5, h6⟩, h7⟩ := h
      rw [hv] at h4 h5 h6
      exact ⟨⟨_, by rw [h4, upd_self], rep_I h5 h6⟩, h7⟩
theorem Between_T (a b : Int) (a0 : 0 ≤ a) (a1 : a < n.pipes.length) (b0 : 0 ≤ b) (b1 : b < n.pipes.length) : CallFr Try.prog 45 [.agg [.i n.pump, .ls 1], .i a, .i b] [1] [some (.ro 5 n.pipes.length (Lst eP n.pipes))] (.tup [.one (.i (dB n.pipes a b)), .one (.i 0)]) [] :=
  callFr_val fun ν sup w m => by
    obtain ⟨A, c, e, h2, h3⟩ := mP m (i := 1) rfl
    simp only [List.map_cons, List.map_nil, SV.val, PV.val, LV.val, e]
    have hl := netB_len hok
    have hv : BetweenV n a b = (dB n.pipes a b, 0) := by
      unfold BetweenV
      rw [hok, if_pos rfl, show inAll 0 ((n.pipes.length : Int) - 1) [a, b] = true by unfold inAll; simp [inB_mk (show (0 : Int) ≤ a ∧ a ≤ (n.pipes.length : Int) - 1 by omega), inB_mk (show (0 : Int) ≤ b ∧ b ≤ (n.pipes.length : Int) - 1 by omega)], if_pos rfl, betL_dB (netB_tree hok) a0 b0 a1 b1]
    refine (BetweenC n A c w 0 _ h3 (Nat.le_refl _) h2 (by unfold maxLen; omega) a b).mono fun e w' ⟨h4, h7⟩ => ⟨?_, h7⟩
    rw [h4, hv]
end
end Go.Proofs.Ytepibjfmeibgcaa
