/- Plain laws for the law of truths: picked flows lie in their ranges; a list of frozen pipes grows; what Loads and Vacuum come to for any valid flows. -/
import Derived.Test.YtepibjfmeibgcaaAq
namespace Go.Proofs.Ytepibjfmeibgcaa
open Go.RowKit
set_option linter.unusedVariables false
theorem exV_bd {rs : List Rng} {pk : List Int} (hf : flowsB rs = true) (hp : ∀ x ∈ pk, 0 ≤ x) {k : Nat} (hk : k < rs.length) : lowF rs k ≤ exV rs pk k ∧ exV rs pk k ≤ highF rs k := by
  have h := flow_at hf hk
  unfold exV
  split
  · rename_i hl
    have hq := hp _ (List.getElem_mem hl)
    rw [List.getD_eq_getElem?_getD, List.getElem?_eq_getElem hl]
    simp only [Option.getD_some]
    have h1 := Int.emod_nonneg pk[k] (show highF rs k - lowF rs k + 1 ≠ 0 by omega)
    have h2 := Int.emod_lt_of_pos pk[k] (show 0 < highF rs k - lowF rs k + 1 by omega)
    omega
  · omega
theorem frzF_grow {m x : Int} (h1 : 1 ≤ x ∧ x ≤ m - 1) : ∀ (zs seen : List Int), frzF m zs seen = 0 → memB (seen ++ zs) x = false → frzF m (zs ++ [x]) seen = 0 := by
  intro zs
  induction zs with
  | nil =>
    intro seen _ hm
    rw [List.append_nil] at hm
    simp only [List.nil_append, frzF]
    rw [inB_mk h1, hm]
    rfl
  | cons z zs ih =>
    intro seen h hm
    simp only [List.cons_append, frzF] at h ⊢
    cases hi : inB 1 (m - 1) z with
    | false => rw [hi] at h; simp at h
    | true =>
      rw [hi] at h
      cases hs : memB seen z with
      | true => rw [hs] at h; simp at h
      | false =>
        rw [hs] at h
        simp only [if_true, Bool.false_eq_true, if_false] at h ⊢
        exact ih (seen ++ [z]) h (by rw [List.append_assoc]; exact hm)
theorem pipeB_more {p : Pipe} {a b : Int} (h : pipeB p a = true) (hab : a ≤ b) : pipeB p b = true := by
  unfold pipeB at h ⊢
  simp only [Bool.and_eq_true] at h ⊢
  refine ⟨⟨⟨⟨?_, h.1.1.1.2⟩, h.1.1.2⟩, h.1.2⟩, h.2⟩
  have := inB_true h.1.1.1.1
  exact inB_mk ⟨this.1, by omega⟩
section
variable {n : Net} (hok : netB n = true) {rs : List Rng} (hl : rs.length = n.pipes.length) (hf : flowsB rs = true) {zs : List Int} (hz : frzF n.pipes.length zs [] = 0)
include hok hl hf hz
theorem flowE_R : flowE n rs zs = 0 := by
  unfold flowE
  rw [hok, if_pos rfl, chkF_frz hl hf]
  exact hz
theorem LoadsV_R : LoadsV n rs zs = (pairT (ldV n.pipes (lowF rs) zs) (ldV n.pipes (highF rs) zs) n.pipes.length, 0) := by
  unfold LoadsV
  rw [if_pos (flowE_R hok hl hf hz), loadsT (netB_tree hok)]
theorem VacuumV_R : VacuumV n rs zs = (pairT (vacV n.pump n.pipes (highF rs) zs) (vacV n.pump n.pipes (lowF rs) zs) n.pipes.length, 0) := by
  unfold VacuumV
  rw [if_pos (flowE_R hok hl hf hz), vacsT _ (netB_len hok).1]
end
theorem flowE_bad {n : Net} (hok : netB n = true) {rs : List Rng} (hl : rs.length = n.pipes.length) (hf : flowsB rs = false) (zs : List Int) : flowE n rs zs = 2 := by
  unfold flowE
  rw [hok, if_pos rfl, chkF_bad hl hf]
/-- The vacuum of true flows lies between those of the ends. -/
theorem vacV_between {n : Net} (hok : netB n = true) {f g : Nat → Int} {zs : List Int} (h : ∀ k, k < n.pipes.length → f k ≤ g k) {k : Nat} (hk : k < n.pipes.length) : vacV n.pump n.pipes g zs k ≤ vacV n.pump n.pipes f zs k :=
  vacV_le rfl (fun _ _ => rfl) (netB_tree hok) (netB_tree hok) g f zs (fun i h0 hi => loss_more ((netB_good hok).2 i h0 hi) (ldV_mono h hi)) k hk
end Go.Proofs.Ytepibjfmeibgcaa
