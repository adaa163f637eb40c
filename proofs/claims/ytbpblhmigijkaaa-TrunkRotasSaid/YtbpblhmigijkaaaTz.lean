/- Trunk: the document's examples, computed. -/
import Derived.Test.YtbpblhmigijkaaaTq
import Derived.KernelRfl
namespace Go.Proofs.Ytbpblhmigijkaaa
open Go.RowKit
set_option linter.unusedVariables false
def nC (l h : Int) (i : Nat) : Int := if i < 3600 then (if (i : Int) ≤ l then l else if (i : Int) ≤ h then i else 7200) else 7200
theorem nextL_one {p : Int → Bool} {l h : Int} (hp : ∀ a, p a = (decide (l ≤ a) && decide (a ≤ h))) (h0 : 0 ≤ l) (h1 : l ≤ h) (h2 : h < 3600) : ∀ {k : Nat} {a : Int}, 0 ≤ a → a + k = 3600 → nextL p k a = if a ≤ l then l else if a ≤ h then a else 7200 := by
 intro k
 induction k with
 | zero =>
  intro a ha hk
  simp only [nextL]
  rw [if_neg (by omega), if_neg (by omega)]
 | succ k ih =>
  intro a ha hk
  simp only [nextL, hp]
  by_cases h3 : l ≤ a ∧ a ≤ h
  ·rw [if_pos (by simp; exact h3)]
   split
   ·omega
   ·rw [if_pos h3.2]
  ·rw [if_neg (by simp; omega), ih (by omega) (by omega)]
   by_cases h4 : a < l
   ·rw [if_pos (by omega), if_pos (by omega)]
   ·rw [if_neg (by omega), if_neg (by omega), if_neg (by omega), if_neg (by omega)]
theorem nextV_one {x : TrkV} {e l h : Int} (hw : within x.r.blo x.r.bhi [e] = true) (hf : freeV x e = [⟨l, h⟩]) (h0 : 0 ≤ l) (h1 : l ≤ h) (h2 : h < 3600) : nextV x e = nC l h := by
 funext i
 unfold nextV nC
 split
 ·exact nextL_one (fun a => by unfold roomB; rw [hw, hf]; simp [inS]) h0 h1 h2 (by omega) (by omega)
 ·rfl
def exX : TrkV := openV exTree exRule 24
set_option maxRecDepth 100000 in
theorem ex_free : freeV exX 1000 = [⟨178, 3422⟩] := by kernel_rfl
theorem ex_next : nextV exX 1000 = nC 178 3422 := nextV_one (by decide) ex_free (by omega) (by omega) (by omega)
theorem ex_gap : gapV exX = 1181 := by decide
set_option maxRecDepth 1000000 in
theorem ex_most : mostV (nC 178 3422) 1181 = 3 := by kernel_rfl
set_option maxRecDepth 1000000 in
theorem ex_ang : anglesO (nC 178 3422) 1181 2 = some [178, 1359] := by kernel_rfl
theorem ex_start : startE exTree exRule 24 = 0 := by decide
theorem ex_keeps : keepsR exTree exRule 24 [⟨178, 1000⟩, ⟨1359, 1000⟩] = ⟨1, 4⟩ := by kernel_rfl
theorem ex_at : atE exTree exRule 24 1000 = 0 := by decide
theorem ex_G : girthE exTree 24 = 0 := by decide
theorem ex_GR : girthR exTree 24 = ⟨1220, 1300⟩ := by decide
theorem ex_T : tapsR exTree exRule 24 = ⟨1, 1⟩ := by decide
theorem ex_F : freeR exTree exRule 24 1000 = [⟨178, 3422⟩] := by
 unfold freeR
 rw [if_pos ex_at]
 exact ex_free
theorem ex_M : mostR exTree exRule 24 1000 = 3 := by
 unfold mostR
 rw [if_pos ex_at]
 show mostV (nextV exX 1000) (gapV exX) = 3
 rw [ex_next, ex_gap, ex_most]
theorem ex_ang2 : anglesO (nextV (openV exTree exRule 24) 1000) (gapV (openV exTree exRule 24)) 2 = some [178, 1359] := by
 show anglesO (nextV exX 1000) (gapV exX) 2 = _
 rw [ex_next, ex_gap, ex_ang]
theorem ex_SE : spotsE exTree exRule 24 1000 2 = 0 := by
 unfold spotsE
 rw [if_neg (by rw [ex_at]; decide), if_pos (by decide), ex_ang2]
 rfl
theorem ex_SR : spotsR exTree exRule 24 1000 2 = [⟨178, 1000⟩, ⟨1359, 1000⟩] := by
 unfold spotsR
 rw [if_pos ex_SE]
 unfold spotsL
 rw [ex_ang2]
 rfl
theorem ex_KE : keepsE exTree exRule 24 [⟨178, 1000⟩, ⟨1359, 1000⟩] = 0 := by decide
end Go.Proofs.Ytbpblhmigijkaaa
