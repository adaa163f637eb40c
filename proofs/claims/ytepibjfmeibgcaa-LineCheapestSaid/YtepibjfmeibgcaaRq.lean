/- What lies behind a node, and how far it is between two, by the ways. No program is in sight here. -/
import Derived.Test.YtepibjfmeibgcaaRp
import Derived.Test.YtepibjfmeibgcaaPm
namespace Go.Proofs.Ytepibjfmeibgcaa
/-- Whether a node is on the way of another one. -/
def onB (ps : List Pipe) (i a : Int) : Bool := memB (wayL ps a) i
theorem memB_cons (x y : Int) (l : List Int) : memB (x :: l) y = (decide (y = x) || memB l y) := by unfold memB; simp
theorem onB_step {ps : List Pipe} (ht : Tree ps) {a : Int} (h0 : 0 ≤ a) (ha : a < ps.length) (i : Int) : onB ps i a = (decide (i = a) || onB ps i (par ps a)) := by
  unfold onB; rw [wayL_step ht h0 ha, memB_cons]
theorem wayF_le {ps : List Pipe} (ht : Tree ps) : ∀ (f : Nat) (i x : Int), i < ps.length → x ∈ wayF ps f i → x ≤ i := by
  intro f
  induction f with
  | zero => intro i x _ h; simp [wayF] at h
  | succ f ih =>
    intro i x hi h
    unfold wayF at h
    split at h
    · cases h
    · rename_i h0
      rcases List.mem_cons.1 h with rfl | h
      · exact Int.le_refl _
      · have := ht i.toNat (by omega)
        rw [show ((i.toNat : Nat) : Int) = i by omega] at this
        have := ih _ x (by omega) h
        omega
theorem onB_gt {ps : List Pipe} (ht : Tree ps) {i a : Int} (ha : a < ps.length) (h : a < i) : onB ps i a = false := by
  cases hb : onB ps i a with
  | false => rfl
  | true => have := wayF_le ht _ a i ha ((memB_iff _ _).1 hb); omega
theorem onB_neg (ps : List Pipe) (i : Int) {a : Int} (h : a < 0) : onB ps i a = false := by unfold onB; rw [wayL_neg ps h]; rfl
theorem beh_way {ps : List Pipe} (ht : Tree ps) {node : Int} (hn : 0 ≤ node) : ∀ k, k ≤ ps.length → ∀ j, j < k → (behF node (ps.take k) []).getD j false = onB ps node (j : Int) := by
  intro k
  induction k with
  | zero => intro _ j hj; omega
  | succ k ih =>
    intro hk j hj
    have hl : (behF node (ps.take k) []).length = k := by rw [behF_len]; simp; omega
    rw [List.take_succ_eq_append_getElem (show k < ps.length by omega), behF_snoc]
    by_cases hjk : j < k
    · have := ih (by omega) j hjk
      rw [List.getD_eq_getElem?_getD] at this ⊢
      rw [List.getElem?_append_left (by omega)]; exact this
    · obtain rfl : j = k := by omega
      rw [List.getD_eq_getElem?_getD, List.getElem?_append_right (by omega), hl, Nat.sub_self]
      simp only [List.getElem?_cons_zero, Option.getD_some]
      have h1 := ht j (by omega)
      rw [onB_step ht (by omega) (by omega)]
      unfold behStep
      rw [par_nat (by omega)] at h1 ⊢
      have e1 : decide ((j : Int) = node) = decide (node = (j : Int)) := by congr 1; exact propext eq_comm
      rw [e1]
      congr 1
      by_cases hlt : node < (j : Int)
      · rw [decide_eq_true hlt, Bool.true_and]
        have hp : 0 ≤ ps[j].parent := by
          have h2 := h1.2.2.1
          have h3 := h1.1
          rcases (show ps[j].parent = -1 ∨ 0 ≤ ps[j].parent by omega) with h | h
          · have := h2 h; omega
          · exact h
        have := ih (by omega) (max ps[j].parent 0).toNat (by omega)
        rw [this]
        congr 1; omega
      · rw [decide_eq_false hlt, Bool.false_and]
        by_cases hp : ps[j].parent < 0
        · rw [onB_neg ps _ hp]
        · rw [onB_gt ht (by omega) (by omega)]
theorem behL_way {ps : List Pipe} (ht : Tree ps) {node : Int} (hn : 0 ≤ node) {j : Nat} (hj : j < ps.length) : (behL ps node).getD j false = onB ps node (j : Int) := by
  have := beh_way ht hn ps.length (Nat.le_refl _) j hj
  rw [List.take_length] at this
  exact this
/-- The nodes behind a node, one by one. -/
def behT (ps : List Pipe) (node : Int) (m : Nat) : List Int := ((List.range m).filter fun (i : Nat) => onB ps node (i : Int)).map Int.ofNat
theorem behT_succ (ps : List Pipe) (node : Int) (m : Nat) : behT ps node (m + 1) = behT ps node m ++ if onB ps node (m : Int) then [(m : Int)] else [] := by
  unfold behT
  rw [List.range_succ, List.filter_append, List.map_append]
  cases h : onB ps node (m : Int) <;> simp [h]
theorem trues_way {ps : List Pipe} (ht : Tree ps) {node : Int} (hn : 0 ≤ node) : trues (behL ps node) 0 = behT ps node ps.length := by
  have hl : (behL ps node).length = ps.length := by unfold behL; rw [behF_len]; simp
  have key : ∀ k, k ≤ ps.length → trues ((behL ps node).take k) 0 = behT ps node k := by
    intro k
    induction k with
    | zero => intro _; simp [trues, behT]
    | succ k ih =>
      intro hk
      rw [List.take_succ_eq_append_getElem (by omega), trues_snoc, ih (by omega), behT_succ]
      have := behL_way ht hn (show k < ps.length by omega)
      rw [List.getD_eq_getElem?_getD, List.getElem?_eq_getElem (by omega)] at this
      simp only [Option.getD_some] at this
      rw [this]
      congr 1
      simp; rw [Nat.min_eq_left (by omega)]
  have := key ps.length (Nat.le_refl _)
  rw [List.take_of_length_le (by omega)] at this
  exact this
/-- How far it is between two nodes, pipe by pipe. -/
def apart (ps : List Pipe) (a b : Int) (j : Nat) : Int := if 0 < j ∧ onB ps j a ≠ onB ps j b then (pAt ps j).length else 0
def dB (ps : List Pipe) (a b : Int) : Int := sg ps.length (apart ps a b)
theorem dB_comm (ps : List Pipe) (a b : Int) : dB ps a b = dB ps b a := by
  unfold dB; congr 1; funext j; unfold apart
  by_cases h : onB ps j a = onB ps j b
  · rw [if_neg (by simp [h]), if_neg (by simp [h])]
  · by_cases h0 : 0 < j
    · rw [if_pos ⟨h0, h⟩, if_pos ⟨h0, Ne.symm h⟩]
    · rw [if_neg (by simp [h0]), if_neg (by simp [h0])]
theorem sg_zero (n : Nat) : sg n (fun _ => 0) = 0 := by
  induction n with
  | zero => rfl
  | succ n ih => rw [sg_succ, ih]; rfl
theorem sg_congr {a b : Nat → Int} (n : Nat) (h : ∀ j, j < n → a j = b j) : sg n a = sg n b := by
  induction n with
  | zero => rfl
  | succ n ih => rw [sg_succ, sg_succ, ih (fun j hj => h j (by omega)), h n (by omega)]
theorem dB_same (ps : List Pipe) (a : Int) : dB ps a a = 0 := by
  unfold dB
  rw [sg_congr (b := fun _ => 0) _ (fun j _ => by unfold apart; rw [if_neg (by simp)]), sg_zero]
theorem dB_step {ps : List Pipe} (ht : Tree ps) {a b : Int} (hb : 0 ≤ b) (hab : b < a) (ha : a < ps.length) : dB ps a b = (pAt ps a.toNat).length + dB ps (par ps a) b := by
  have h1 := ht a.toNat (by omega)
  rw [show ((a.toNat : Nat) : Int) = a by omega] at h1
  have hpt := sg_pt (a := apart ps a b) (b := fun _ => 0) (c := apart ps (par ps a) b) (d := fun j => if j = a.toNat then (pAt ps j).length else 0) ps.length (fun j hj => by
    unfold apart
    rw [onB_step ht (by omega) ha (j : Int)]
    by_cases hja : j = a.toNat
    · subst hja
      rw [show ((a.toNat : Nat) : Int) = a by omega, onB_gt ht (i := a) (a := b) (by omega) hab, onB_gt ht (i := a) (a := par ps a) (by omega) (by omega)]
      simp; omega
    · have : ¬ ((j : Int) = a) := by omega
      rw [decide_eq_false this, Bool.false_or, if_neg hja])
  rw [sg_zero, sg_one, if_pos (by omega)] at hpt
  unfold dB
  omega
theorem betF_dB {ps : List Pipe} (ht : Tree ps) : ∀ (f : Nat) (a b : Int), 0 ≤ a → 0 ≤ b → a < ps.length → b < ps.length → a + b + 1 ≤ f → betF ps f a b = dB ps a b := by
  intro f
  induction f with
  | zero => intro a b h1 h2 _ _ h3; omega
  | succ f ih =>
    intro a b h1 h2 ha hb hf
    unfold betF
    by_cases he : a = b
    · rw [if_pos he, he, dB_same]
    · rw [if_neg he]
      rcases Int.lt_or_gt_of_ne he with hlt | hlt
      · have h3 := ht b.toNat (by omega)
        rw [show ((b.toNat : Nat) : Int) = b by omega] at h3
        have hp : par ps b ≠ -1 := fun h => by have := h3.2.2.1 h; omega
        rw [show max a b = b by omega, show min a b = a by omega, ih _ _ (by omega) h1 (by omega) ha (by omega), dB_comm ps a b, dB_step ht h1 hlt hb]; rfl
      · have h3 := ht a.toNat (by omega)
        rw [show ((a.toNat : Nat) : Int) = a by omega] at h3
        have hp : par ps a ≠ -1 := fun h => by have := h3.2.2.1 h; omega
        rw [show max a b = a by omega, show min a b = b by omega, ih _ _ (by omega) h2 (by omega) hb (by omega), dB_step ht h2 hlt ha]; rfl
theorem betL_dB {ps : List Pipe} (ht : Tree ps) {a b : Int} (h1 : 0 ≤ a) (h2 : 0 ≤ b) (ha : a < ps.length) (hb : b < ps.length) : betL ps a b = dB ps a b := betF_dB ht _ a b h1 h2 ha hb (by omega)
end Go.Proofs.Ytepibjfmeibgcaa
