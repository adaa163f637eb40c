/- Plain law of LineForest: ways in a tree. No program is in sight here. -/
import Derived.Test.YtepibjfmeibgcaaAq
import Derived.Test.YtepibjfmeibgcaaA25
import Derived.Test.YtepibjfmeibgcaaM1
import Derived.Test.YtepibjfmeibgcaaB3
namespace Go.Proofs.Ytepibjfmeibgcaa
open Go.RowKit
set_option linter.unusedVariables false
set_option linter.unusedSectionVars false
section
variable {ps : List Pipe} (ht : Tree ps)
include ht
theorem par_lt {a : Int} (h0 : 0 ≤ a) (ha : a < ps.length) : -1 ≤ par ps a ∧ par ps a < a ∧ (par ps a = -1 ↔ a = 0) := by
  have h := ht a.toNat (by omega)
  rw [show ((a.toNat : Nat) : Int) = a by omega] at h
  exact ⟨h.1, h.2.1, by rw [h.2.2]; omega⟩
theorem onB_ng {a : Int} (h : a < 0) (j : Int) : onB ps j a = false := by unfold onB; rw [wayL_neg ps h]; rfl
theorem onB_self {a : Int} (h0 : 0 ≤ a) (ha : a < ps.length) : onB ps a a = true := by rw [onB_step ht h0 ha]; simp
theorem onB_trans {i b : Int} : ∀ (f : Nat) (a : Int), a < f → a < ps.length → onB ps i b = true → onB ps b a = true → onB ps i a = true := by
  intro f
  induction f with
  | zero => intro a h0 _ _ h; rw [onB_ng ht (by omega)] at h; cases h
  | succ f ih =>
    intro a hf ha h1 h2
    by_cases h0 : 0 ≤ a
    · have hp := par_lt ht h0 ha
      rw [onB_step ht h0 ha] at h2 ⊢
      simp only [Bool.or_eq_true, decide_eq_true_eq] at h2 ⊢
      rcases h2 with rfl | h2
      · rw [onB_step ht h0 ha] at h1; simpa using h1
      · exact .inr (ih _ (by omega) (by omega) h1 h2)
    · rw [onB_ng ht (by omega)] at h2; cases h2
theorem onB_chain {i j : Int} : ∀ (f : Nat) (a : Int), a < f → a < ps.length → onB ps i a = true → onB ps j a = true → i ≤ j → onB ps i j = true := by
  intro f
  induction f with
  | zero => intro a h0 _ h; rw [onB_ng ht (by omega)] at h; cases h
  | succ f ih =>
    intro a hf ha h1 h2 hij
    by_cases h0 : 0 ≤ a
    · have hp := par_lt ht h0 ha
      have h2' := h2
      rw [onB_step ht h0 ha] at h2'
      simp only [Bool.or_eq_true, decide_eq_true_eq] at h2'
      rcases h2' with rfl | h2'
      · exact h1
      · have hj : j ≤ par ps a := by
          rcases Int.lt_or_le (par ps a) j with h | h
          · rw [onB_gt ht (by omega) h] at h2'; cases h2'
          · exact h
        have h1' := h1
        rw [onB_step ht h0 ha] at h1'
        simp only [Bool.or_eq_true, decide_eq_true_eq] at h1'
        rcases h1' with h | h
        · omega
        · exact ih _ (by omega) (by omega) h h2' hij
    · rw [onB_ng ht (by omega)] at h1; cases h1
theorem onB_zero : ∀ (f : Nat) (a : Int), a < f → 0 ≤ a → a < ps.length → onB ps 0 a = true := by
  intro f
  induction f with
  | zero => intro a h0 h1; omega
  | succ f ih =>
    intro a hf h0 ha
    have hp := par_lt ht h0 ha
    rw [onB_step ht h0 ha]
    by_cases h : a = 0
    · simp [h]
    · have : par ps a ≠ -1 := fun e => h (hp.2.2.1 e)
      rw [ih _ (by omega) (by omega) (by omega)]; simp
theorem onB_le {i a : Int} (ha : a < ps.length) (h : onB ps i a = true) : i ≤ a := by
  rcases Int.lt_or_le a i with h1 | h1
  · rw [onB_gt ht ha h1] at h; cases h
  · exact h1
theorem onB_nonneg {i : Int} : ∀ (f : Nat) (a : Int), a < f → a < ps.length → onB ps i a = true → 0 ≤ i := by
  intro f
  induction f with
  | zero => intro a h0 _ h; rw [onB_ng ht (by omega)] at h; cases h
  | succ f ih =>
    intro a hf ha h
    by_cases h0 : 0 ≤ a
    · have hp := par_lt ht h0 ha
      rw [onB_step ht h0 ha] at h
      simp only [Bool.or_eq_true, decide_eq_true_eq] at h
      rcases h with rfl | h
      · exact h0
      · exact ih _ (by omega) (by omega) h
    · rw [onB_ng ht (by omega)] at h; cases h
/-- The first node of a way that is on another way. -/
theorem meet_is (b : Int) (hb0 : 0 ≤ b) (hb : b < ps.length) : ∀ (f : Nat) (a : Int), a < f → 0 ≤ a → a < ps.length →
    ∃ m, ((wayL ps a).find? fun x => memB (wayL ps b) x) = some m ∧ onB ps m a = true ∧ onB ps m b = true ∧ ∀ j, onB ps j a = true → onB ps j b = true → j ≤ m := by
  intro f
  induction f with
  | zero => intro a h0 h1; omega
  | succ f ih =>
    intro a hf h0 ha
    have hp := par_lt ht h0 ha
    rw [wayL_step ht h0 ha, List.find?_cons]
    cases hm : memB (wayL ps b) a with
    | true => exact ⟨a, rfl, onB_self ht h0 ha, hm, fun j h1 _ => onB_le ht ha h1⟩
    | false =>
      have hne : a ≠ 0 := fun e => by
        have := onB_zero ht (b.toNat + 1) b (by omega) hb0 hb
        unfold onB at this; rw [← e, hm] at this; cases this
      have : par ps a ≠ -1 := fun e => hne (hp.2.2.1 e)
      obtain ⟨m, h1, h2, h3, h4⟩ := ih (par ps a) (by omega) (by omega) (by omega)
      refine ⟨m, h1, ?_, h3, fun j h5 h6 => ?_⟩
      · rw [onB_step ht h0 ha, h2]; simp
      · rw [onB_step ht h0 ha] at h5
        simp only [Bool.or_eq_true, decide_eq_true_eq] at h5
        rcases h5 with rfl | h5
        · unfold onB at h6; rw [hm] at h6; cases h6
        · exact h4 j h5 h6
end
theorem sg_null {a : Nat → Int} : ∀ (n : Nat), (∀ j, j < n → 0 ≤ a j) → (sg n a = 0 ↔ ∀ j, j < n → a j = 0) := by
  intro n
  induction n with
  | zero => intro _; exact ⟨fun _ j hj => by omega, fun _ => rfl⟩
  | succ n ih =>
    intro h
    have h1 := ih fun j hj => h j (by omega)
    have h2 := sg_nonneg n fun j hj => h j (by omega)
    have h3 := h n (by omega)
    rw [sg_succ]
    constructor
    · intro e j hj
      rcases Nat.lt_or_ge j n with h4 | h4
      · exact h1.1 (by omega) j h4
      · obtain rfl : j = n := by omega
        omega
    · intro e
      rw [h1.2 fun j hj => e j (by omega), e n (by omega)]; rfl
section
variable {ps : List Pipe} (ht : Tree ps) (hl : ∀ j, 0 < j → j < ps.length → 1 ≤ (pAt ps j).length ∧ (pAt ps j).length ≤ 100000) {a b c : Int} (a0 : 0 ≤ a) (a1 : a < ps.length) (b0 : 0 ≤ b) (b1 : b < ps.length) (c0 : 0 ≤ c) (c1 : c < ps.length)
include hl
theorem apart_nn (x y : Int) {j : Nat} (hj : j < ps.length) : 0 ≤ apart ps x y j ∧ apart ps x y j ≤ 100000 := by
  unfold apart
  split
  · have := hl j (by omega) hj; omega
  · omega
theorem dB_bd (x y : Int) (hn : ps.length ≤ 60) : 0 ≤ dB ps x y ∧ dB ps x y ≤ 6000000 := by
  unfold dB
  have key : ∀ k, k ≤ ps.length → 0 ≤ sg k (apart ps x y) ∧ sg k (apart ps x y) ≤ k * 100000 := by
    intro k
    induction k with
    | zero => intro _; simp [sg]
    | succ k ih =>
      intro hk
      have h1 := ih (by omega)
      have h2 := apart_nn hl x y (show k < ps.length by omega)
      rw [sg_succ]; omega
  have := key _ (Nat.le_refl _)
  omega
theorem apart_tri (a b c : Int) {j : Nat} (hj : j < ps.length) : apart ps a b j ≤ apart ps a c j + apart ps c b j ∧ (apart ps a b j = apart ps a c j + apart ps c b j ↔ (0 < j → onB ps j a = onB ps j b → onB ps j c = onB ps j a)) := by
  unfold apart
  by_cases h0 : 0 < j
  · have h := hl j h0 hj
    cases onB ps j a <;> cases onB ps j b <;> cases onB ps j c <;> simp [h0] <;> omega
  · simp [h0]
theorem dB_tri (a b c : Int) : dB ps a b ≤ dB ps a c + dB ps c b ∧ (dB ps a b = dB ps a c + dB ps c b ↔ ∀ j : Nat, j < ps.length → 0 < j → onB ps j a = onB ps j b → onB ps j c = onB ps j a) := by
  have e : dB ps a c + dB ps c b = dB ps a b + sg ps.length (fun j => apart ps a c j + apart ps c b j - apart ps a b j) := by
    unfold dB
    exact sg_pt _ fun j hj => by omega
  have hnn : ∀ j, j < ps.length → 0 ≤ apart ps a c j + apart ps c b j - apart ps a b j := fun j hj => by
    have := (apart_tri hl a b c hj).1; omega
  refine ⟨by have := sg_nonneg _ hnn; omega, ?_⟩
  rw [show (dB ps a b = dB ps a c + dB ps c b) ↔ sg ps.length (fun j => apart ps a c j + apart ps c b j - apart ps a b j) = 0 by omega, sg_null _ hnn]
  constructor
  · intro h j hj
    exact (apart_tri hl a b c hj).2.1 (by have := h j hj; omega)
  · intro h j hj
    have := (apart_tri hl a b c hj).2.2 (h j hj); omega
include ht a0 a1 b0 b1
theorem dB_null : dB ps a b = 0 ↔ a = b := by
  constructor
  · intro h
    have h1 := (sg_null _ fun j hj => (apart_nn hl a b hj).1).1 h
    have key : ∀ x y : Int, 0 ≤ x → x < ps.length → 0 ≤ y → y < ps.length → (∀ j : Nat, j < ps.length → apart ps x y j = 0) → x ≤ y := fun x y x0 x1 y0 y1 hh => by
      rcases Int.lt_or_le y x with h2 | h2
      · have h3 := hh x.toNat (by omega)
        unfold apart at h3
        rw [show ((x.toNat : Nat) : Int) = x by omega, onB_self ht x0 x1, onB_gt ht y1 h2, if_pos ⟨by omega, by simp⟩] at h3
        have := hl x.toNat (by omega) (by omega); omega
      · exact h2
    have h2 := key a b a0 a1 b0 b1 h1
    have h3 := key b a b0 b1 a0 a1 fun j hj => by
      have := h1 j hj
      unfold apart at this ⊢
      by_cases h : onB ps j a = onB ps j b
      · simp [h]
      · by_cases h0 : 0 < j
        · rw [if_pos ⟨h0, h⟩] at this; rw [if_pos ⟨h0, Ne.symm h⟩]; exact this
        · simp [h0]
    omega
  · rintro rfl; exact dB_same ps a
include c0 c1
/-- A third node lies on the way between two others just if it is on one of their ways alone, or is the first one that both have. -/
theorem forest_on {m : Int} (hm : ((wayL ps a).find? fun x => memB (wayL ps b) x) = some m) : (onB ps c a ≠ onB ps c b ∨ c = m) ↔ dB ps a b = dB ps a c + dB ps c b := by
  obtain ⟨m', e, h1, h2, h3⟩ := meet_is ht b b0 b1 (a.toNat + 1) a (by omega) a0 a1
  rw [hm] at e
  cases e
  rw [(dB_tri hl a b c).2]
  have fa : a < ((a.toNat + 1 : Nat) : Int) := by omega
  have fb : b < ((b.toNat + 1 : Nat) : Int) := by omega
  have fc : c < ((c.toNat + 1 : Nat) : Int) := by omega
  constructor
  · rintro (h | rfl) j hj j0 he
    · cases hj2 : onB ps j a with
      | true =>
        rw [hj2] at he
        cases hca : onB ps c a with
        | true =>
          rcases Int.le_total (j : Int) c with h4 | h4
          · exact onB_chain ht _ a fa a1 hj2 hca h4
          · have := onB_chain ht _ a fa a1 hca hj2 h4
            rw [hca, onB_trans ht _ b fb b1 this he.symm] at h
            exact absurd rfl h
        | false =>
          cases hcb : onB ps c b with
          | false => rw [hca, hcb] at h; exact absurd rfl h
          | true =>
            rcases Int.le_total (j : Int) c with h4 | h4
            · exact onB_chain ht _ b fb b1 he.symm hcb h4
            · have := onB_chain ht _ b fb b1 hcb he.symm h4
              rw [onB_trans ht _ a fa a1 this hj2] at hca; cases hca
      | false =>
        rw [hj2] at he
        cases hjc : onB ps j c with
        | false => rfl
        | true =>
          cases hca : onB ps c a with
          | true => rw [onB_trans ht _ a fa a1 hjc hca] at hj2; cases hj2
          | false =>
            cases hcb : onB ps c b with
            | true => rw [onB_trans ht _ b fb b1 hjc hcb] at he; cases he
            | false => rw [hca, hcb] at h; exact absurd rfl h
    · cases hj2 : onB ps j a with
      | true =>
        rw [hj2] at he
        exact onB_chain ht _ a fa a1 hj2 h1 (h3 j hj2 he.symm)
      | false =>
        cases hjc : onB ps j c with
        | false => rfl
        | true => rw [onB_trans ht _ a fa a1 hjc h1] at hj2; cases hj2
  · intro h
    have hm0 := onB_nonneg ht _ a fa a1 h1
    have hma := onB_le ht a1 h1
    by_cases hne : onB ps c a = onB ps c b
    · refine .inr ?_
      have hca : onB ps c a = true := by
        by_cases hc0 : c = 0
        · rw [hc0]; exact onB_zero ht _ a fa a0 a1
        · have := h c.toNat (by omega) (by omega)
          rw [show ((c.toNat : Nat) : Int) = c by omega] at this
          rw [← this hne]; exact onB_self ht c0 c1
      have hle := h3 c hca (hne ▸ hca)
      by_cases hm1 : m = 0
      · omega
      · have := h m.toNat (by omega) (by omega)
        rw [show ((m.toNat : Nat) : Int) = m by omega, h1, h2] at this
        have := onB_le ht c1 (this rfl)
        omega
    · exact .inl hne
end
/-- A way begins with its node and ends with the pump. -/
theorem way_ends {ps : List Pipe} (ht : Tree ps) : ∀ (f : Nat) (a : Int), a < f → 0 ≤ a → a < ps.length → 1 ≤ (wayL ps a).length ∧ ix (wayL ps a) 0 = a ∧ ix (wayL ps a) ((wayL ps a).length - 1) = 0 := by
  intro f
  induction f with
  | zero => intro a h0 h1; omega
  | succ f ih =>
    intro a hf h0 ha
    have hp := par_lt ht h0 ha
    rw [wayL_step ht h0 ha]
    refine ⟨by simp, rfl, ?_⟩
    by_cases h : a = 0
    · have : par ps a < 0 := by have := hp.2.2.2 h; omega
      rw [wayL_neg ps this, h]; rfl
    · have : par ps a ≠ -1 := fun e => h (hp.2.2.1 e)
      obtain ⟨h1, _, h3⟩ := ih (par ps a) (by omega) (by omega) (by omega)
      rw [List.length_cons, Nat.add_sub_cancel, ← h3]
      generalize wayL ps (par ps a) = l at *
      unfold ix
      obtain ⟨k, hk⟩ : ∃ k, l.length = k + 1 := ⟨l.length - 1, by omega⟩
      rw [hk, List.getD_cons_succ, Nat.add_sub_cancel]
theorem memB_behind {ps : List Pipe} (ht : Tree ps) {a c : Int} (a0 : 0 ≤ a) (a1 : a < ps.length) (c0 : 0 ≤ c) : memB (trues (behL ps c) 0) a = memB (wayL ps a) c := by
  rw [trues_way ht c0]
  show _ = onB ps c a
  unfold behT memB
  cases h : onB ps c a with
  | true =>
    simp only [List.contains_iff_mem, List.mem_map, List.mem_filter, List.mem_range]
    exact ⟨a.toNat, ⟨by omega, by rw [show ((a.toNat : Nat) : Int) = a by omega]; exact h⟩, by simp; omega⟩
  | false =>
    rw [Bool.eq_false_iff]
    simp only [ne_eq, List.contains_iff_mem, List.mem_map, List.mem_filter, List.mem_range]
    rintro ⟨k, ⟨_, h2⟩, rfl⟩
    simp only [Int.ofNat_eq_natCast] at h
    rw [h2] at h; cases h
end Go.Proofs.Ytepibjfmeibgcaa
/- Plain law of Cut: what is left without a node and all behind it. No program is in sight here. -/
namespace Go.Proofs.Ytepibjfmeibgcaa
open Go.RowKit
set_option linter.unusedVariables false
set_option linter.unusedSectionVars false
/-- The nodes among the first k that are not behind a node. -/
def numT (ps : List Pipe) (node : Int) (k : Nat) : List Int := ((List.range k).filter fun (i : Nat) => !onB ps node (i : Int)).map Int.ofNat
/-- The new number of a node; the pump's parent stays none. -/
def newN (ps : List Pipe) (node x : Int) : Int := if x < 0 then -1 else ((numT ps node x.toNat).length : Int)
/-- A pipe with its parent's new number. -/
def cutP (ps : List Pipe) (node : Int) (i : Nat) : Pipe := { ix ps i with parent := newN ps node (ix ps i).parent }
def keptT (ps : List Pipe) (node : Int) (k : Nat) : List Pipe := ((List.range k).filter fun (i : Nat) => !onB ps node (i : Int)).map (cutP ps node)
/-- The new numbers of the first k nodes, by their old ones. -/
def toF (ps : List Pipe) (node : Int) (k : Nat) (x : Int) : Option Int := if x = -1 then some (-1) else if 0 ≤ x ∧ x < (k : Int) ∧ onB ps node x = false then some (newN ps node x) else none
section
variable (ps : List Pipe) (node : Int)
theorem numT_zero : numT ps node 0 = [] := rfl
theorem keptT_zero : keptT ps node 0 = [] := rfl
theorem numT_len : ∀ k, (numT ps node k).length ≤ k := fun k => by
  unfold numT; rw [List.length_map]; exact Nat.le_trans (List.length_filter_le _ _) (by simp)
theorem keptT_len (k : Nat) : (keptT ps node k).length = (numT ps node k).length := by unfold keptT numT; simp
theorem numT_keep {k : Nat} (h : onB ps node (k : Int) = false) : numT ps node (k + 1) = numT ps node k ++ [(k : Int)] := by
  unfold numT; rw [List.range_succ, List.filter_append, List.map_append]; simp [h]
theorem numT_skip {k : Nat} (h : onB ps node (k : Int) = true) : numT ps node (k + 1) = numT ps node k := by
  unfold numT; rw [List.range_succ, List.filter_append, List.map_append]; simp [h]
theorem keptT_keep {k : Nat} (h : onB ps node (k : Int) = false) : keptT ps node (k + 1) = keptT ps node k ++ [cutP ps node k] := by
  unfold keptT; rw [List.range_succ, List.filter_append, List.map_append]; simp [h]
theorem keptT_skip {k : Nat} (h : onB ps node (k : Int) = true) : keptT ps node (k + 1) = keptT ps node k := by
  unfold keptT; rw [List.range_succ, List.filter_append, List.map_append]; simp [h]
theorem toF_zero (x : Int) : putI (fun _ => none) (-1) (-1) x = toF ps node 0 x := by
  unfold putI toF
  by_cases h : x = -1
  · rw [if_pos h, if_pos h]
  · rw [if_neg h, if_neg h, if_neg (by omega)]
theorem toF_keep {k : Nat} (h : onB ps node (k : Int) = false) (x : Int) : putI (toF ps node k) (k : Int) ((numT ps node k).length : Int) x = toF ps node (k + 1) x := by
  unfold putI toF
  by_cases h1 : x = (k : Int)
  · subst h1
    rw [if_pos rfl, if_neg (by omega), if_pos ⟨by omega, by omega, h⟩]
    unfold newN; rw [if_neg (by omega), Int.toNat_natCast]
  · rw [if_neg h1]
    by_cases h2 : x = -1
    · rw [if_pos h2, if_pos h2]
    · rw [if_neg h2, if_neg h2]
      by_cases h3 : 0 ≤ x ∧ x < (k : Int) ∧ onB ps node x = false
      · rw [if_pos h3, if_pos ⟨h3.1, by omega, h3.2.2⟩]
      · rw [if_neg h3, if_neg (by rintro ⟨a, b, c⟩; exact h3 ⟨a, by omega, c⟩)]
theorem toF_skip {k : Nat} (h : onB ps node (k : Int) = true) (x : Int) : toF ps node k x = toF ps node (k + 1) x := by
  unfold toF
  by_cases h2 : x = -1
  · rw [if_pos h2, if_pos h2]
  · rw [if_neg h2, if_neg h2]
    by_cases h3 : 0 ≤ x ∧ x < (k : Int) ∧ onB ps node x = false
    · rw [if_pos h3, if_pos ⟨h3.1, by omega, h3.2.2⟩]
    · rw [if_neg h3, if_neg (by
        rintro ⟨a, b, c⟩
        have : x ≠ (k : Int) := fun e => by rw [e, h] at c; cases c
        exact h3 ⟨a, by omega, c⟩)]
theorem numT_at {x : Int} {k : Nat} : ∀ i, k < (numT ps node i).length → ix (numT ps node i) k = x → newN ps node x = (k : Int) := by
  intro i
  induction i with
  | zero => intro h; simp [numT] at h
  | succ i ih =>
    intro h e
    cases hb : onB ps node (i : Int) with
    | true => rw [numT_skip _ _ hb] at h e; exact ih h e
    | false =>
      rw [numT_keep _ _ hb] at h e
      by_cases hk : k < (numT ps node i).length
      · exact ih hk (by rw [← e]; unfold ix; rw [List.getD_eq_getElem?_getD, List.getD_eq_getElem?_getD, List.getElem?_append_left hk])
      · rw [List.length_append] at h
        simp only [List.length_singleton] at h
        have hk2 : k = (numT ps node i).length := by omega
        have : x = (i : Int) := by rw [← e, hk2]; unfold ix; rw [List.getD_eq_getElem?_getD, List.getElem?_append_right (Nat.le_refl _)]; simp
        rw [this]; unfold newN; rw [if_neg (by omega), Int.toNat_natCast, hk2]
theorem numT_mem {x : Int} (h0 : 0 ≤ x) (hb : onB ps node x = false) : ∀ i : Nat, x < (i : Int) → ∃ j, j < (numT ps node i).length ∧ ix (numT ps node i) j = x := by
  intro i
  induction i with
  | zero => intro h; omega
  | succ i ih =>
    intro h
    by_cases hx : x = (i : Int)
    · subst hx
      rw [numT_keep _ _ hb]
      exact ⟨(numT ps node i).length, by rw [List.length_append]; simp, by unfold ix; rw [List.getD_eq_getElem?_getD, List.getElem?_append_right (Nat.le_refl _)]; simp⟩
    · obtain ⟨j, h1, h2⟩ := ih (by omega)
      cases hbi : onB ps node (i : Int) with
      | true => rw [numT_skip _ _ hbi]; exact ⟨j, h1, h2⟩
      | false =>
        rw [numT_keep _ _ hbi]
        exact ⟨j, by rw [List.length_append]; omega, by rw [← h2]; unfold ix; rw [List.getD_eq_getElem?_getD, List.getD_eq_getElem?_getD, List.getElem?_append_left h1]⟩
variable {ps node} (ht : Tree ps)
include ht
theorem newN_none {k : Nat} (hk : k < ps.length) (h : onB ps node (k : Int) = false) (hn : ∀ j, j < (numT ps node k).length → ix (numT ps node k) j ≠ (ix ps k).parent) : newN ps node (ix ps k).parent = (ix ps k).parent := by
  have hp := ht k hk
  rw [← ix_par] at hp
  by_cases h2 : (ix ps k).parent = -1
  · rw [h2]; rfl
  · have hf : onB ps node (ix ps k).parent = false := by
      cases hb : onB ps node (ix ps k).parent with
      | false => rfl
      | true =>
        rw [onB_step ht (by omega) (by omega), ← ix_par, hb] at h
        simp at h
    obtain ⟨j, h3, h4⟩ := numT_mem ps node (by omega) hf k (by omega)
    exact absurd h4 (hn j h3)
theorem toF_parent {k : Nat} (hk : k < ps.length) (h : onB ps node (k : Int) = false) : (toF ps node (k + 1) (ix ps k).parent).getD 0 = newN ps node (ix ps k).parent := by
  have hp := ht k hk
  rw [← ix_par] at hp
  unfold toF
  by_cases h2 : (ix ps k).parent = -1
  · rw [if_pos h2, h2]; rfl
  · rw [if_neg h2]
    have hf : onB ps node (ix ps k).parent = false := by
      cases hb : onB ps node (ix ps k).parent with
      | false => rfl
      | true =>
        rw [onB_step ht (by omega) (by omega), ← ix_par, hb] at h
        simp at h
    rw [if_pos ⟨by omega, by omega, hf⟩]; rfl
end
end Go.Proofs.Ytepibjfmeibgcaa
