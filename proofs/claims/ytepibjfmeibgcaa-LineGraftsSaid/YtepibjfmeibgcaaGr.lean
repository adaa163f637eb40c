/- Plain law of LineGrafts: trees that are renumbered. No program is in sight here. -/
import Derived.Test.YtepibjfmeibgcaaC5
import Derived.Test.YtepibjfmeibgcaaA26
import Derived.Laws.StructEq
namespace Go.Proofs.Ytepibjfmeibgcaa
open Go.RowKit
set_option linter.unusedVariables false
set_option linter.unusedSectionVars false
/-- Ways go over, if parents do. -/
theorem way_map {ps qs : List Pipe} (hp : Tree ps) (hq : Tree qs) (s : Int → Int) (h0 : ∀ i : Int, 0 ≤ i → i < qs.length → 0 ≤ s i ∧ s i < ps.length) (h1 : ∀ i : Int, 0 ≤ i → i < qs.length → (par qs i = -1 ↔ par ps (s i) = -1)) (h2 : ∀ i : Int, 0 ≤ i → i < qs.length → par qs i ≠ -1 → s (par qs i) = par ps (s i)) :
    ∀ (f : Nat) (i : Int), i < f → 0 ≤ i → i < qs.length → (wayL qs i).map s = wayL ps (s i) := by
  intro f
  induction f with
  | zero => intro i h h'; omega
  | succ f ih =>
    intro i hf i0 i1
    have hs := h0 i i0 i1
    have hpq := par_lt hq i0 i1
    rw [wayL_step hq i0 i1, wayL_step hp hs.1 hs.2, List.map_cons]
    by_cases h : par qs i = -1
    · have := (h1 i i0 i1).1 h
      rw [h, this, wayL_neg qs (by omega), wayL_neg ps (by omega)]; rfl
    · rw [ih _ (by omega) (by omega) (by omega), h2 i i0 i1 h]
section
variable (ps : List Pipe) (node : Int)
theorem ix_numT {k : Nat} : ∀ i, k < (numT ps node i).length → 0 ≤ ix (numT ps node i) k ∧ ix (numT ps node i) k < (i : Int) ∧ onB ps node (ix (numT ps node i) k) = false ∧ newN ps node (ix (numT ps node i) k) = (k : Int) ∧ ix (keptT ps node i) k = cutP ps node (ix (numT ps node i) k).toNat := by
  intro i
  induction i with
  | zero => intro h; simp [numT] at h
  | succ i ih =>
    intro h
    cases hb : onB ps node (i : Int) with
    | true =>
      rw [numT_skip _ _ hb] at h ⊢
      rw [keptT_skip _ _ hb]
      have := ih h
      exact ⟨this.1, by omega, this.2.2⟩
    | false =>
      have hat := numT_at ps node (i + 1) h rfl
      rw [numT_keep _ _ hb] at h hat ⊢
      rw [keptT_keep _ _ hb]
      by_cases hk : k < (numT ps node i).length
      · have e : ix (numT ps node i ++ [(i : Int)]) k = ix (numT ps node i) k := by unfold ix; rw [List.getD_eq_getElem?_getD, List.getD_eq_getElem?_getD, List.getElem?_append_left hk]
        have e2 : ix (keptT ps node i ++ [cutP ps node i]) k = ix (keptT ps node i) k := by unfold ix; rw [List.getD_eq_getElem?_getD, List.getD_eq_getElem?_getD, List.getElem?_append_left (by rw [keptT_len]; exact hk)]
        have := ih hk
        rw [e] at hat ⊢
        rw [e2]
        exact ⟨this.1, by omega, this.2.2.1, hat, this.2.2.2.2⟩
      · rw [List.length_append] at h
        simp only [List.length_singleton] at h
        have hk2 : k = (numT ps node i).length := by omega
        have e : ix (numT ps node i ++ [(i : Int)]) k = (i : Int) := by rw [hk2]; unfold ix; rw [List.getD_eq_getElem?_getD, List.getElem?_append_right (Nat.le_refl _)]; simp
        have e2 : ix (keptT ps node i ++ [cutP ps node i]) k = cutP ps node i := by rw [hk2, ← keptT_len]; unfold ix; rw [List.getD_eq_getElem?_getD, List.getElem?_append_right (Nat.le_refl _)]; simp
        rw [e] at hat ⊢
        rw [e2]
        exact ⟨by omega, by omega, hb, hat, by rw [Int.toNat_natCast]⟩
theorem numT_mono {i j : Nat} (h : i ≤ j) : (numT ps node i).length ≤ (numT ps node j).length := by
  induction j with
  | zero => obtain rfl : i = 0 := by omega
            exact Nat.le_refl _
  | succ j ih =>
    by_cases hj : i = j + 1
    · subst hj; exact Nat.le_refl _
    · have := ih (by omega)
      cases hb : onB ps node (j : Int) with
      | true => rw [numT_skip _ _ hb]; exact this
      | false => rw [numT_keep _ _ hb, List.length_append]; omega
theorem newN_lt {x y : Int} (h0 : 0 ≤ y) (h : y < x) (hb : onB ps node y = false) : 0 ≤ newN ps node y ∧ newN ps node y < newN ps node x := by
  unfold newN
  rw [if_neg (by omega), if_neg (by omega)]
  have h1 := numT_mono ps node (show y.toNat + 1 ≤ x.toNat by omega)
  rw [numT_keep _ _ (by rw [show ((y.toNat : Nat) : Int) = y by omega]; exact hb), List.length_append] at h1
  simp only [List.length_singleton] at h1
  omega
theorem numT_pos {k : Nat} (hk : 0 < k) (hb : onB ps node 0 = false) : 0 < (numT ps node k).length ∧ ix (numT ps node k) 0 = 0 := by
  induction k with
  | zero => omega
  | succ k ih =>
    by_cases h0 : k = 0
    · subst h0
      rw [numT_keep _ _ (by simpa using hb)]
      exact ⟨by simp, rfl⟩
    · have := ih (by omega)
      cases hbk : onB ps node (k : Int) with
      | true => rw [numT_skip _ _ hbk]; exact this
      | false =>
        rw [numT_keep _ _ hbk]
        exact ⟨by rw [List.length_append]; omega, by rw [← this.2]; unfold ix; rw [List.getD_eq_getElem?_getD, List.getD_eq_getElem?_getD, List.getElem?_append_left this.1]⟩
end
/-- What is left is valid tubing. -/
theorem kept_net {n : Net} (hok : netB n = true) {node : Int} (h0 : 0 < node) : netB ⟨n.pump, keptT n.pipes node n.pipes.length⟩ = true := by
  have hl := netB_len hok
  have ht := netB_tree hok
  have hg := netB_good hok
  have hz : onB n.pipes node 0 = false := onB_gt ht (by omega) h0
  have hp0 := numT_pos n.pipes node (k := n.pipes.length) (by omega) hz
  have hkl := keptT_len n.pipes node n.pipes.length
  have hnm := numT_len n.pipes node n.pipes.length
  have hpump : n.pipes.head? = some pump0 := by
    unfold netB at hok; simp only [Bool.and_eq_true, decide_eq_true_eq] at hok; exact hok.1.2
  have hfirst : ix n.pipes 0 = pump0 := by
    rw [List.head?_eq_getElem?] at hpump
    unfold ix; rw [List.getD_eq_getElem?_getD, hpump]; rfl
  unfold netB
  simp only [Bool.and_eq_true, decide_eq_true_eq]
  refine ⟨⟨⟨inB_mk ⟨by omega, by omega⟩, inB_mk hg.1⟩, ?_⟩, pipesB_all _ 0 fun i hi => ?_⟩
  · have h1 := (ix_numT n.pipes node n.pipes.length hp0.1).2.2.2.2
    rw [hp0.2, show (0 : Int).toNat = 0 from rfl] at h1
    have h2 : cutP n.pipes node 0 = pump0 := by unfold cutP; rw [hfirst]; rfl
    rw [h2] at h1
    rw [List.head?_eq_getElem?, List.getElem?_eq_getElem (by omega), ← ix_eq (by omega), h1]
  · rw [List.length_drop] at hi
    rw [List.getElem_drop, ← ix_eq (by omega)]
    obtain ⟨a0, a1, a2, a3, a4⟩ := ix_numT n.pipes node (k := 1 + i) n.pipes.length (by omega)
    rw [a4]
    generalize ix (numT n.pipes node n.pipes.length) (1 + i) = x at *
    have hx0 : x ≠ 0 := fun e => by
      subst e
      have : newN n.pipes node 0 = 0 := by unfold newN; simp [numT]
      omega
    have hxn : x.toNat < n.pipes.length := by omega
    have hpb := netB_pipe hok hxn (by omega)
    have hpl := par_lt ht (a := x) a0 a1
    have hpx : par n.pipes x = (ix n.pipes x.toNat).parent := by rw [ix_par, show ((x.toNat : Nat) : Int) = x by omega]
    have hp1 : par n.pipes x ≠ -1 := fun e => hx0 (hpl.2.2.1 e)
    have hf : onB n.pipes node (par n.pipes x) = false := by
      cases hb : onB n.pipes node (par n.pipes x) with
      | false => rfl
      | true => rw [onB_step ht a0 a1, hb] at a2; simp at a2
    have hnl := newN_lt n.pipes node (x := x) (by omega) hpl.2.1 hf
    rw [← ix_eq hxn] at hpb
    unfold cutP
    unfold pipeB at hpb ⊢
    simp only [Bool.and_eq_true] at hpb ⊢
    rw [← hpx]
    exact ⟨⟨⟨⟨inB_mk ⟨hnl.1, by omega⟩, hpb.1.1.1.2⟩, hpb.1.1.2⟩, hpb.1.2⟩, hpb.2⟩
theorem perm_sum {l m : List Int} (h : l.Perm m) : l.sum = m.sum := by
  induction h with
  | nil => rfl
  | cons x _ ih => simp [ih]
  | swap x y l => simp only [List.sum_cons]; omega
  | trans _ _ h1 h2 => rw [h1, h2]
theorem sg_perm {n : Nat} {s : Nat → Nat} (h : ((List.range n).map s).Perm (List.range n)) (g : Nat → Int) : sg n (fun i => g (s i)) = sg n g := by
  unfold sg
  rw [← perm_sum (h.map g), List.map_map]; rfl
/-- Loads go over, if a tree is renumbered. -/
theorem load_map {ps qs : List Pipe} (hp : Tree ps) (hq : Tree qs) (hl : qs.length = ps.length) {s : Nat → Nat} (h0 : ∀ i, i < ps.length → s i < ps.length) (hs : ((List.range ps.length).map s).Perm (List.range ps.length))
    (h1 : ∀ i j : Nat, i < ps.length → j < ps.length → (par qs (i : Int) = (j : Int) ↔ par ps (s i : Int) = (s j : Int))) (f : Nat → Int) :
    ∀ (e j : Nat), ps.length - j ≤ e → j < ps.length → ldV qs (fun i => f (s i)) [] j = ldV ps f [] (s j) := by
  intro e
  induction e with
  | zero => intro j h hj; omega
  | succ e ih =>
    intro j he hj
    rw [ldV_eq qs _ [] (by omega), ldV_eq ps f [] (h0 j hj)]
    rw [hl]
    congr 1
    refine Eq.trans ?_ (sg_perm hs _)
    refine sg_congr _ fun i hi => ?_
    unfold into
    have hqi := hq i (by omega)
    have hpi := hp (s i) (h0 i hi)
    by_cases h : par qs (i : Int) = (j : Int)
    · have h2 := (h1 i j hi hj).1 h
      rw [if_pos ⟨by omega, h, rfl⟩, if_pos ⟨by omega, h2, rfl⟩]
      exact ih i (by omega) hi
    · have h2 : ¬ par ps (s i : Int) = (s j : Int) := fun e => h ((h1 i j hi hj).2 e)
      rw [if_neg (fun q => h q.2.1), if_neg (fun q => h2 q.2.1)]
section
variable (ps : List Pipe) (node : Int)
theorem behT_keep {k : Nat} (h : onB ps node (k : Int) = true) : behT ps node (k + 1) = behT ps node k ++ [(k : Int)] := by
  unfold behT; rw [List.range_succ, List.filter_append, List.map_append]; simp [h]
theorem behT_skip {k : Nat} (h : onB ps node (k : Int) = false) : behT ps node (k + 1) = behT ps node k := by
  unfold behT; rw [List.range_succ, List.filter_append, List.map_append]; simp [h]
/-- How many nodes behind come before. -/
def rankB (x : Int) : Nat := (behT ps node x.toNat).length
theorem ix_last {l : List Int} (x : Int) : ix (l ++ [x]) l.length = x := by unfold ix; rw [List.getD_eq_getElem?_getD, List.getElem?_append_right (Nat.le_refl _)]; simp
theorem ix_before {l m : List Int} {k : Nat} (h : k < l.length) : ix (l ++ m) k = ix l k := by unfold ix; rw [List.getD_eq_getElem?_getD, List.getD_eq_getElem?_getD, List.getElem?_append_left h]
theorem ix_behind {l m : List Int} (k : Nat) : ix (l ++ m) (l.length + k) = ix m k := by unfold ix; rw [List.getD_eq_getElem?_getD, List.getD_eq_getElem?_getD, List.getElem?_append_right (by omega)]; simp
theorem ix_behT {k : Nat} : ∀ i, k < (behT ps node i).length → 0 ≤ ix (behT ps node i) k ∧ ix (behT ps node i) k < (i : Int) ∧ onB ps node (ix (behT ps node i) k) = true ∧ rankB ps node (ix (behT ps node i) k) = k := by
  intro i
  induction i with
  | zero => intro h; simp [behT] at h
  | succ i ih =>
    intro h
    cases hb : onB ps node (i : Int) with
    | false =>
      rw [behT_skip _ _ hb] at h ⊢
      have := ih h
      exact ⟨this.1, by omega, this.2.2⟩
    | true =>
      rw [behT_keep _ _ hb] at h ⊢
      by_cases hk : k < (behT ps node i).length
      · have := ih hk
        rw [ix_before hk]
        exact ⟨this.1, by omega, this.2.2⟩
      · rw [List.length_append] at h
        simp only [List.length_singleton] at h
        have hk2 : k = (behT ps node i).length := by omega
        subst hk2
        rw [ix_last]
        exact ⟨by omega, by omega, hb, by unfold rankB; rw [Int.toNat_natCast]⟩
theorem behT_mem {x : Int} (h0 : 0 ≤ x) (hb : onB ps node x = true) : ∀ i : Nat, x < (i : Int) → rankB ps node x < (behT ps node i).length ∧ ix (behT ps node i) (rankB ps node x) = x := by
  intro i
  induction i with
  | zero => intro h; omega
  | succ i ih =>
    intro h
    by_cases hx : x = (i : Int)
    · subst hx
      rw [behT_keep _ _ hb]
      have : rankB ps node (i : Int) = (behT ps node i).length := by unfold rankB; rw [Int.toNat_natCast]
      rw [this]
      exact ⟨by rw [List.length_append]; simp, ix_last _⟩
    · obtain ⟨h1, h2⟩ := ih (by omega)
      cases hbi : onB ps node (i : Int) with
      | false => rw [behT_skip _ _ hbi]; exact ⟨h1, h2⟩
      | true => rw [behT_keep _ _ hbi]; exact ⟨by rw [List.length_append]; omega, by rw [ix_before h1]; exact h2⟩
theorem both_len : ∀ k, (numT ps node k).length + (behT ps node k).length = k := by
  intro k
  induction k with
  | zero => rfl
  | succ k ih =>
    cases hb : onB ps node (k : Int) with
    | true => rw [numT_skip _ _ hb, behT_keep _ _ hb, List.length_append]; simp only [List.length_singleton]; omega
    | false => rw [numT_keep _ _ hb, behT_skip _ _ hb, List.length_append]; simp only [List.length_singleton]; omega
theorem rankB_lt {x y : Int} (h0 : 0 ≤ y) (h : y < x) (hb : onB ps node y = true) : rankB ps node y < rankB ps node x := by
  have h1 := behT_mem ps node h0 hb x.toNat (by omega)
  exact h1.1
theorem behT_perm (k : Nat) : (numT ps node k ++ behT ps node k).Perm ((List.range k).map Int.ofNat) := by
  unfold numT behT
  rw [← List.map_append]
  refine List.Perm.map _ ?_
  have := List.filter_append_perm (fun i : Nat => onB ps node (i : Int)) (List.range k)
  exact List.perm_append_comm.trans this
end
theorem behT_first {ps : List Pipe} (ht : Tree ps) {node : Int} (h0 : 0 ≤ node) (h1 : node < ps.length) : rankB ps node node = 0 ∧ 0 < (behT ps node ps.length).length ∧ ix (behT ps node ps.length) 0 = node := by
  have hr : rankB ps node node = 0 := by
    unfold rankB
    rw [List.length_eq_zero_iff]
    unfold behT
    rw [List.map_eq_nil_iff, List.filter_eq_nil_iff]
    intro a ha
    rw [List.mem_range] at ha
    rw [onB_gt ht (by omega) (by omega)]; simp
  have := behT_mem ps node h0 (onB_self ht h0 h1) ps.length h1
  rw [hr] at this
  exact ⟨hr, this⟩
/-- A pipe of what was cut off. -/
def offP (ps : List Pipe) (node x : Int) : Pipe := { ix ps x.toNat with parent := if onB ps node (par ps x) then (rankB ps node (par ps x) : Int) + 1 else 0 }
def offT (ps : List Pipe) (node : Int) (k : Nat) : List Pipe := pump0 :: ((behT ps node ps.length).take k).map (offP ps node)
/-- What was cut off, grafted again. -/
def agT (ps : List Pipe) (node : Int) : List Pipe := keptT ps node ps.length ++ (behT ps node ps.length).map fun x => graftP (numT ps node ps.length).length (newN ps node (par ps node)) (offP ps node x)
theorem offT_len (ps : List Pipe) (node : Int) {k : Nat} (h : k ≤ (behT ps node ps.length).length) : (offT ps node k).length = k + 1 := by
  unfold offT; rw [List.length_cons, List.length_map, List.length_take]; omega
theorem graft_again (ps : List Pipe) (node : Int) : graftT (keptT ps node ps.length) (offT ps node (behT ps node ps.length).length) (newN ps node (par ps node)) ((offT ps node (behT ps node ps.length).length).length - 1) = agT ps node := by
  rw [offT_len _ _ (Nat.le_refl _)]
  unfold graftT agT offT
  rw [List.drop_succ_cons, List.drop_zero, Nat.add_sub_cancel, List.take_length, List.take_of_length_le (by rw [List.length_map]; exact Nat.le_refl _), List.map_map, keptT_len]
  rfl
theorem ix_map {α β : Type} [Inhabited α] [Inhabited β] (f : α → β) {l : List α} {k : Nat} (h : k < l.length) : ix (l.map f) k = f (ix l k) := by
  rw [ix_eq (by rw [List.length_map]; exact h), ix_eq h, List.getElem_map]
theorem ix_pre {l m : List Pipe} {k : Nat} (h : k < l.length) : ix (l ++ m) k = ix l k := by unfold ix; rw [List.getD_eq_getElem?_getD, List.getD_eq_getElem?_getD, List.getElem?_append_left h]
theorem ix_suf {l m : List Pipe} (k : Nat) : ix (l ++ m) (l.length + k) = ix m k := by unfold ix; rw [List.getD_eq_getElem?_getD, List.getD_eq_getElem?_getD, List.getElem?_append_right (by omega)]; simp
section
variable {n : Net} (hok : netB n = true) {node : Int} (h0 : 0 < node) (h1 : node < n.pipes.length)
include hok h0 h1
/-- What lies behind, but for the node, has its parent behind. -/
theorem beh_par {x : Int} (x0 : 0 ≤ x) (x1 : x < n.pipes.length) (hb : onB n.pipes node x = true) (hne : x ≠ node) : onB n.pipes node (par n.pipes x) = true := by
  rw [onB_step (netB_tree hok) x0 x1] at hb
  simpa [Ne.symm hne] using hb
theorem node_par : 0 ≤ par n.pipes node ∧ par n.pipes node < node ∧ onB n.pipes node (par n.pipes node) = false := by
  have hp := par_lt (netB_tree hok) (a := node) (by omega) h1
  have : par n.pipes node ≠ -1 := fun e => by have := hp.2.2.1 e; omega
  exact ⟨by omega, hp.2.1, onB_gt (netB_tree hok) (by omega) hp.2.1⟩
/-- What was cut off is valid tubing. -/
theorem off_net : netB ⟨0, offT n.pipes node (behT n.pipes node n.pipes.length).length⟩ = true := by
  have hl := netB_len hok
  have ht := netB_tree hok
  have hb := both_len n.pipes node n.pipes.length
  have hz : onB n.pipes node 0 = false := onB_gt ht (by omega) h0
  have hp0 := (numT_pos n.pipes node (k := n.pipes.length) (by omega) hz).1
  have hlo := offT_len n.pipes node (Nat.le_refl (behT n.pipes node n.pipes.length).length)
  unfold netB
  simp only [Bool.and_eq_true, decide_eq_true_eq]
  refine ⟨⟨⟨inB_mk ⟨by omega, by omega⟩, inB_mk (by omega)⟩, rfl⟩, pipesB_all _ 0 fun i hi => ?_⟩
  have hi' : i < (behT n.pipes node n.pipes.length).length := by rw [List.length_drop] at hi; omega
  have e : (List.drop 1 (offT n.pipes node (behT n.pipes node n.pipes.length).length))[i] = offP n.pipes node (ix (behT n.pipes node n.pipes.length) i) := by
    rw [← ix_eq hi]
    unfold offT
    rw [List.drop_succ_cons, List.drop_zero, List.take_length, ix_map _ hi']
  rw [e]
  obtain ⟨a0, a1, a2, a3⟩ := ix_behT n.pipes node n.pipes.length hi'
  generalize ix (behT n.pipes node n.pipes.length) i = x at *
  have hx0 : 0 < x := by
    rcases Int.lt_or_eq_of_le a0 with h | h
    · exact h
    · rw [← h, hz] at a2; cases a2
  have hxn : x.toNat < n.pipes.length := by omega
  have hpb := netB_pipe hok hxn (by omega)
  rw [← ix_eq hxn] at hpb
  have hpl := par_lt ht (a := x) a0 a1
  have hpx : par n.pipes x = (ix n.pipes x.toNat).parent := by rw [ix_par, show ((x.toNat : Nat) : Int) = x by omega]
  have hp1 : par n.pipes x ≠ -1 := fun e => by have := hpl.2.2.1 e; omega
  unfold offP
  unfold pipeB at hpb ⊢
  simp only [Bool.and_eq_true] at hpb ⊢
  refine ⟨⟨⟨⟨inB_mk ?_, hpb.1.1.1.2⟩, hpb.1.1.2⟩, hpb.1.2⟩, hpb.2⟩
  cases hbp : onB n.pipes node (par n.pipes x) with
  | false => simp
  | true =>
    have := rankB_lt n.pipes node (x := x) (by omega) hpl.2.1 hbp
    simp only [if_true]
    omega
omit h0 h1 in
theorem agT_len : (agT n.pipes node).length = n.pipes.length := by
  unfold agT; rw [List.length_append, List.length_map, keptT_len]; exact both_len _ _ _
/-- The nodes in their new order. -/
def ordL (ps : List Pipe) (node : Int) : List Int := numT ps node ps.length ++ behT ps node ps.length
omit h0 h1 in
theorem ordL_len : (ordL n.pipes node).length = n.pipes.length := by unfold ordL; rw [List.length_append]; exact both_len _ _ _
/-- Each pipe of the new tubing: as it was, but for its parent's number. -/
theorem ag_at {i : Nat} (hi : i < n.pipes.length) : (0 ≤ ix (ordL n.pipes node) i ∧ ix (ordL n.pipes node) i < n.pipes.length ∧ (ix (ordL n.pipes node) i = 0 ↔ i = 0)) ∧ ∃ y : Int, ix (agT n.pipes node) i = { ix n.pipes (ix (ordL n.pipes node) i).toNat with parent := y } ∧ (i = 0 → y = -1) ∧ (i ≠ 0 → ∃ j : Nat, y = (j : Int) ∧ j < i ∧ ix (ordL n.pipes node) j = par n.pipes (ix (ordL n.pipes node) i)) := by
  have hl := netB_len hok
  have ht := netB_tree hok
  have hb := both_len n.pipes node n.pipes.length
  have hkl := keptT_len n.pipes node n.pipes.length
  have hz : onB n.pipes node 0 = false := onB_gt ht (by omega) h0
  have hp0 := numT_pos n.pipes node (k := n.pipes.length) (by omega) hz
  have hnp := node_par hok h0 h1
  by_cases hk : i < (numT n.pipes node n.pipes.length).length
  · obtain ⟨a0, a1, a2, a3, a4⟩ := ix_numT n.pipes node n.pipes.length hk
    have e1 : ix (ordL n.pipes node) i = ix (numT n.pipes node n.pipes.length) i := ix_before hk
    have e2 : ix (agT n.pipes node) i = ix (keptT n.pipes node n.pipes.length) i := ix_pre (by omega)
    rw [e1, e2, a4]
    generalize ix (numT n.pipes node n.pipes.length) i = x at *
    have hx0 : x = 0 ↔ i = 0 := by
      constructor
      · intro e
        have : newN n.pipes node 0 = 0 := by unfold newN; simp [numT]
        rw [e] at a3; omega
      · intro e
        subst e
        have hpl := par_lt ht (a := x) a0 a1
        rcases Int.lt_or_eq_of_le a0 with h | h
        · have := newN_lt n.pipes node (x := x) (y := 0) (Int.le_refl _) h hz
          omega
        · exact h.symm
    have hpl := par_lt ht (a := x) a0 a1
    have hpx : par n.pipes x = (ix n.pipes x.toNat).parent := by rw [ix_par, show ((x.toNat : Nat) : Int) = x by omega]
    refine ⟨⟨a0, a1, hx0⟩, newN n.pipes node (ix n.pipes x.toNat).parent, rfl, fun h => ?_, fun h => ?_⟩
    · rw [← hpx, hpl.2.2.2 (hx0.2 h)]; rfl
    · rw [← hpx]
      have hp1 : par n.pipes x ≠ -1 := fun e => h (hx0.1 (hpl.2.2.1 e))
      have hf : onB n.pipes node (par n.pipes x) = false := by
        cases hb : onB n.pipes node (par n.pipes x) with
        | false => rfl
        | true => rw [onB_step ht a0 a1, hb] at a2; simp at a2
      obtain ⟨j, h3, h4⟩ := numT_mem n.pipes node (by omega) hf n.pipes.length (by omega)
      have h5 := numT_at n.pipes node n.pipes.length h3 h4
      have h6 := newN_lt n.pipes node (x := x) (by omega) hpl.2.1 hf
      exact ⟨j, h5, by omega, by rw [← h4]; exact ix_before h3⟩
  · obtain ⟨k, rfl⟩ : ∃ k, i = (numT n.pipes node n.pipes.length).length + k := ⟨i - (numT n.pipes node n.pipes.length).length, by omega⟩
    have hk2 : k < (behT n.pipes node n.pipes.length).length := by omega
    obtain ⟨a0, a1, a2, a3⟩ := ix_behT n.pipes node n.pipes.length hk2
    have e1 : ix (ordL n.pipes node) ((numT n.pipes node n.pipes.length).length + k) = ix (behT n.pipes node n.pipes.length) k := ix_behind k
    have e2 : ix (agT n.pipes node) ((numT n.pipes node n.pipes.length).length + k) = graftP (numT n.pipes node n.pipes.length).length (newN n.pipes node (par n.pipes node)) (offP n.pipes node (ix (behT n.pipes node n.pipes.length) k)) := by
      rw [← hkl]; unfold agT; rw [ix_suf, ix_map _ hk2, hkl]
    rw [e1, e2]
    generalize ix (behT n.pipes node n.pipes.length) k = x at *
    have hx0 : x ≠ 0 := fun e => by rw [e, hz] at a2; cases a2
    have hpl := par_lt ht (a := x) a0 a1
    have hp1 : par n.pipes x ≠ -1 := fun e => hx0 (hpl.2.2.1 e)
    refine ⟨⟨a0, a1, by omega⟩, (graftP (numT n.pipes node n.pipes.length).length (newN n.pipes node (par n.pipes node)) (offP n.pipes node x)).parent, rfl, fun h => by omega, fun _ => ?_⟩
    cases hbp : onB n.pipes node (par n.pipes x) with
    | true =>
      have h3 := behT_mem n.pipes node (x := par n.pipes x) (by omega) hbp n.pipes.length (by omega)
      have h4 := rankB_lt n.pipes node (x := x) (by omega) hpl.2.1 hbp
      refine ⟨(numT n.pipes node n.pipes.length).length + rankB n.pipes node (par n.pipes x), ?_, by omega, ?_⟩
      · unfold graftP offP
        simp only [hbp, if_true]
        rw [if_neg (by omega)]; omega
      · exact (ix_behind _).trans h3.2
    | false =>
      have hxn : x = node := by
        by_cases h : x = node
        · exact h
        · have := beh_par hok h0 h1 a0 a1 a2 h
          rw [hbp] at this; cases this
      subst hxn
      obtain ⟨j, h3, h4⟩ := numT_mem n.pipes x hnp.1 hnp.2.2 n.pipes.length (by omega)
      have h5 := numT_at n.pipes x n.pipes.length h3 h4
      refine ⟨j, ?_, by omega, by rw [← h4]; exact ix_before h3⟩
      unfold graftP offP
      simp only [hbp]
      simpa using h5
/-- The new tubing is valid. -/
theorem ag_net : netB ⟨n.pump, agT n.pipes node⟩ = true := by
  have hl := netB_len hok
  have hg := netB_good hok
  have hal := agT_len hok (node := node)
  have hpump : n.pipes.head? = some pump0 := by
    unfold netB at hok; simp only [Bool.and_eq_true, decide_eq_true_eq] at hok; exact hok.1.2
  have hfirst : ix n.pipes 0 = pump0 := by
    rw [List.head?_eq_getElem?] at hpump
    unfold ix; rw [List.getD_eq_getElem?_getD, hpump]; rfl
  unfold netB
  simp only [Bool.and_eq_true, decide_eq_true_eq]
  refine ⟨⟨⟨inB_mk ⟨by omega, by omega⟩, inB_mk hg.1⟩, ?_⟩, pipesB_all _ 0 fun i hi => ?_⟩
  · obtain ⟨⟨_, _, hx⟩, y, e, hy, _⟩ := ag_at hok h0 h1 (i := 0) (by omega)
    rw [hx.2 rfl, hy rfl, show (0 : Int).toNat = 0 from rfl, hfirst] at e
    rw [List.head?_eq_getElem?, List.getElem?_eq_getElem (by omega), ← ix_eq (by omega), e]; rfl
  · rw [List.length_drop] at hi
    rw [List.getElem_drop, ← ix_eq (by omega)]
    obtain ⟨⟨a0, a1, hx⟩, y, e, _, hy⟩ := ag_at hok h0 h1 (i := 1 + i) (by omega)
    obtain ⟨j, rfl, hj, _⟩ := hy (by omega)
    rw [e]
    have hpb := netB_pipe hok (i := (ix (ordL n.pipes node) (1 + i)).toNat) (by omega) (by omega)
    rw [← ix_eq (by omega)] at hpb
    unfold pipeB at hpb ⊢
    simp only [Bool.and_eq_true] at hpb ⊢
    exact ⟨⟨⟨⟨inB_mk ⟨by omega, by omega⟩, hpb.1.1.1.2⟩, hpb.1.1.2⟩, hpb.1.2⟩, hpb.2⟩
/-- Each load is what it was. -/
theorem ag_load (f : Nat → Int) {j : Nat} (hj : j < n.pipes.length) : ldV (agT n.pipes node) (fun i => f (ix (ordL n.pipes node) i).toNat) [] j = ldV n.pipes f [] (ix (ordL n.pipes node) j).toNat := by
  have ht := netB_tree hok
  have hl := netB_len hok
  have hol := ordL_len hok (node := node)
  have hnd : (ordL n.pipes node).Nodup := (behT_perm n.pipes node n.pipes.length).nodup_iff.2 (List.Pairwise.map Int.ofNat (fun a b h e => h (Int.ofNat.inj e)) List.nodup_range)
  refine load_map ht (netB_tree (ag_net hok h0 h1)) (agT_len hok) (s := fun i => (ix (ordL n.pipes node) i).toNat) (fun i hi => ?_) ?_ (fun i k hi hk => ?_) f n.pipes.length j (by omega) hj
  · have := (ag_at hok h0 h1 hi).1; omega
  · have e : (List.range n.pipes.length).map (fun i => (ix (ordL n.pipes node) i).toNat) = (ordL n.pipes node).map Int.toNat := by
      refine List.ext_getElem (by simp [hol]) fun k h2 h3 => ?_
      rw [List.getElem_map, List.getElem_map, List.getElem_range, ix_eq (by simpa using h3)]
    rw [e]
    have := (behT_perm n.pipes node n.pipes.length).map Int.toNat
    rw [List.map_map] at this
    refine this.trans ?_
    rw [show (Int.toNat ∘ Int.ofNat) = id by funext x; simp, List.map_id]
  · obtain ⟨⟨a0, a1, a2⟩, y, e, y0, y1⟩ := ag_at hok h0 h1 hi
    obtain ⟨⟨b0, b1, b2⟩, _⟩ := ag_at hok h0 h1 hk
    have hpy : par (agT n.pipes node) (i : Int) = y := by rw [← ix_par, e]
    simp only [Int.toNat_of_nonneg a0, Int.toNat_of_nonneg b0]
    rw [hpy]
    by_cases hi0 : i = 0
    · rw [y0 hi0, a2.2 hi0]
      have := (par_lt ht (a := 0) (Int.le_refl _) (by omega)).2.2.2 rfl
      rw [this]; omega
    · obtain ⟨q, rfl, hq, e3⟩ := y1 hi0
      rw [← e3]
      constructor
      · intro h
        have : q = k := by omega
        rw [this]
      · intro h
        have h5 : (ordL n.pipes node)[q]'(by omega) = (ordL n.pipes node)[k]'(by omega) := by rw [← ix_eq, ← ix_eq]; exact h
        have hnd' := List.pairwise_iff_getElem.1 hnd
        rcases Nat.lt_trichotomy q k with h6 | h6 | h6
        · exact absurd h5 (hnd' _ _ (by omega) (by omega) h6)
        · omega
        · exact absurd h5.symm (hnd' _ _ (by omega) (by omega) h6)
omit h1 in
/-- A way in what is left is the way that was. -/
theorem kept_way {i : Nat} (hi : i < (numT n.pipes node n.pipes.length).length) : (wayL (keptT n.pipes node n.pipes.length) (i : Int)).length = (wayL n.pipes (ix (numT n.pipes node n.pipes.length) i)).length ∧
    ∀ k, k < (wayL (keptT n.pipes node n.pipes.length) (i : Int)).length → 0 ≤ ix (wayL (keptT n.pipes node n.pipes.length) (i : Int)) k ∧ ix (wayL (keptT n.pipes node n.pipes.length) (i : Int)) k < ((numT n.pipes node n.pipes.length).length : Int) ∧ ix (numT n.pipes node n.pipes.length) (ix (wayL (keptT n.pipes node n.pipes.length) (i : Int)) k).toNat = ix (wayL n.pipes (ix (numT n.pipes node n.pipes.length) i)) k := by
  have ht := netB_tree hok
  have hq : Tree (keptT n.pipes node n.pipes.length) := netB_tree (kept_net hok h0)
  have hkl := keptT_len n.pipes node n.pipes.length
  have key : ∀ j : Int, 0 ≤ j → j < (keptT n.pipes node n.pipes.length).length → ∃ x, ix (numT n.pipes node n.pipes.length) j.toNat = x ∧ 0 ≤ x ∧ x < n.pipes.length ∧ par (keptT n.pipes node n.pipes.length) j = newN n.pipes node (par n.pipes x) ∧ (par n.pipes x ≠ -1 → onB n.pipes node (par n.pipes x) = false) := fun j j0 j1 => by
    obtain ⟨a0, a1, a2, a3, a4⟩ := ix_numT n.pipes node (k := j.toNat) n.pipes.length (by omega)
    refine ⟨_, rfl, a0, a1, ?_, fun hp => ?_⟩
    · rw [show j = ((j.toNat : Nat) : Int) by omega, ← ix_par, show ((j.toNat : Nat) : Int).toNat = j.toNat by omega, a4]
      unfold cutP
      rw [ix_par, show (((ix (numT n.pipes node n.pipes.length) j.toNat).toNat : Nat) : Int) = ix (numT n.pipes node n.pipes.length) j.toNat by omega]
    · cases hb : onB n.pipes node (par n.pipes (ix (numT n.pipes node n.pipes.length) j.toNat)) with
      | false => rfl
      | true => rw [onB_step ht a0 a1, hb] at a2; simp at a2
  have hm := way_map ht hq (fun j => ix (numT n.pipes node n.pipes.length) j.toNat) (fun j j0 j1 => by
      obtain ⟨x, e, x0, x1, _⟩ := key j j0 j1
      simp only [e]; exact ⟨x0, x1⟩)
    (fun j j0 j1 => by
      obtain ⟨x, e, x0, x1, hp, _⟩ := key j j0 j1
      have := par_lt ht x0 x1
      simp only [e, hp]
      unfold newN
      by_cases h : par n.pipes x < 0
      · rw [if_pos h]; omega
      · rw [if_neg h]; omega)
    (fun j j0 j1 hne => by
      obtain ⟨x, e, x0, x1, hp, hf⟩ := key j j0 j1
      have hpl := par_lt ht x0 x1
      simp only [e, hp]
      have hp1 : par n.pipes x ≠ -1 := fun h => hne (by rw [hp, h]; rfl)
      obtain ⟨q, h3, h4⟩ := numT_mem n.pipes node (by omega) (hf hp1) n.pipes.length (by omega)
      rw [numT_at n.pipes node n.pipes.length h3 h4, Int.toNat_natCast, h4])
    (i + 1) (i : Int) (by omega) (by omega) (by omega)
  simp only [Int.toNat_natCast] at hm
  refine ⟨by rw [← hm, List.length_map], fun k hk => ?_⟩
  have hmem : ix (wayL (keptT n.pipes node n.pipes.length) (i : Int)) k ∈ wayL (keptT n.pipes node n.pipes.length) (i : Int) := by rw [ix_eq hk]; exact List.getElem_mem hk
  have h3 := wayF_mem _ _ _ _ hmem
  have h4 := wayF_lt hq _ _ _ (by omega) hmem
  refine ⟨h3, by omega, ?_⟩
  rw [← hm, ix_map _ hk]
end
/-- Loads without frozen pipes. -/
theorem Loads_nil (n : Net) (flows : List Rng) (hok : netB n = true) (hl : flows.length = n.pipes.length) (hf : flowsB flows = true) : CallFr Try.prog 23 [.agg [.i n.pump, .ls 1], .ls 2, .v (.slice none 0 0)] [1, 2] [some (.ro 5 n.pipes.length (Lst eP n.pipes)), some (.ro 2 flows.length (Lst eR flows))] (.tup [.one (.ls 4), .one (.i 0)]) [(4, some (.vec 52 2 n.pipes.length (Lst eR (pairT (ldV n.pipes (lowF flows) []) (ldV n.pipes (highF flows) []) n.pipes.length))))] := by
  have hn := netB_len hok
  have h : CallFr Try.prog 23 [.agg [.i n.pump, .ls 1], .ls 2, .v (.slice none 0 0)] [1, 2] [some (.ro 5 n.pipes.length (Lst eP n.pipes)), some (.ro 2 flows.length (Lst eR flows))] (.tup [.one (.ls 4), .one (.i (LoadsV n flows []).2)]) [(4, some (.vec 52 2 (LoadsV n flows []).1.length (Lst eR (LoadsV n flows []).1)))] :=
    callFr_vec (by rfl) (by omega) fun ν sup w m => by
      obtain ⟨A, c, e, h1, h2⟩ := mP m (i := 1) rfl
      obtain ⟨B, d, e2, h3, h4⟩ := mR m (i := 2) rfl
      simp only [List.map_cons, List.map_nil, SV.val, PV.val, LV.val, e, e2]
      refine (LoadsC n A c w 0 _ h2 (Nat.le_refl _) h1 (by unfold maxLen; omega) B none d 0 flows [] 0 _ 0 0 h4 (Nat.le_refl _) (by unfold maxLen; omega) Rd.nil (Nat.zero_le _) (Nat.le_refl _) (Nat.zero_le _)).mono fun e w' ⟨⟨v, h7, h8⟩, h9⟩ => ⟨⟨v, _, ?_, h8, fR _⟩, h9⟩
      rw [h7, upd_self]
  rw [LoadsV_R hok hl hf rfl] at h
  simp only [pairT_len] at h
  exact h
theorem bin_neq_range {xo yo : Operand} (a b c d : Int) {r : Bool} (h : (decide (a ≠ c) || decide (b ≠ d)) = r) : BinRun Try.prog .neq 52 xo yo (.agg #[.int .i64 a, .int .i64 b]) (.agg #[.int .i64 c, .int .i64 d]) (.bool r) := by
  subst h
  intro w
  have h1 : Try.prog.eqGuardType Try.prog.depth 52 = false := by kernel_rfl
  have h2 : Try.prog.stoodInHeld 52 = false := by kernel_rfl
  have h3 : Try.prog.underlying 52 = some (.struct (Try.prog.fieldsOf 52)) := by kernel_rfl
  have h4 : Try.prog.underlying 3 = some (.int .i64) := by kernel_rfl
  have h5 : (Try.prog.fieldsOf 52).toList = [⟨"Low", 3, 0, false, "", "", 0⟩, ⟨"High", 3, 1, false, "", "", 8⟩] := by kernel_rfl
  have h6 : ∀ w, (part 3 #[.int .i64 a, .int .i64 b] 0).run Try.prog w = .ok (.int .i64 a) w := fun _ => by kernel_rfl
  have h7 : ∀ w, (part 3 #[.int .i64 a, .int .i64 b] 1).run Try.prog w = .ok (.int .i64 b) w := fun _ => by kernel_rfl
  have h8 : ∀ w, (part 3 #[.int .i64 c, .int .i64 d] 0).run Try.prog w = .ok (.int .i64 c) w := fun _ => by kernel_rfl
  have h9 : ∀ w, (part 3 #[.int .i64 c, .int .i64 d] 1).run Try.prog w = .ok (.int .i64 d) w := fun _ => by kernel_rfl
  have g1 : ∀ w (u v : Int), (Op.equalIn 9999 3 (.int .i64 u) (.int .i64 v)).run Try.prog w = .ok (u == v) w := fun w u v => run_equalIn_int w 9998 _ _ _ u v h4
  have g2 : ∀ w, (Op.equalIn 10000 52 (.agg #[.int .i64 a, .int .i64 b]) (.agg #[.int .i64 c, .int .i64 d])).run Try.prog w = .ok ((a == c) && (b == d)) w := fun w => by
    rw [run_equalIn_agg w 9999 _ _ _ h3 h2, h5]
    simp only [Op.eqFields, Sem.run_bind, h6, h7, h8, h9, g1, Result.andThen_ok]
    cases e1 : (a == c) <;> cases e2 : (b == d) <;> simp [Sem.run_bind, h6, h7, h8, h9, g1, e1, e2]
  rw [Sem.run_bind, run_eqGuard_agg _ _ _ _ _ _ _ h1]
  simp only [Result.andThen_ok]
  rw [run_neq_struct, g2]
  by_cases e1 : a = c <;> by_cases e2 : b = d <;> simp [e1, e2, Result.andThen]
theorem numT_incr (ps : List Pipe) (node : Int) (m : Nat) {j k : Nat} (h : j < k) (hk : k < (numT ps node m).length) : ix (numT ps node m) j < ix (numT ps node m) k := by
  obtain ⟨a0, _, _, a3, _⟩ := ix_numT ps node (k := j) m (by omega)
  obtain ⟨b0, _, _, b3, _⟩ := ix_numT ps node (k := k) m hk
  rcases Int.lt_or_le (ix (numT ps node m) j) (ix (numT ps node m) k) with h1 | h1
  · exact h1
  · have h2 := numT_mono ps node (show (ix (numT ps node m) k).toNat ≤ (ix (numT ps node m) j).toNat by omega)
    unfold newN at a3 b3
    rw [if_neg (by omega)] at a3 b3
    omega
theorem offT_zero (ps : List Pipe) (node : Int) : offT ps node 0 = [pump0] := rfl
theorem offT_succ (ps : List Pipe) (node : Int) {k : Nat} (h : k < (behT ps node ps.length).length) : offT ps node (k + 1) = offT ps node k ++ [offP ps node (ix (behT ps node ps.length) k)] := by
  unfold offT
  rw [List.take_succ_eq_append_getElem h, List.map_append, ix_eq h]; rfl
/-- The parent of a node behind, found by its rank. -/
theorem rank_iff (ps : List Pipe) (node x : Int) (hx0 : -1 ≤ x) {k : Nat} (hk : k < (behT ps node ps.length).length) (hx : x < ps.length) : ix (behT ps node ps.length) k = x ↔ onB ps node x = true ∧ rankB ps node x = k := by
  obtain ⟨a0, a1, a2, a3⟩ := ix_behT ps node ps.length hk
  constructor
  · rintro rfl; exact ⟨a2, a3⟩
  · rintro ⟨h1, rfl⟩
    have h0 : 0 ≤ x := by
      rcases Int.lt_or_le x 0 with h | h
      · have : onB ps node x = false := by unfold onB; rw [wayL_neg ps h]; rfl
        rw [this] at h1; cases h1
      · exact h
    exact (behT_mem ps node h0 h1 ps.length hx).2
theorem moved_ok {n : Net} {d : Int} {flows : List Rng} (hfb : flowsB flows = true) (hl : flows.length = n.pipes.length) (hok : netB n = true) (h0 : 0 < d) (h1 : d < n.pipes.length) : flowsB ((ordL n.pipes d).map fun y => ix flows y.toNat) = true := by
  unfold flowsB at *
  rw [List.all_eq_true] at *
  intro r hr
  obtain ⟨y, hy, rfl⟩ := List.mem_map.1 hr
  obtain ⟨k, hk, rfl⟩ := List.getElem_of_mem hy
  have hk2 : k < n.pipes.length := by rw [← ordL_len hok (node := d)]; exact hk
  have := (ag_at hok h0 h1 hk2).1
  rw [← ix_eq hk]
  refine hfb _ ?_
  rw [ix_eq (by omega)]
  exact List.getElem_mem _
theorem ldV_cong {ps : List Pipe} {f g : Nat → Int} {z : List Int} (h : ∀ k, k < ps.length → f k = g k) {j : Nat} (hj : j < ps.length) : ldV ps f z j = ldV ps g z j :=
  Int.le_antisymm (ldV_mono (fun k hk => Int.le_of_eq (h k hk)) hj) (ldV_mono (fun k hk => Int.le_of_eq (h k hk).symm) hj)
theorem ld_same {n : Net} {d : Int} {flows : List Rng} (hok : netB n = true) (h0 : 0 < d) (h1 : d < n.pipes.length) (hl : flows.length = n.pipes.length) {v : Nat} (hv : v < n.pipes.length) :
    ix (pairT (ldV (agT n.pipes d) (lowF ((ordL n.pipes d).map fun y => ix flows y.toNat)) []) (ldV (agT n.pipes d) (highF ((ordL n.pipes d).map fun y => ix flows y.toNat)) []) (agT n.pipes d).length) v = ix (pairT (ldV n.pipes (lowF flows) []) (ldV n.pipes (highF flows) []) n.pipes.length) (ix (ordL n.pipes d) v).toNat := by
  have hal := agT_len hok (node := d)
  have hol := ordL_len hok (node := d)
  have ho := (ag_at hok h0 h1 hv).1
  have key : ∀ k, k < n.pipes.length → ix ((ordL n.pipes d).map fun y => ix flows y.toNat) k = ix flows (ix (ordL n.pipes d) k).toNat := fun k hk => ix_map _ (by omega)
  rw [ix_pairT (by omega), ix_pairT (by omega), ← ag_load hok h0 h1 (lowF flows) hv, ← ag_load hok h0 h1 (highF flows) hv]
  rw [ldV_cong (f := lowF ((ordL n.pipes d).map fun y => ix flows y.toNat)) (g := fun i => lowF flows (ix (ordL n.pipes d) i).toNat) (fun k hk => by rw [← lowF_ix, ← lowF_ix, key k (by omega)]) (by omega),
    ldV_cong (f := highF ((ordL n.pipes d).map fun y => ix flows y.toNat)) (g := fun i => highF flows (ix (ordL n.pipes d) i).toNat) (fun k hk => by rw [← highF_ix, ← highF_ix, key k (by omega)]) (by omega)]
end Go.Proofs.Ytepibjfmeibgcaa
