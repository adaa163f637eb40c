/- What the document's planner comes to, and why the planned bores are the best. No program is in sight here. -/
import Derived.Test.YtepibjfmeibgcaaWv
import Derived.Test.YtepibjfmeibgcaaCt
namespace Go.Proofs.Ytepibjfmeibgcaa
set_option linter.unusedVariables false
set_option linter.unusedSectionVars false
def never : Int := 1000000000000
def refC (c : Cho) : Int := if c.index < 0 then never else c.cost
/-- The vacuum behind a pipe with a bore. -/
def vacB (p : Pipe) (b : Bor) (vac load : Int) : Int := max 0 (vac - lossZ { p with bore := b.size } load)
/-- What a bore costs at a node, with all behind it. -/
def withV (ps : List Pipe) (loads : List Int) (need : Int) (rec : Nat → Int → Cho) (node : Nat) (vac : Int) (b : Bor) : Int :=
  if 0 < (pAt ps node).taps ∧ vacB (pAt ps node) b vac (loads.getD node 0) < need then never
  else if (allF rec (vacB (pAt ps node) b vac (loads.getD node 0)) (kids ps node) 0).2 = true then (allF rec (vacB (pAt ps node) b vac (loads.getD node 0)) (kids ps node) 0).1 + (pAt ps node).length * b.price else never
theorem boreStep_eq (ps : List Pipe) (loads : List Int) (need : Int) (rec : Nat → Int → Cho) (node : Nat) (vac : Int) (i : Nat) (b : Bor) (c : Cho) :
    boreStep ps loads need rec node vac i b c = if 0 < (pAt ps node).taps ∧ vacB (pAt ps node) b vac (loads.getD node 0) < need then c
      else if (allF rec (vacB (pAt ps node) b vac (loads.getD node 0)) (kids ps node) 0).2 = true ∧ (c.index < 0 ∨ (allF rec (vacB (pAt ps node) b vac (loads.getD node 0)) (kids ps node) 0).1 + (pAt ps node).length * b.price < c.cost) then ⟨i, (allF rec (vacB (pAt ps node) b vac (loads.getD node 0)) (kids ps node) 0).1 + (pAt ps node).length * b.price, vacB (pAt ps node) b vac (loads.getD node 0)⟩ else c := rfl
theorem bore_at {bores : List Bor} (h : boresB bores = true) {k : Nat} (hk : k < bores.length) : 4 ≤ (ix bores k).size ∧ (ix bores k).size ≤ 80 ∧ 0 ≤ (ix bores k).price ∧ (ix bores k).price ≤ 1000 := by
  unfold boresB at h
  rw [List.all_eq_true] at h
  have := h _ (List.getElem_mem hk)
  rw [ix_eq hk]
  unfold boreB at this
  rw [Bool.and_eq_true] at this
  have h1 := inB_true this.1
  have h2 := inB_true this.2
  omega
section
variable {ps : List Pipe} {loads : List Int} {bores : List Bor} {need pump : Int} (h : PlOk ps loads bores need pump)
include h
theorem rec_bd {k : Nat} (h0 : 0 < k) (hk : k < ps.length) {v : Int} (v0 : 0 ≤ v) (v1 : v ≤ 10000) : ChoOk bores.length (wL ps 100000000 k) (atL ps loads bores need k v) :=
  atF_ok h.t h.l h.p h.b (ps.length - k) k v h0 hk v0 v1
theorem all_bd {node : Nat} (hn : node < ps.length) {v : Int} (v0 : 0 ≤ v) (v1 : v ≤ 10000) : 0 ≤ (allF (atL ps loads bores need) v (kids ps node) 0).1 ∧ (allF (atL ps loads bores need) v (kids ps node) 0).1 ≤ 6000000000 := by
  have h1 := allF_bd (rec := atL ps loads bores need) (v := v) (W := wL ps 100000000) (kids ps node) 0 (fun k hk => by
    have hk' := kids_gt h.t hk
    have := rec_bd h (show 0 < k by omega) hk'.2 v0 v1
    exact ⟨this.2.2.1, this.2.2.2.1⟩) (Int.le_refl _)
  have hw := (wL_bd h.t (M := 100000000) (by omega) hn).2.2
  have := h.n
  omega
theorem own_bd {node : Nat} (h0 : 0 < node) (hn : node < ps.length) {k : Nat} (hk : k < bores.length) : 0 ≤ (pAt ps node).length * (ix bores k).price ∧ (pAt ps node).length * (ix bores k).price ≤ 100000000 := by
  obtain ⟨l0, l1, _⟩ := h.p node h0 hn
  have hb := bore_at h.b hk
  have := mul_bounds (show 0 ≤ (pAt ps node).length by omega) l1 hb.2.2.1 hb.2.2.2
  omega
theorem vacB_bd {node : Nat} (h0 : 0 < node) (hn : node < ps.length) {k : Nat} (hk : k < bores.length) {vac : Int} (v0 : 0 ≤ vac) (v1 : vac ≤ 10000) : 0 ≤ vacB (pAt ps node) (ix bores k) vac (loads.getD node 0) ∧ vacB (pAt ps node) (ix bores k) vac (loads.getD node 0) ≤ 10000 := by
  obtain ⟨l0, l1, _, _, d0, d1⟩ := h.p node h0 hn
  have hb := bore_at h.b hk
  have hl := h.l node
  have hls := lossZ_bd (p := { pAt ps node with bore := (ix bores k).size }) ⟨l0, l1, hb.1, hb.2.1, d0, d1⟩ hl.1 hl.2
  obtain ⟨L, hL⟩ : ∃ L, lossZ { pAt ps node with bore := (ix bores k).size } (loads.getD node 0) = L := ⟨_, rfl⟩
  rw [hL] at hls
  have e : vacB (pAt ps node) (ix bores k) vac (loads.getD node 0) = max 0 (vac - L) := congrArg (fun z => max 0 (vac - z)) hL
  rw [e]
  omega
theorem with_bd {node : Nat} (h0 : 0 < node) (hn : node < ps.length) {k : Nat} (hk : k < bores.length) {vac : Int} (v0 : 0 ≤ vac) (v1 : vac ≤ 10000) : 0 ≤ withV ps loads need (atL ps loads bores need) node vac (ix bores k) ∧ withV ps loads need (atL ps loads bores need) node vac (ix bores k) ≤ never := by
  have hb := vacB_bd h h0 hn hk v0 v1
  have ha := all_bd h hn hb.1 hb.2
  have ho := own_bd h h0 hn hk
  unfold withV never
  split
  · omega
  · split <;> omega
end
/-- So many bores are tried. -/
structure BInv (ps : List Pipe) (loads : List Int) (bores : List Bor) (need : Int) (node : Nat) (vac : Int) (k : Nat) (c : Cho) : Prop where
  low : refC c ≤ never
  all : ∀ q, q < k → refC c ≤ withV ps loads need (atL ps loads bores need) node vac (ix bores q)
  best : 0 ≤ c.index → c.index.toNat < k ∧ withV ps loads need (atL ps loads bores need) node vac (ix bores c.index.toNat) = c.cost ∧ c.vac = vacB (pAt ps node) (ix bores c.index.toNat) vac (loads.getD node 0) ∧ c.cost < never ∧ ¬ (0 < (pAt ps node).taps ∧ c.vac < need) ∧ ∀ q, q < c.index.toNat → c.cost < withV ps loads need (atL ps loads bores need) node vac (ix bores q)
theorem refC_neg {c : Cho} (h : c.index < 0) : refC c = never := if_pos h
theorem refC_pos {c : Cho} (h : 0 ≤ c.index) : refC c = c.cost := if_neg (by omega)
theorem BInv.keep {ps : List Pipe} {loads : List Int} {bores : List Bor} {need : Int} {node : Nat} {vac : Int} {k : Nat} {c : Cho} (I : BInv ps loads bores need node vac k c) (h : refC c ≤ withV ps loads need (atL ps loads bores need) node vac (ix bores k)) : BInv ps loads bores need node vac (k + 1) c where
  low := I.low
  all := fun q hq => by
    rcases Nat.lt_or_ge q k with h1 | h1
    · exact I.all q h1
    · rw [show q = k by omega]; exact h
  best := fun h0 => by obtain ⟨a, b⟩ := I.best h0; exact ⟨by omega, b⟩
section
variable {ps : List Pipe} {loads : List Int} {bores : List Bor} {need pump : Int} (h : PlOk ps loads bores need pump) {node : Nat} (h0 : 0 < node) (hn : node < ps.length) {vac : Int} (v0 : 0 ≤ vac) (v1 : vac ≤ 10000)
include h h0 hn v0 v1
theorem bstep {k : Nat} (hk : k < bores.length) {c : Cho} (I : BInv ps loads bores need node vac k c) :
    BInv ps loads bores need node vac (k + 1) (boreStep ps loads need (atL ps loads bores need) node vac k (ix bores k) c) ∧
    refC (boreStep ps loads need (atL ps loads bores need) node vac k (ix bores k) c) = min (refC c) (withV ps loads need (atL ps loads bores need) node vac (ix bores k)) := by
  have hb := vacB_bd h h0 hn hk v0 v1
  have ha := all_bd h hn hb.1 hb.2
  have ho := own_bd h h0 hn hk
  have hlow := I.low
  rw [boreStep_eq]
  by_cases hx : 0 < (pAt ps node).taps ∧ vacB (pAt ps node) (ix bores k) vac (loads.getD node 0) < need
  · rw [if_pos hx]
    have hw : withV ps loads need (atL ps loads bores need) node vac (ix bores k) = never := if_pos hx
    exact ⟨I.keep (by rw [hw]; exact hlow), by rw [hw]; omega⟩
  · rw [if_neg hx]
    by_cases ht : (allF (atL ps loads bores need) (vacB (pAt ps node) (ix bores k) vac (loads.getD node 0)) (kids ps node) 0).2 = true
    · have hw : withV ps loads need (atL ps loads bores need) node vac (ix bores k) = (allF (atL ps loads bores need) (vacB (pAt ps node) (ix bores k) vac (loads.getD node 0)) (kids ps node) 0).1 + (pAt ps node).length * (ix bores k).price := (if_neg hx).trans (if_pos ht)
      have hfin : withV ps loads need (atL ps loads bores need) node vac (ix bores k) < never := by rw [hw]; unfold never; omega
      rw [← hw]
      by_cases hc : c.index < 0 ∨ withV ps loads need (atL ps loads bores need) node vac (ix bores k) < c.cost
      · rw [if_pos ⟨ht, hc⟩]
        have hlt : withV ps loads need (atL ps loads bores need) node vac (ix bores k) < refC c := by
          rcases Int.lt_or_le c.index 0 with hi | hi
          · rw [refC_neg hi]; exact hfin
          · rw [refC_pos hi]; omega
        have hr : refC ⟨(k : Int), withV ps loads need (atL ps loads bores need) node vac (ix bores k), vacB (pAt ps node) (ix bores k) vac (loads.getD node 0)⟩ = withV ps loads need (atL ps loads bores need) node vac (ix bores k) := refC_pos (Int.natCast_nonneg k)
        refine ⟨⟨by rw [hr]; omega, fun q hq => ?_, fun _ => ⟨by simp only [Int.toNat_natCast]; omega, by simp only [Int.toNat_natCast], by simp only [Int.toNat_natCast], hfin, hx, fun q hq => ?_⟩⟩, by rw [hr]; omega⟩
        · rw [hr]
          rcases Nat.lt_or_ge q k with h1 | h1
          · have := I.all q h1; omega
          · rw [show q = k by omega]; exact Int.le_refl _
        · simp only [Int.toNat_natCast] at hq
          have := I.all q hq
          exact Int.lt_of_lt_of_le hlt this
      · rw [if_neg (fun h => hc h.2)]
        have hge : refC c ≤ withV ps loads need (atL ps loads bores need) node vac (ix bores k) := by
          rw [refC_pos (by omega)]; omega
        exact ⟨I.keep hge, by omega⟩
    · rw [if_neg (fun h => ht h.1)]
      have hw : withV ps loads need (atL ps loads bores need) node vac (ix bores k) = never := (if_neg hx).trans (if_neg ht)
      exact ⟨I.keep (by rw [hw]; exact hlow), by rw [hw]; omega⟩
end
theorem boresF_snoc (ps : List Pipe) (loads : List Int) (need : Int) (rec : Nat → Int → Cho) (node : Nat) (vac : Int) (b : Bor) : ∀ (bs : List Bor) (i : Nat) (c : Cho), boresF ps loads need rec node vac (bs ++ [b]) i c = boreStep ps loads need rec node vac (i + bs.length) b (boresF ps loads need rec node vac bs i c) := by
  intro bs
  induction bs with
  | nil => intro i c; rfl
  | cons x xs ih =>
    intro i c
    simp only [List.cons_append, boresF]
    rw [ih, List.length_cons, show i + 1 + xs.length = i + (xs.length + 1) by omega]
/-- The best of the first so many bores. -/
def bTo (ps : List Pipe) (loads : List Int) (bores : List Bor) (need : Int) (node : Nat) (vac : Int) (k : Nat) : Cho := boresF ps loads need (atL ps loads bores need) node vac (bores.take k) 0 noCho
theorem bTo_succ (ps : List Pipe) (loads : List Int) (bores : List Bor) (need : Int) (node : Nat) (vac : Int) {k : Nat} (hk : k < bores.length) : bTo ps loads bores need node vac (k + 1) = boreStep ps loads need (atL ps loads bores need) node vac k (ix bores k) (bTo ps loads bores need node vac k) := by
  unfold bTo
  rw [List.take_succ_eq_append_getElem hk, boresF_snoc, ← ix_eq hk, List.length_take, show 0 + min k bores.length = k by omega]
theorem bTo_all {ps : List Pipe} (ht : Tree ps) (loads : List Int) (bores : List Bor) (need : Int) {node : Nat} (vac : Int) (hn : node < ps.length) : bTo ps loads bores need node vac bores.length = atL ps loads bores need node vac := by
  unfold bTo; rw [List.take_length, ← atL_eq ht loads bores need node vac hn]
section
variable {ps : List Pipe} {loads : List Int} {bores : List Bor} {need pump : Int} (h : PlOk ps loads bores need pump) {node : Nat} (h0 : 0 < node) (hn : node < ps.length) {vac : Int} (v0 : 0 ≤ vac) (v1 : vac ≤ 10000)
include h h0 hn v0 v1
theorem bTo_inv : ∀ k, k ≤ bores.length → BInv ps loads bores need node vac k (bTo ps loads bores need node vac k) := by
  intro k
  induction k with
  | zero => intro _; exact ⟨Int.le_refl _, fun q hq => by omega, fun hh => absurd hh (by simp only [bTo, boresF, noCho, List.take_zero]; omega)⟩
  | succ k ih =>
    intro hk
    rw [bTo_succ ps loads bores need node vac (by omega)]
    exact (bstep h h0 hn v0 v1 (by omega) (ih (by omega))).1
theorem cost_succ {k : Nat} (hk : k < bores.length) : refC (bTo ps loads bores need node vac (k + 1)) = min (refC (bTo ps loads bores need node vac k)) (withV ps loads need (atL ps loads bores need) node vac (ix bores k)) := by
  rw [bTo_succ ps loads bores need node vac hk]
  exact (bstep h h0 hn v0 v1 hk (bTo_inv h h0 hn v0 v1 k (by omega))).2
theorem at_best : BInv ps loads bores need node vac bores.length (atL ps loads bores need node vac) := by
  rw [← bTo_all h.t loads bores need vac hn]
  exact bTo_inv h h0 hn v0 v1 _ (Nat.le_refl _)
end
theorem refC_zero (ps : List Pipe) (loads : List Int) (bores : List Bor) (need : Int) (node : Nat) (vac : Int) : refC (bTo ps loads bores need node vac 0) = never := rfl
/-- The nodes before one whose parent is a node. -/
def kidsR (ps : List Pipe) (node m : Nat) : List Nat := (List.range m).filter fun j => decide (0 < j ∧ par ps j = node)
theorem kidsR_all (ps : List Pipe) (node : Nat) : kidsR ps node ps.length = kids ps node := rfl
theorem kidsR_none {ps : List Pipe} (ht : Tree ps) {node : Nat} (hn : node < ps.length) : kidsR ps node (node + 1) = [] := by
  unfold kidsR
  rw [List.filter_eq_nil_iff]
  intro j hj
  rw [List.mem_range] at hj
  rw [decide_eq_true_eq]
  intro hh
  have := ht j (by omega)
  omega
theorem kidsR_yes {ps : List Pipe} {node m : Nat} (h0 : 0 < m) (hp : par ps m = node) : kidsR ps node (m + 1) = kidsR ps node m ++ [m] := by
  unfold kidsR
  rw [List.range_succ, List.filter_append]
  congr 1
  simp [h0, hp]
theorem kidsR_no {ps : List Pipe} {node m : Nat} (hp : ¬ par ps m = node) : kidsR ps node (m + 1) = kidsR ps node m := by
  unfold kidsR
  rw [List.range_succ, List.filter_append]
  simp [hp]
theorem kidsR_len (ps : List Pipe) (node m : Nat) : (kidsR ps node m).length ≤ m := by
  unfold kidsR
  have := List.length_filter_le (fun (j : Nat) => decide (0 < j ∧ par ps j = node)) (List.range m)
  rw [List.length_range] at this
  exact this
theorem kidsR_mem {ps : List Pipe} {node m j : Nat} (h : j ∈ kidsR ps node m) : 0 < j ∧ j < m ∧ par ps j = node := by
  unfold kidsR at h
  rw [List.mem_filter, List.mem_range, decide_eq_true_eq] at h
  exact ⟨h.2.1, h.1, h.2.2⟩
theorem allF_snoc (rec : Nat → Int → Cho) (v : Int) (k : Nat) : ∀ (ks : List Nat) (c : Int), allF rec v (ks ++ [k]) c = if (allF rec v ks c).2 = true then (if (rec k v).index < 0 then (0, false) else ((allF rec v ks c).1 + (rec k v).cost, true)) else (0, false) := by
  intro ks
  induction ks with
  | nil => intro c; rfl
  | cons x xs ih =>
    intro c
    rw [List.cons_append]
    by_cases hx : (rec x v).index < 0
    · have e1 : allF rec v (x :: xs) c = (0, false) := if_pos hx
      have e2 : allF rec v (x :: (xs ++ [k])) c = (0, false) := if_pos hx
      rw [e1, e2]; rfl
    · have e1 : allF rec v (x :: xs) c = allF rec v xs (c + (rec x v).cost) := if_neg hx
      have e2 : allF rec v (x :: (xs ++ [k])) c = allF rec v (xs ++ [k]) (c + (rec x v).cost) := if_neg hx
      rw [e1, e2]; exact ih _
theorem allF_true {rec : Nat → Int → Cho} {v : Int} : ∀ (ks : List Nat) (c : Int), (∀ k ∈ ks, 0 ≤ (rec k v).index) → allF rec v ks c = (c + (ks.map fun k => (rec k v).cost).sum, true) := by
  intro ks
  induction ks with
  | nil => intro c _; simp [allF]
  | cons x xs ih =>
    intro c hh
    have hx := hh x (by simp)
    simp only [allF]
    rw [if_neg (by omega), ih _ (fun k hk => hh k (by simp [hk])), List.map_cons, List.sum_cons, Int.add_assoc]
theorem allF_has {rec : Nat → Int → Cho} {v : Int} : ∀ (ks : List Nat) (c : Int), (allF rec v ks c).2 = true → ∀ k ∈ ks, 0 ≤ (rec k v).index := by
  intro ks
  induction ks with
  | nil => intro c _ k hk; cases hk
  | cons x xs ih =>
    intro c hh k hk
    simp only [allF] at hh
    by_cases hx : (rec x v).index < 0
    · rw [if_pos hx] at hh; cases hh
    · rw [if_neg hx] at hh
      rcases List.mem_cons.1 hk with rfl | hk
      · omega
      · exact ih _ hh k hk
/-- What a node's pipe and the children before a node cost. -/
def sumV (ps : List Pipe) (rec : Nat → Int → Cho) (node : Nat) (v base : Int) (m : Nat) : Int := if (allF rec v (kidsR ps node m) 0).2 = true then (allF rec v (kidsR ps node m) 0).1 + base else never
section
variable {ps : List Pipe} {loads : List Int} {bores : List Bor} {need pump : Int} (h : PlOk ps loads bores need pump) {node : Nat} (hn : node < ps.length) {v base : Int} (v0 : 0 ≤ v) (v1 : v ≤ 10000) (b0 : 0 ≤ base) (b1 : base ≤ 100000000)
include h hn v0 v1
theorem part_bd {m : Nat} (hm : m ≤ ps.length) : 0 ≤ (allF (atL ps loads bores need) v (kidsR ps node m) 0).1 ∧ (allF (atL ps loads bores need) v (kidsR ps node m) 0).1 ≤ 360000000000 := by
  have h1 := allF_bd (rec := atL ps loads bores need) (v := v) (W := fun _ => 6000000000) (kidsR ps node m) 0 (fun k hk => by
    have hk' := kidsR_mem hk
    have := atL_bd h hk'.1 (by omega) v0 v1
    exact ⟨this.2.2.1, this.2.2.2.1⟩) (Int.le_refl _)
  have hl := kidsR_len ps node m
  have hs : ((kidsR ps node m).map fun _ => (6000000000 : Int)).sum = (kidsR ps node m).length * 6000000000 := by
    generalize kidsR ps node m = l
    induction l with
    | nil => rfl
    | cons x xs ih => rw [List.map_cons, List.sum_cons, ih, List.length_cons]; omega
  rw [hs] at h1
  have := h.n
  omega
omit hn in
theorem refC_bd {m : Nat} (h0 : 0 < m) (hm : m < ps.length) : 0 ≤ refC (atL ps loads bores need m v) ∧ refC (atL ps loads bores need m v) ≤ never ∧ (0 ≤ (atL ps loads bores need m v).index → (atL ps loads bores need m v).cost ≤ 6000000000) := by
  have := atL_bd h h0 hm v0 v1
  unfold refC never
  refine ⟨?_, ?_, fun _ => this.2.2.2.1⟩ <;> split <;> omega
include b0 b1
theorem sumV_bd {m : Nat} (hm : m ≤ ps.length) : 0 ≤ sumV ps (atL ps loads bores need) node v base m ∧ sumV ps (atL ps loads bores need) node v base m ≤ never := by
  have := part_bd h hn v0 v1 hm
  unfold sumV never
  split <;> omega
theorem sumV_yes {m : Nat} (h0 : 0 < m) (hm : m < ps.length) (hp : par ps m = node) : sumV ps (atL ps loads bores need) node v base (m + 1) = min never (sumV ps (atL ps loads bores need) node v base m + refC (atL ps loads bores need m v)) := by
  have hb := part_bd h hn v0 v1 (show m ≤ ps.length by omega)
  have hr := refC_bd h v0 v1 h0 hm
  have hc := atL_bd h h0 hm v0 v1
  unfold sumV
  rw [kidsR_yes h0 hp, allF_snoc]
  by_cases ht : (allF (atL ps loads bores need) v (kidsR ps node m) 0).2 = true
  · rw [if_pos ht, if_pos ht]
    by_cases hi : (atL ps loads bores need m v).index < 0
    · rw [if_pos hi, refC_neg hi]
      simp only [Bool.false_eq_true, if_false]
      omega
    · rw [if_neg hi, refC_pos (by omega)]
      simp only [if_true]
      unfold never
      omega
  · rw [if_neg ht, if_neg ht]
    simp only [Bool.false_eq_true, if_false]
    omega
theorem sumV_no {m : Nat} (hp : ¬ par ps m = node) : sumV ps (atL ps loads bores need) node v base (m + 1) = sumV ps (atL ps loads bores need) node v base m := by
  unfold sumV; rw [kidsR_no hp]
theorem sumV_zero : sumV ps (atL ps loads bores need) node v base (node + 1) = base := by
  unfold sumV; rw [kidsR_none h.t hn]; simp [allF]
end
/-- A bore and a vacuum for each node, as they follow from the pump's. -/
structure Sel (ps : List Pipe) (loads : List Int) (bores : List Bor) (need pump : Int) (m : Nat → Nat) (V : Nat → Int) : Prop where
  v0 : V 0 = pump
  v : ∀ j, 0 < j → j < ps.length → V j = vacB (pAt ps j) (ix bores (m j)) (V (par ps j).toNat) (loads.getD j 0)
  lt : ∀ j, 0 < j → j < ps.length → m j < bores.length
  ok : ∀ j, 0 < j → j < ps.length → ¬ (0 < (pAt ps j).taps ∧ V j < need)
section
variable {ps : List Pipe} {loads : List Int} {bores : List Bor} {need pump : Int} (h : PlOk ps loads bores need pump) (p0 : 0 ≤ pump) (p1 : pump ≤ 10000) {m : Nat → Nat} {V : Nat → Int} (S : Sel ps loads bores need pump m V)
include h p0 p1 S
theorem Sel.bd : ∀ j, j < ps.length → 0 ≤ V j ∧ V j ≤ 10000 := by
  intro j
  induction j using Nat.strongRecOn with
  | ind j ih =>
    intro hj
    rcases Nat.eq_zero_or_pos j with rfl | h0
    · rw [S.v0]; exact ⟨p0, p1⟩
    · rw [S.v j h0 hj]
      have ht := h.t j hj
      have := ih (par ps j).toNat (by omega) (by omega)
      exact vacB_bd h h0 hj (S.lt j h0 hj) this.1 this.2
theorem Sel.with_eq {j : Nat} (h0 : 0 < j) (hj : j < ps.length) (hk : ∀ k ∈ kids ps j, 0 ≤ (atL ps loads bores need k (V j)).index) :
    withV ps loads need (atL ps loads bores need) j (V (par ps j).toNat) (ix bores (m j)) = ((kids ps j).map fun k => (atL ps loads bores need k (V j)).cost).sum + (pAt ps j).length * (ix bores (m j)).price := by
  have ha := allF_true (kids ps j) 0 hk
  unfold withV
  rw [← S.v j h0 hj, if_neg (S.ok j h0 hj), ha]
  simp
theorem Sel.has : ∀ (d j : Nat), 0 < j → j < ps.length → ps.length - j ≤ d → 0 ≤ (atL ps loads bores need j (V (par ps j).toNat)).index := by
  intro d
  induction d with
  | zero => intro j h0 hj hd; omega
  | succ d ih =>
    intro j h0 hj hd
    have hk : ∀ k ∈ kids ps j, 0 ≤ (atL ps loads bores need k (V j)).index := fun k hk => by
      have hm := kidsR_mem (m := ps.length) hk
      have hg := kids_gt h.t hk
      have := ih k hm.1 hm.2.1 (by omega)
      rw [hm.2.2, Int.toNat_natCast] at this
      exact this
    have hpj := h.t j hj
    have hv := Sel.bd h p0 p1 S (par ps j).toNat (by omega)
    have hB := at_best h h0 hj hv.1 hv.2
    have hle := hB.all (m j) (S.lt j h0 hj)
    have hs : ((kids ps j).map fun k => (atL ps loads bores need k (V j)).cost).sum = (allF (atL ps loads bores need) (V j) (kids ps j) 0).1 := by rw [allF_true (kids ps j) 0 hk, Int.zero_add]
    rw [Sel.with_eq h p0 p1 S h0 hj hk, hs] at hle
    have hvj := Sel.bd h p0 p1 S j hj
    have ha := all_bd h hj hvj.1 hvj.2
    have ho := own_bd h h0 hj (S.lt j h0 hj)
    rcases Int.lt_or_le (atL ps loads bores need j (V (par ps j).toNat)).index 0 with hi | hi
    · rw [refC_neg hi] at hle
      unfold never at hle
      omega
    · exact hi
/-- By how much more a bore costs than the best one at its place. -/
def more (ps : List Pipe) (loads : List Int) (bores : List Bor) (need : Int) (m : Nat → Nat) (V : Nat → Int) (j : Nat) : Int := withV ps loads need (atL ps loads bores need) j (V (par ps j).toNat) (ix bores (m j)) - (atL ps loads bores need j (V (par ps j).toNat)).cost
theorem Sel.all : allF (atL ps loads bores need) pump (kids ps 0) 0 = (((kids ps 0).map fun k => (atL ps loads bores need k (V (par ps k).toNat)).cost).sum, true) := by
  have hx : ∀ k ∈ kids ps 0, V (par ps k).toNat = pump := fun k hk => by
    have hm := kidsR_mem (m := ps.length) hk
    rw [hm.2.2]; exact S.v0
  rw [allF_true (kids ps 0) 0 (fun k hk => by
    have hm := kidsR_mem (m := ps.length) hk
    have := Sel.has h p0 p1 S ps.length k hm.1 hm.2.1 (by omega)
    rw [hx k hk] at this; exact this), Int.zero_add]
  rw [List.map_congr_left (g := fun k => (atL ps loads bores need k (V (par ps k).toNat)).cost) (fun k hk => by rw [hx k hk])]
theorem Sel.total (hl : 0 < ps.length) : sg ps.length (fun j => if 0 < j then (pAt ps j).length * (ix bores (m j)).price else 0) = (allF (atL ps loads bores need) pump (kids ps 0) 0).1 + sg ps.length (fun j => if 0 < j then more ps loads bores need m V j else 0) := by
  rw [Sel.all h p0 p1 S]
  have hk : ∀ j, 0 < j → j < ps.length → ∀ k ∈ kids ps j, 0 ≤ (atL ps loads bores need k (V j)).index := fun j h0 hj k hk => by
    have hm := kidsR_mem (m := ps.length) hk
    have := Sel.has h p0 p1 S ps.length k hm.1 hm.2.1 (by omega)
    rw [hm.2.2, Int.toNat_natCast] at this
    exact this
  obtain ⟨x, hx⟩ : ∃ x : Nat → Int, x = fun k => (atL ps loads bores need k (V (par ps k).toNat)).cost := ⟨_, rfl⟩
  have hkid : ∀ j, ((kids ps j).map fun k => (atL ps loads bores need k (V j)).cost).sum = sg ps.length (fun k => if decide (0 < k ∧ par ps k = j) = true then x k else 0) := fun j => by
    rw [List.map_congr_left (g := x) (fun k hk => by
      have hm := kidsR_mem (m := ps.length) hk
      rw [hx]; simp only []; rw [hm.2.2, Int.toNat_natCast])]
    exact sg_filter x _ _
  have hz : ((kids ps 0).map fun k => (atL ps loads bores need k (V (par ps k).toNat)).cost).sum = sg ps.length (fun k => if decide (0 < k ∧ par ps k = (0 : Nat)) = true then x k else 0) := by
    rw [hx]; exact sg_filter _ _ _
  simp only []
  rw [hz]
  have hsw := sg_swap (fun j k => if decide (0 < k ∧ par ps k = (j : Nat)) = true then x k else 0) ps.length ps.length
  have hin : sg ps.length (fun k => sg ps.length (fun j => if decide (0 < k ∧ par ps k = (j : Nat)) = true then x k else 0)) = sg ps.length (fun k => if 0 < k then x k else 0) := by
    apply sg_congr
    intro k hk
    have ht := h.t k hk
    rcases Nat.eq_zero_or_pos k with rfl | h0
    · rw [if_neg (by omega)]
      have : sg ps.length (fun j => if decide (0 < 0 ∧ par ps (0 : Nat) = (j : Nat)) = true then x 0 else 0) = sg ps.length (fun _ => 0) := sg_congr _ (fun j _ => by simp)
      rw [this, sg_zero]
    · rw [if_pos h0, sg_only (m := (par ps k).toNat) (by omega) (fun j hj hne => by
        rw [if_neg]
        rw [decide_eq_true_eq]
        intro hh
        omega), if_pos]
      rw [decide_eq_true_eq]
      exact ⟨h0, by omega⟩
  rw [hin] at hsw
  have hpt := sg_pt (a := fun j => if 0 < j then (pAt ps j).length * (ix bores (m j)).price else 0) (b := fun j => sg ps.length (fun k => if decide (0 < k ∧ par ps k = (j : Nat)) = true then x k else 0))
    (c := fun j => (if 0 < j then more ps loads bores need m V j else 0) + (if 0 < j then x j else 0)) (d := fun j => if j = 0 then sg ps.length (fun k => if decide (0 < k ∧ par ps k = (j : Nat)) = true then x k else 0) else 0) ps.length (fun j hj => by
      rcases Nat.eq_zero_or_pos j with rfl | h0
      · simp
      · rw [if_pos h0, if_pos h0, if_pos h0, if_neg (by omega), ← hkid j]
        have hw := Sel.with_eq h p0 p1 S h0 hj (hk j h0 hj)
        unfold more
        have hxj : x j = (atL ps loads bores need j (V (par ps j).toNat)).cost := by rw [hx]
        rw [hw, hxj]
        omega)
  rw [sg_add, sg_one (fun j => sg ps.length (fun k => if decide (0 < k ∧ par ps k = (j : Nat)) = true then x k else 0)) 0, if_pos hl] at hpt
  omega
theorem Sel.more_pos {j : Nat} (h0 : 0 < j) (hj : j < ps.length) : 0 ≤ more ps loads bores need m V j ∧ (((m j : Nat) : Int) < (atL ps loads bores need j (V (par ps j).toNat)).index → 0 < more ps loads bores need m V j) ∧ ((atL ps loads bores need j (V (par ps j).toNat)).index = ((m j : Nat) : Int) → more ps loads bores need m V j = 0) := by
  have hpj := h.t j hj
  have hv := Sel.bd h p0 p1 S (par ps j).toNat (by omega)
  have hB := at_best h h0 hj hv.1 hv.2
  have hi := Sel.has h p0 p1 S ps.length j h0 hj (by omega)
  have hle := hB.all (m j) (S.lt j h0 hj)
  rw [refC_pos hi] at hle
  obtain ⟨b1, b2, b3, b4, b5, b6⟩ := hB.best hi
  unfold more
  refine ⟨by omega, fun hlt => ?_, fun he => ?_⟩
  · have := b6 (m j) (by omega)
    omega
  · rw [show m j = (atL ps loads bores need j (V (par ps j).toNat)).index.toNat by omega, b2]
    omega
end
/-- The vacuums and the choices of the first nodes. -/
def plTo (ps : List Pipe) (loads : List Int) (bores : List Bor) (need pump : Int) (k : Nat) : List Int × List Int := plF (atL ps loads bores need) ((ps.drop 1).take k) [pump] []
theorem plTo_len (ps : List Pipe) (loads : List Int) (bores : List Bor) (need pump : Int) {k : Nat} (hk : k < ps.length) : (plTo ps loads bores need pump k).1.length = k + 1 ∧ (plTo ps loads bores need pump k).2.length = k := by
  have := plF_len (atL ps loads bores need) ((ps.drop 1).take k) [pump] []
  unfold plTo
  rw [List.length_take, List.length_drop] at this
  simp only [List.length_cons, List.length_nil] at this
  omega
/-- The vacuum that the plan leaves at a node. -/
def plV (ps : List Pipe) (loads : List Int) (bores : List Bor) (need pump : Int) (j : Nat) : Int := ix (plTo ps loads bores need pump j).1 j
/-- The choice of the plan for a node. -/
def plC (ps : List Pipe) (loads : List Int) (bores : List Bor) (need pump : Int) (j : Nat) : Cho := atL ps loads bores need j (plV ps loads bores need pump (par ps j).toNat)
theorem plTo_zero (ps : List Pipe) (loads : List Int) (bores : List Bor) (need pump : Int) : plTo ps loads bores need pump 0 = ([pump], []) := by simp [plTo, plF]
section
variable {ps : List Pipe} (ht : Tree ps) (loads : List Int) (bores : List Bor) (need pump : Int)
include ht
theorem plTo_step {k : Nat} (hk : k + 1 < ps.length) : plTo ps loads bores need pump (k + 1) = ((plTo ps loads bores need pump k).1 ++ [(atL ps loads bores need (k + 1) (ix (plTo ps loads bores need pump k).1 (par ps (k + 1 : Nat)).toNat)).vac], (plTo ps loads bores need pump k).2 ++ [(atL ps loads bores need (k + 1) (ix (plTo ps loads bores need pump k).1 (par ps (k + 1 : Nat)).toNat)).index]) := by
  have hl := (plTo_len ps loads bores need pump (show k < ps.length by omega)).1
  unfold plTo at *
  rw [List.take_succ_eq_append_getElem (show k < (ps.drop 1).length by rw [List.length_drop]; omega), plF_snoc, hl]
  have hp : ((ps.drop 1)[k]'(by rw [List.length_drop]; omega)).parent = par ps (k + 1 : Nat) := by
    rw [List.getElem_drop]
    unfold par
    rw [Int.toNat_natCast, List.getD_eq_getElem?_getD, List.getElem?_eq_getElem hk]
    simp only [Option.getD_some]
    congr 2
    omega
  rw [hp]
  rfl
theorem plTo_at {j : Nat} : ∀ k, j ≤ k → k < ps.length → ix (plTo ps loads bores need pump k).1 j = plV ps loads bores need pump j := by
  intro k
  induction k with
  | zero =>
    intro h1 h2
    obtain rfl : j = 0 := by omega
    rfl
  | succ k ih =>
    intro h1 h2
    rcases Nat.lt_or_ge j (k + 1) with h | h
    · rw [plTo_step ht loads bores need pump h2, ix_app (by rw [(plTo_len ps loads bores need pump (show k < ps.length by omega)).1]; omega)]
      exact ih (by omega) (by omega)
    · obtain rfl : j = k + 1 := by omega
      rfl
theorem plTo_succ {k : Nat} (hk : k + 1 < ps.length) : plTo ps loads bores need pump (k + 1) = ((plTo ps loads bores need pump k).1 ++ [(plC ps loads bores need pump (k + 1)).vac], (plTo ps loads bores need pump k).2 ++ [(plC ps loads bores need pump (k + 1)).index]) := by
  have h := ht (k + 1) hk
  rw [plTo_step ht loads bores need pump hk, plTo_at ht loads bores need pump k (by omega) (by omega)]
  rfl
theorem plV_succ {j : Nat} (h0 : 0 < j) (hj : j < ps.length) : plV ps loads bores need pump j = (plC ps loads bores need pump j).vac := by
  obtain ⟨k, rfl⟩ : ∃ k, j = k + 1 := ⟨j - 1, by omega⟩
  have hl := (plTo_len ps loads bores need pump (show k < ps.length by omega)).1
  unfold plV
  rw [plTo_succ ht loads bores need pump hj]
  simp only []
  have := ix_app2 (xs := (plTo ps loads bores need pump k).1) (ys := [(plC ps loads bores need pump (k + 1)).vac]) (i := 0)
  rw [hl] at this
  exact this
end
theorem plV_zero (ps : List Pipe) (loads : List Int) (bores : List Bor) (need pump : Int) : plV ps loads bores need pump 0 = pump := by unfold plV; rw [plTo_zero]; rfl
section
variable {ps : List Pipe} {loads : List Int} {bores : List Bor} {need pump : Int} (h : PlOk ps loads bores need pump) (p0 : 0 ≤ pump) (p1 : pump ≤ 10000)
include h p0 p1
theorem plV_bd : ∀ j, j < ps.length → 0 ≤ plV ps loads bores need pump j ∧ plV ps loads bores need pump j ≤ 10000 := by
  intro j
  induction j using Nat.strongRecOn with
  | ind j ih =>
    intro hj
    rcases Nat.eq_zero_or_pos j with rfl | h0
    · rw [plV_zero]; exact ⟨p0, p1⟩
    · have ht := h.t j hj
      have hv := ih (par ps j).toNat (by omega) (by omega)
      rw [plV_succ h.t loads bores need pump h0 hj]
      have := atL_bd h h0 hj hv.1 hv.2
      exact this.2.2.2.2
theorem plC_best {j : Nat} (h0 : 0 < j) (hj : j < ps.length) : BInv ps loads bores need j (plV ps loads bores need pump (par ps j).toNat) bores.length (plC ps loads bores need pump j) := by
  have ht := h.t j hj
  have hv := plV_bd h p0 p1 (par ps j).toNat (by omega)
  exact at_best h h0 hj hv.1 hv.2
theorem plan_sel (hall : ∀ j, 0 < j → j < ps.length → 0 ≤ (plC ps loads bores need pump j).index) : Sel ps loads bores need pump (fun j => (plC ps loads bores need pump j).index.toNat) (plV ps loads bores need pump) where
  v0 := plV_zero ps loads bores need pump
  v := fun j h0 hj => by
    rw [plV_succ h.t loads bores need pump h0 hj]
    exact ((plC_best h p0 p1 h0 hj).best (hall j h0 hj)).2.2.1
  lt := fun j h0 hj => ((plC_best h p0 p1 h0 hj).best (hall j h0 hj)).1
  ok := fun j h0 hj => by
    rw [plV_succ h.t loads bores need pump h0 hj]
    exact ((plC_best h p0 p1 h0 hj).best (hall j h0 hj)).2.2.2.2.1
theorem plan_has (hs : (allF (atL ps loads bores need) pump (kids ps 0) 0).2 = true) : ∀ j, 0 < j → j < ps.length → 0 ≤ (plC ps loads bores need pump j).index := by
  intro j
  induction j using Nat.strongRecOn with
  | ind j ih =>
    intro h0 hj
    have ht := h.t j hj
    obtain ⟨q, hq⟩ : ∃ q, (par ps j).toNat = q := ⟨_, rfl⟩
    have hm : j ∈ kids ps q := by
      unfold kids
      rw [List.mem_filter, List.mem_range, decide_eq_true_eq]
      exact ⟨hj, h0, by omega⟩
    unfold plC
    rw [hq]
    rcases Nat.eq_zero_or_pos q with rfl | hq0
    · rw [plV_zero]; exact allF_has _ _ hs j hm
    · have hi := ih q (by omega) hq0 (by omega)
      obtain ⟨b1, b2, b3, b4, b5, b6⟩ := (plC_best h p0 p1 hq0 (by omega)).best hi
      rw [plV_succ h.t loads bores need pump hq0 (by omega), b3]
      rw [b3] at b5
      unfold withV at b2
      rw [if_neg b5] at b2
      by_cases ha : (allF (atL ps loads bores need) (vacB (pAt ps q) (ix bores (plC ps loads bores need pump q).index.toNat) (plV ps loads bores need pump (par ps q).toNat) (loads.getD q 0)) (kids ps q) 0).2 = true
      · exact allF_has _ _ ha j hm
      · rw [if_neg ha] at b2; omega
/-- What the choices of the first nodes cost. -/
def plS (ps : List Pipe) (loads : List Int) (bores : List Bor) (need pump : Int) (k : Nat) : Int := sg k (fun j => if 0 < j then (pAt ps j).length * (ix bores (plC ps loads bores need pump j).index.toNat).price else 0)
theorem plan_cost (hl : 0 < ps.length) (hall : ∀ j, 0 < j → j < ps.length → 0 ≤ (plC ps loads bores need pump j).index) : planF ps loads bores need pump = ((plTo ps loads bores need pump (ps.length - 1)).2, plS ps loads bores need pump ps.length, 0) := by
  have S := plan_sel h p0 p1 hall
  have ht := Sel.total h p0 p1 S hl
  have hz : sg ps.length (fun j => if 0 < j then more ps loads bores need (fun j => (plC ps loads bores need pump j).index.toNat) (plV ps loads bores need pump) j else 0) = sg ps.length (fun _ => 0) := sg_congr _ (fun j hj => by
    rcases Nat.eq_zero_or_pos j with rfl | h0
    · rfl
    · rw [if_pos h0]
      have := hall j h0 hj
      exact (Sel.more_pos h p0 p1 S h0 hj).2.2 (by show (plC ps loads bores need pump j).index = _; omega))
  rw [hz, sg_zero, Int.add_zero] at ht
  have hs : (allF (atL ps loads bores need) pump (kids ps 0) 0).2 = true := by rw [Sel.all h p0 p1 S]
  unfold planF
  rw [if_pos hs, ← ht]
  have hp : planL ps loads bores need pump = (plTo ps loads bores need pump (ps.length - 1)).2 := by
    unfold planL plTo
    rw [List.take_of_length_le (by rw [List.length_drop]; omega)]
  rw [hp]
  rfl
theorem plan_none {j : Nat} (h0 : 0 < j) (hj : j < ps.length) (hi : (plC ps loads bores need pump j).index < 0) : planF ps loads bores need pump = ([], 0, 7) := by
  unfold planF
  rw [if_neg]
  intro hs
  have := plan_has h p0 p1 hs j h0 hj
  omega
end
theorem plS_succ (ps : List Pipe) (loads : List Int) (bores : List Bor) (need pump : Int) {k : Nat} (h0 : 0 < k) : plS ps loads bores need pump (k + 1) = plS ps loads bores need pump k + (pAt ps k).length * (ix bores (plC ps loads bores need pump k).index.toNat).price := by
  unfold plS; rw [sg_succ, if_pos h0]
theorem plS_one (ps : List Pipe) (loads : List Int) (bores : List Bor) (need pump : Int) : plS ps loads bores need pump 1 = 0 := by
  unfold plS; rw [sg_succ]; simp [sg]
end Go.Proofs.Ytepibjfmeibgcaa
