/- What the planner chooses, without its table. No program is in sight here. -/
import Derived.Test.YtepibjfmeibgcaaWp
import Derived.Test.YtepibjfmeibgcaaLoad
import Derived.Test.YtepibjfmeibgcaaWl
namespace Go.Proofs.Ytepibjfmeibgcaa
/-- A choice: the number of the bore, or -1; the cost; the vacuum behind. -/
structure Cho where
  index : Int
  cost : Int
  vac : Int
  deriving DecidableEq, Inhabited
def noCho : Cho := ⟨-1, 0, 0⟩
/-- The nodes whose parent is a node, in order. -/
def kids (ps : List Pipe) (i : Nat) : List Nat := (List.range ps.length).filter fun j => decide (0 < j ∧ par ps j = i)
theorem kids_gt {ps : List Pipe} (ht : Tree ps) {i j : Nat} (h : j ∈ kids ps i) : i < j ∧ j < ps.length := by
  unfold kids at h
  rw [List.mem_filter, List.mem_range, decide_eq_true_eq] at h
  have := ht j h.1
  omega
/-- The sum of the costs of the children, if each has a choice. -/
def allF (rec : Nat → Int → Cho) (v : Int) : List Nat → Int → Int × Bool
  | [], cost => (cost, true)
  | k :: ks, cost => if (rec k v).index < 0 then (0, false) else allF rec v ks (cost + (rec k v).cost)
/-- One bore more. -/
def boreStep (ps : List Pipe) (loads : List Int) (need : Int) (rec : Nat → Int → Cho) (node : Nat) (vac : Int) (i : Nat) (b : Bor) (c : Cho) : Cho :=
  let p : Pipe := { pAt ps node with bore := b.size }
  let v := max 0 (vac - lossZ p (loads.getD node 0))
  if 0 < p.taps ∧ v < need then c else
    let r := allF rec v (kids ps node) 0
    let cost := r.1 + p.length * b.price
    if r.2 = true ∧ (c.index < 0 ∨ cost < c.cost) then ⟨i, cost, v⟩ else c
def boresF (ps : List Pipe) (loads : List Int) (need : Int) (rec : Nat → Int → Cho) (node : Nat) (vac : Int) : List Bor → Nat → Cho → Cho
  | [], _, c => c
  | b :: bs, i, c => boresF ps loads need rec node vac bs (i + 1) (boreStep ps loads need rec node vac i b c)
def atF (ps : List Pipe) (loads : List Int) (bores : List Bor) (need : Int) : Nat → Nat → Int → Cho
  | 0, _, _ => noCho
  | f + 1, node, vac => boresF ps loads need (atF ps loads bores need f) node vac bores 0 noCho
def atL (ps : List Pipe) (loads : List Int) (bores : List Bor) (need : Int) (node : Nat) (vac : Int) : Cho := atF ps loads bores need (ps.length - node) node vac
theorem allF_congr {r s : Nat → Int → Cho} {v : Int} {ks : List Nat} (h : ∀ k ∈ ks, r k v = s k v) : ∀ c, allF r v ks c = allF s v ks c := by
  induction ks with
  | nil => intro c; rfl
  | cons k ks ih =>
    intro c
    simp only [allF]
    rw [h k (by simp), ih (fun j hj => h j (by simp [hj]))]
theorem boresF_congr {ps : List Pipe} {loads : List Int} {need : Int} {r s : Nat → Int → Cho} {node : Nat} {vac : Int} (h : ∀ k ∈ kids ps node, ∀ v, r k v = s k v) (bs : List Bor) : ∀ i c, boresF ps loads need r node vac bs i c = boresF ps loads need s node vac bs i c := by
  induction bs with
  | nil => intro i c; rfl
  | cons b bs ih =>
    intro i c
    simp only [boresF]
    rw [show boreStep ps loads need r node vac i b c = boreStep ps loads need s node vac i b c by
      unfold boreStep
      simp only
      rw [allF_congr (fun k hk => h k hk _)]]
    exact ih _ _
theorem atF_fuel {ps : List Pipe} (ht : Tree ps) (loads : List Int) (bores : List Bor) (need : Int) : ∀ (f g node : Nat) (vac : Int), node < ps.length → ps.length - node ≤ f → ps.length - node ≤ g → atF ps loads bores need f node vac = atF ps loads bores need g node vac := by
  intro f
  induction f with
  | zero => intro g node vac h1 h2; omega
  | succ f ih =>
    intro g node vac h1 h2 h3
    cases g with
    | zero => omega
    | succ g =>
      simp only [atF]
      refine boresF_congr (fun k hk v => ?_) bores 0 noCho
      have := kids_gt ht hk
      exact ih g k v this.2 (by omega) (by omega)
/-- The choice at a node, by the choices at its children. -/
theorem atL_eq {ps : List Pipe} (ht : Tree ps) (loads : List Int) (bores : List Bor) (need : Int) (node : Nat) (vac : Int) (h : node < ps.length) :
    atL ps loads bores need node vac = boresF ps loads need (atL ps loads bores need) node vac bores 0 noCho := by
  unfold atL
  obtain ⟨m, hm⟩ : ∃ m, ps.length - node = m + 1 := ⟨ps.length - node - 1, by omega⟩
  rw [hm]
  simp only [atF]
  refine boresF_congr (fun k hk v => ?_) bores 0 noCho
  have := kids_gt ht hk
  exact atF_fuel ht loads bores need m (ps.length - k) k v this.2 (by omega) (by omega)
end Go.Proofs.Ytepibjfmeibgcaa
/- How great the sums over a tree are. No program is in sight here. -/
namespace Go.Proofs.Ytepibjfmeibgcaa
set_option linter.unusedVariables false
def sg (n : Nat) (a : Nat → Int) : Int := ((List.range n).map a).sum
theorem sg_succ (n : Nat) (a : Nat → Int) : sg (n + 1) a = sg n a + a n := by unfold sg; rw [List.range_succ, List.map_append, List.sum_append]; simp
theorem sg_pt {a b c d : Nat → Int} : ∀ (n : Nat), (∀ j, j < n → a j + b j = c j + d j) → sg n a + sg n b = sg n c + sg n d := by
  intro n
  induction n with
  | zero => intro _; rfl
  | succ n ih =>
    intro h
    rw [sg_succ, sg_succ, sg_succ, sg_succ]
    have := ih (fun j hj => h j (by omega))
    have := h n (by omega)
    omega
theorem sg_nonneg {a : Nat → Int} : ∀ (n : Nat), (∀ j, j < n → 0 ≤ a j) → 0 ≤ sg n a := by
  intro n
  induction n with
  | zero => intro _; exact Int.le_refl _
  | succ n ih =>
    intro h
    rw [sg_succ]
    have := ih (fun j hj => h j (by omega))
    have := h n (by omega)
    omega
theorem sg_le {a b : Nat → Int} : ∀ (n : Nat), (∀ j, j < n → a j ≤ b j) → sg n a ≤ sg n b := by
  intro n
  induction n with
  | zero => intro _; exact Int.le_refl _
  | succ n ih =>
    intro h
    rw [sg_succ, sg_succ]
    have := ih (fun j hj => h j (by omega))
    have := h n (by omega)
    omega
theorem sg_one (x : Nat → Int) (m : Nat) : ∀ n, sg n (fun j => if j = m then x j else 0) = if m < n then x m else 0 := by
  intro n
  induction n with
  | zero => simp [sg]
  | succ n ih =>
    rw [sg_succ, ih]
    by_cases h : n = m
    · subst h; simp
    · have e : (if n = m then x n else 0) = 0 := if_neg h
      by_cases h2 : m < n
      · have e2 : m < n + 1 := by omega
        simp [h, h2, e2]
      · have e2 : ¬ m < n + 1 := by omega
        simp [h, h2, e2]
theorem sg_filter (x : Nat → Int) (p : Nat → Bool) : ∀ n, (((List.range n).filter p).map x).sum = sg n (fun j => if p j = true then x j else 0) := by
  intro n
  induction n with
  | zero => rfl
  | succ n ih =>
    rw [sg_succ, List.range_succ, List.filter_append, List.map_append, List.sum_append, ih]
    cases h : p n <;> simp [h]
/-- The nodes from m on whose parent comes before m. -/
def front (ps : List Pipe) (x : Nat → Int) (m j : Nat) : Int := if m ≤ j ∧ par ps j < (m : Int) then x j else 0
theorem front_bd {ps : List Pipe} (ht : Tree ps) {x : Nat → Int} {M : Int} (h0 : ∀ j, j < ps.length → 0 ≤ x j) (hx : ∀ j, j < ps.length → x j ≤ M + ((kids ps j).map x).sum) :
    ∀ (d m : Nat), m + d = ps.length → sg ps.length (front ps x m) ≤ d * M := by
  intro d
  induction d with
  | zero =>
    intro m hm
    have : sg ps.length (front ps x m) ≤ sg ps.length (fun _ => 0) := sg_le _ (fun j hj => by unfold front; rw [if_neg (by omega)]; exact Int.le_refl _)
    have z : ∀ n, sg n (fun _ => (0 : Int)) = 0 := fun n => by induction n with
      | zero => rfl
      | succ n ih => rw [sg_succ, ih]; rfl
    rw [z] at this
    simpa using this
  | succ d ih =>
    intro m hm
    have h1 := ih (m + 1) (by omega)
    have hk := hx m (by omega)
    unfold kids at hk
    rw [sg_filter] at hk
    have hpt := sg_pt (a := front ps x m) (b := fun j => if decide (0 < j ∧ par ps j = m) = true then x j else 0) (c := front ps x (m + 1)) (d := fun j => if j = m then x j else 0) ps.length (fun j hj => by
      have := ht j hj
      unfold front
      simp only [decide_eq_true_eq]
      by_cases e1 : j = m
      · subst e1
        rw [if_pos (by omega), if_neg (by omega), if_neg (by omega), if_pos rfl]; omega
      · rw [if_neg e1]
        by_cases e2 : m < j
        · by_cases e3 : par ps j < (m : Int)
          · rw [if_pos (by omega), if_neg (by omega), if_pos (by omega)]
          · by_cases e4 : par ps j = (m : Int)
            · rw [if_neg (by omega), if_pos (by omega), if_pos (by omega)]; omega
            · rw [if_neg (by omega), if_neg (by omega), if_neg (by omega)]
        · rw [if_neg (by omega), if_neg (by omega), if_neg (by omega)])
    rw [sg_one, if_pos (by omega)] at hpt
    have e : ((d + 1 : Nat) : Int) * M = d * M + M := by rw [Int.natCast_add, Int.add_mul]; simp
    rw [e]
    omega

/-- A bound of what the choices for a node and all behind it cost, if no pipe costs more than M. -/
def wF (ps : List Pipe) (M : Int) : Nat → Nat → Int
  | 0, _ => 0
  | f + 1, node => M + ((kids ps node).map (wF ps M f)).sum
theorem wF_fuel {ps : List Pipe} (ht : Tree ps) (M : Int) : ∀ (f g node : Nat), node < ps.length → ps.length - node ≤ f → ps.length - node ≤ g → wF ps M f node = wF ps M g node := by
  intro f
  induction f with
  | zero => intro g node h1 h2; omega
  | succ f ih =>
    intro g node h1 h2 h3
    cases g with
    | zero => omega
    | succ g =>
      simp only [wF]
      rw [List.map_congr_left (fun k hk => ih g k (kids_gt ht hk).2 (by have := kids_gt ht hk; omega) (by have := kids_gt ht hk; omega))]
def wL (ps : List Pipe) (M : Int) (node : Nat) : Int := wF ps M (ps.length - node) node
theorem wL_eq {ps : List Pipe} (ht : Tree ps) (M : Int) {node : Nat} (h : node < ps.length) : wL ps M node = M + ((kids ps node).map (wL ps M)).sum := by
  unfold wL
  obtain ⟨m, hm⟩ : ∃ m, ps.length - node = m + 1 := ⟨ps.length - node - 1, by omega⟩
  rw [hm]
  simp only [wF]
  rw [List.map_congr_left (fun k hk => wF_fuel ht M m (ps.length - k) k (kids_gt ht hk).2 (by have := kids_gt ht hk; omega) (by have := kids_gt ht hk; omega))]
theorem wF_nonneg {ps : List Pipe} {M : Int} (h : 0 ≤ M) : ∀ f node, 0 ≤ wF ps M f node := by
  intro f
  induction f with
  | zero => intro node; exact Int.le_refl _
  | succ f ih =>
    intro node
    have := sum_nonneg (l := (kids ps node).map (wF ps M f)) (fun x hx => by obtain ⟨k, _, rfl⟩ := List.mem_map.1 hx; exact ih k)
    simp only [wF]
    omega
theorem sg_get {a : Nat → Int} (n j : Nat) (h : ∀ i, i < n → 0 ≤ a i) (hj : j < n) : a j ≤ sg n a := by
  have h1 := sg_one a j n
  rw [if_pos hj] at h1
  rw [← h1]
  exact sg_le n (fun i hi => by have := h i hi; split <;> omega)
theorem wL_bd {ps : List Pipe} (ht : Tree ps) {M : Int} (h : 0 ≤ M) {node : Nat} (hn : node < ps.length) : 0 ≤ wL ps M node ∧ wL ps M node ≤ ps.length * M ∧ ((kids ps node).map (wL ps M)).sum ≤ ps.length * M := by
  have h0 : ∀ j, 0 ≤ wL ps M j := fun j => wF_nonneg h _ _
  have hb := front_bd ht (x := wL ps M) (M := M) (fun j _ => h0 j) (fun j hj => by rw [wL_eq ht M hj]; exact Int.le_refl _) (ps.length - node) node (by omega)
  have hg := sg_get (a := front ps (wL ps M) node) ps.length node (fun i _ => by unfold front; split; exact h0 i; exact Int.le_refl _) hn
  have hf : front ps (wL ps M) node node = wL ps M node := by unfold front; rw [if_pos ⟨Nat.le_refl _, (ht node hn).2.1⟩]
  have hm : ((ps.length - node : Nat) : Int) * M ≤ ps.length * M := Int.mul_le_mul_of_nonneg_right (by omega) h
  have he := wL_eq ht M hn
  exact ⟨h0 _, by omega, by omega⟩
theorem allF_bd {rec : Nat → Int → Cho} {v : Int} {W : Nat → Int} : ∀ (ks : List Nat) (c : Int), (∀ k ∈ ks, 0 ≤ (rec k v).cost ∧ (rec k v).cost ≤ W k) → 0 ≤ c → 0 ≤ (allF rec v ks c).1 ∧ (allF rec v ks c).1 ≤ c + (ks.map W).sum := by
  intro ks
  induction ks with
  | nil => intro c _ hc; simp [allF, hc]
  | cons k ks ih =>
    intro c h hc
    have hk := h k (by simp)
    have := ih (c + (rec k v).cost) (fun j hj => h j (by simp [hj])) (by omega)
    have hw := sum_nonneg (l := ks.map W) (fun x hx => by
      obtain ⟨j, hj, rfl⟩ := List.mem_map.1 hx
      have := h j (by simp [hj]); omega)
    simp only [allF]
    split
    · simp only [List.map_cons, List.sum_cons]; omega
    · simp only [List.map_cons, List.sum_cons]; omega

/-- A choice that can come from a node. -/
def ChoOk (m : Nat) (W : Int) (c : Cho) : Prop := -1 ≤ c.index ∧ c.index < m ∧ 0 ≤ c.cost ∧ c.cost ≤ W ∧ 0 ≤ c.vac ∧ c.vac ≤ 10000
theorem boreStep_ok {ps : List Pipe} {loads : List Int} {need : Int} {rec : Nat → Int → Cho} {node : Nat} {vac : Int} {i m : Nat} {b : Bor} {c : Cho} {W : Nat → Int} (hv : 0 ≤ vac ∧ vac ≤ 10000) (hl : 0 ≤ loads.getD node 0 ∧ loads.getD node 0 ≤ 60000000000)
    (hp : PipeOk (pAt ps node)) (hb : boreB b = true) (hi : i < m) (hr : ∀ k ∈ kids ps node, ∀ v, 0 ≤ v → v ≤ 10000 → 0 ≤ (rec k v).cost ∧ (rec k v).cost ≤ W k) (hW : 0 ≤ ((kids ps node).map W).sum)
    (hc : ChoOk m (100000000 + ((kids ps node).map W).sum) c) : ChoOk m (100000000 + ((kids ps node).map W).sum) (boreStep ps loads need rec node vac i b c) := by
  unfold boreB at hb
  rw [Bool.and_eq_true] at hb
  have b1 := inB_true hb.1
  have b2 := inB_true hb.2
  obtain ⟨l0, l1, _, _, d0, d1⟩ := hp
  have hls := lossZ_bd (p := { pAt ps node with bore := b.size }) ⟨l0, l1, b1.1, b1.2, d0, d1⟩ hl.1 hl.2
  have hm := mul_bounds (show 0 ≤ (pAt ps node).length by omega) l1 b2.1 b2.2
  unfold boreStep
  simp only
  generalize lossZ { pAt ps node with bore := b.size } (loads.getD node 0) = ls at *
  have hx : 0 ≤ max 0 (vac - ls) ∧ max 0 (vac - ls) ≤ 10000 := by omega
  generalize max 0 (vac - ls) = v at *
  have ha := allF_bd (rec := rec) (v := v) (W := W) (kids ps node) 0 (fun k hk => hr k hk v hx.1 hx.2) (Int.le_refl _)
  generalize allF rec v (kids ps node) 0 = r at *
  generalize (pAt ps node).length * b.price = q at *
  split
  · exact hc
  · split
    · exact ⟨by simp only; omega, by simp only; omega, by simp only; omega, by simp only; omega, hx.1, hx.2⟩
    · exact hc
theorem boresF_ok {ps : List Pipe} {loads : List Int} {need : Int} {rec : Nat → Int → Cho} {node : Nat} {vac : Int} {m : Nat} {W : Nat → Int} (hv : 0 ≤ vac ∧ vac ≤ 10000) (hl : 0 ≤ loads.getD node 0 ∧ loads.getD node 0 ≤ 60000000000)
    (hp : PipeOk (pAt ps node)) (hr : ∀ k ∈ kids ps node, ∀ v, 0 ≤ v → v ≤ 10000 → 0 ≤ (rec k v).cost ∧ (rec k v).cost ≤ W k) (hW : 0 ≤ ((kids ps node).map W).sum) :
    ∀ (bs : List Bor) (i : Nat) (c : Cho), boresB bs = true → i + bs.length ≤ m → ChoOk m (100000000 + ((kids ps node).map W).sum) c → ChoOk m (100000000 + ((kids ps node).map W).sum) (boresF ps loads need rec node vac bs i c) := by
  intro bs
  induction bs with
  | nil => intro i c _ _ hc; exact hc
  | cons b bs ih =>
    intro i c hb hm hc
    unfold boresB at hb
    rw [List.all_cons, Bool.and_eq_true] at hb
    rw [List.length_cons] at hm
    simp only [boresF]
    exact ih (i + 1) _ hb.2 (by omega) (boreStep_ok hv hl hp hb.1 (by omega) hr hW hc)
theorem atF_ok {ps : List Pipe} (ht : Tree ps) {loads : List Int} {bores : List Bor} {need : Int} (hl : ∀ j, 0 ≤ loads.getD j 0 ∧ loads.getD j 0 ≤ 60000000000) (hp : ∀ j, 0 < j → j < ps.length → PipeOk (pAt ps j)) (hb : boresB bores = true) :
    ∀ (f node : Nat) (vac : Int), 0 < node → node < ps.length → 0 ≤ vac → vac ≤ 10000 → ChoOk bores.length (wF ps 100000000 f node) (atF ps loads bores need f node vac) := by
  intro f
  induction f with
  | zero => intro node vac _ _ _ _; simp only [atF, wF]; exact ⟨by decide, by simp only [noCho]; omega, by decide, by decide, by decide, by decide⟩
  | succ f ih =>
    intro node vac h0 hn v0 v1
    have hs := sum_nonneg (l := (kids ps node).map (wF ps 100000000 f)) (fun x hx => by obtain ⟨k, _, rfl⟩ := List.mem_map.1 hx; exact wF_nonneg (by omega) f k)
    simp only [atF, wF]
    refine boresF_ok ⟨v0, v1⟩ (hl node) (hp node h0 hn) (fun k hk v a b => ?_) hs bores 0 noCho hb (by omega) ⟨by decide, by simp only [noCho]; omega, by decide, by simp only [noCho]; omega, by decide, by decide⟩
    have hk' := kids_gt ht hk
    have := ih k v (by omega) hk'.2 a b
    exact ⟨this.2.2.1, this.2.2.2.1⟩
end Go.Proofs.Ytepibjfmeibgcaa
