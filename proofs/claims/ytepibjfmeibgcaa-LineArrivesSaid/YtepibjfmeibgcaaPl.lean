/- What the planner chooses, without its table. No program is in sight here. -/
import Derived.Test.YtepibjfmeibgcaaWp
import Derived.Test.YtepibjfmeibgcaaLoad
import Derived.Test.YtepibjfmeibgcaaWl
namespace Go.Proofs.Ytepibjfmeibgcaa
/-- A choice: the number of the bore, or -1; the cost; the vacuum behind. -/
structure Cho where
  index : Int
  cost : Int
  vac : Int
  deriving DecidableEq, Inhabited
def noCho : Cho := ⟨-1, 0, 0⟩
/-- The nodes whose parent is a node, in order. -/
def kids (ps : List Pipe) (i : Nat) : List Nat := (List.range ps.length).filter fun j => decide (0 < j ∧ par ps j = i)
theorem kids_gt {ps : List Pipe} (ht : Tree ps) {i j : Nat} (h : j ∈ kids ps i) : i < j ∧ j < ps.length := by
  unfold kids at h
  rw [List.mem_filter, List.mem_range, decide_eq_true_eq] at h
  have := ht j h.1
  omega
/-- The sum of the costs of the children, if each has a choice. -/
def allF (rec : Nat → Int → Cho) (v : Int) : List Nat → Int → Int × Bool
  | [], cost => (cost, true)
  | k :: ks, cost => if (rec k v).index < 0 then (0, false) else allF rec v ks (cost + (rec k v).cost)
/-- One bore more. -/
def boreStep (ps : List Pipe) (loads : List Int) (need : Int) (rec : Nat → Int → Cho) (node : Nat) (vac : Int) (i : Nat) (b : Bor) (c : Cho) : Cho :=
  let p : Pipe := { pAt ps node with bore := b.size }
  let v := max 0 (vac - lossZ p (loads.getD node 0))
  if 0 < p.taps ∧ v < need then c else
    let r := allF rec v (kids ps node) 0
    let cost := r.1 + p.length * b.price
    if r.2 = true ∧ (c.index < 0 ∨ cost < c.cost) then ⟨i, cost, v⟩ else c
def boresF (ps : List Pipe) (loads : List Int) (need : Int) (rec : Nat → Int → Cho) (node : Nat) (vac : Int) : List Bor → Nat → Cho → Cho
  | [], _, c => c
  | b :: bs, i, c => boresF ps loads need rec node vac bs (i + 1) (boreStep ps loads need rec node vac i b c)
def atF (ps : List Pipe) (loads : List Int) (bores : List Bor) (need : Int) : Nat → Nat → Int → Cho
  | 0, _, _ => noCho
  | f + 1, node, vac => boresF ps loads need (atF ps loads bores need f) node vac bores 0 noCho
def atL (ps : List Pipe) (loads : List Int) (bores : List Bor) (need : Int) (node : Nat) (vac : Int) : Cho := atF ps loads bores need (ps.length - node) node vac
theorem allF_congr {r s : Nat → Int → Cho} {v : Int} {ks : List Nat} (h : ∀ k ∈ ks, r k v = s k v) : ∀ c, allF r v ks c = allF s v ks c := by
  induction ks with
  | nil => intro c; rfl
  | cons k ks ih =>
    intro c
    simp only [allF]
    rw [h k (by simp), ih (fun j hj => h j (by simp [hj]))]
theorem boresF_congr {ps : List Pipe} {loads : List Int} {need : Int} {r s : Nat → Int → Cho} {node : Nat} {vac : Int} (h : ∀ k ∈ kids ps node, ∀ v, r k v = s k v) (bs : List Bor) : ∀ i c, boresF ps loads need r node vac bs i c = boresF ps loads need s node vac bs i c := by
  induction bs with
  | nil => intro i c; rfl
  | cons b bs ih =>
    intro i c
    simp only [boresF]
    rw [show boreStep ps loads need r node vac i b c = boreStep ps loads need s node vac i b c by
      unfold boreStep
      simp only
      rw [allF_congr (fun k hk => h k hk _)]]
    exact ih _ _
theorem atF_fuel {ps : List Pipe} (ht : Tree ps) (loads : List Int) (bores : List Bor) (need : Int) : ∀ (f g node : Nat) (vac : Int), node < ps.length → ps.length - node ≤ f → ps.length - node ≤ g → atF ps loads bores need f node vac = atF ps loads bores need g node vac := by
  intro f
  induction f with
  | zero => intro g node vac h1 h2; omega
  | succ f ih =>
    intro g node vac h1 h2 h3
    cases g with
    | zero => omega
    | succ g =>
      simp only [atF]
      refine boresF_congr (fun k hk v => ?_) bores 0 noCho
      have := kids_gt ht hk
      exact ih g k v this.2 (by omega) (by omega)
/-- The choice at a node, by the choices at its children. -/
theorem atL_eq {ps : List Pipe} (ht : Tree ps) (loads : List Int) (bores : List Bor) (need : Int) (node : Nat) (vac : Int) (h : node < ps.length) :
    atL ps loads bores need node vac = boresF ps loads need (atL ps loads bores need) node vac bores 0 noCho := by
  unfold atL
  obtain ⟨m, hm⟩ : ∃ m, ps.length - node = m + 1 := ⟨ps.length - node - 1, by omega⟩
  rw [hm]
  simp only [atF]
  refine boresF_congr (fun k hk v => ?_) bores 0 noCho
  have := kids_gt ht hk
  exact atF_fuel ht loads bores need m (ps.length - k) k v this.2 (by omega) (by omega)
end Go.Proofs.Ytepibjfmeibgcaa
