/- The plain functions that the program's functions compute, and what is true of them. No program is in sight here. -/
namespace Go.Proofs.Ytepibjfmeibgcaa

/-- A row of n places, of which the first hold l, and the others d. -/
def row {α : Type} (n : Nat) (d : α) (l : List α) : List α := l ++ List.replicate (n - l.length) d
section
variable {α : Type} {n : Nat} {d x : α} {l : List α}
theorem row_len (h : l.length ≤ n) : (row n d l).length = n := by unfold row; simp; omega
theorem row_nil : row n d ([] : List α) = List.replicate n d := by simp [row]
theorem row_full (h : l.length = n) : row n d l = l := by subst h; simp [row]
theorem row_get {i : Nat} (h : i < l.length) : (row n d l)[i]? = l[i]? := by unfold row; rw [List.getElem?_append_left h]
theorem row_next (h : l.length < n) : (row n d l)[l.length]? = some d := by
  unfold row; rw [List.getElem?_append_right (Nat.le_refl _), Nat.sub_self]
  obtain ⟨m, hm⟩ : ∃ m, n - l.length = m + 1 := ⟨n - l.length - 1, by omega⟩
  rw [hm]; rfl
theorem row_set (h : l.length < n) : (row n d l).set l.length x = row n d (l ++ [x]) := by
  unfold row
  obtain ⟨m, hm⟩ : ∃ m, n - l.length = m + 1 := ⟨n - l.length - 1, by omega⟩
  have hm' : n - (l ++ [x]).length = m := by simp; omega
  rw [hm, hm', List.replicate_succ]
  simp
end
/-- A number lies between two others; all numbers of a list do. -/
def inB (lo hi n : Int) : Bool := decide (lo ≤ n ∧ n ≤ hi)
def inAll (lo hi : Int) (xs : List Int) : Bool := xs.all (inB lo hi)
theorem inAll_snoc (lo hi : Int) (xs : List Int) (k : Nat) (hk : k < xs.length) : inAll lo hi (xs.take (k + 1)) = (inAll lo hi (xs.take k) && inB lo hi xs[k]) := by
  unfold inAll; rw [List.take_succ_eq_append_getElem hk, List.all_append]; simp
theorem inAll_false (lo hi : Int) (xs : List Int) (k : Nat) (hk : k < xs.length) (h : inB lo hi xs[k] = false) : inAll lo hi xs = false := by
  unfold inAll; rw [List.all_eq_false]; exact ⟨xs[k], List.getElem_mem hk, by simp [h]⟩
theorem inAll_one (lo hi n : Int) : inAll lo hi [n] = inB lo hi n := by simp [inAll]
theorem inAll_two (lo hi n m : Int) : inAll lo hi [n, m] = (inB lo hi n && inB lo hi m) := by simp [inAll]
theorem inB_true {lo hi n : Int} (h : inB lo hi n = true) : lo ≤ n ∧ n ≤ hi := by simpa [inB] using h
theorem inB_false {lo hi n : Int} (h : inB lo hi n = false) : ¬ (lo ≤ n ∧ n ≤ hi) := by simpa [inB] using h
theorem inB_mk {lo hi n : Int} (h : lo ≤ n ∧ n ≤ hi) : inB lo hi n = true := by simpa [inB] using h

/-- A pipe, with a node. -/
structure Pipe where
  parent : Int
  length : Int
  bore : Int
  drop : Int
  taps : Int
deriving DecidableEq, Inhabited

/-- Whether a pipe is valid, if its parent is at most the one that is told. -/
def pipeB (p : Pipe) (par : Int) : Bool := inB 0 par p.parent && inB 1 100000 p.length && inB 4 80 p.bore && inB (-10000) 10000 p.drop && inB 0 1000 p.taps
theorem pipeB_eq (p : Pipe) (par : Int) {b1 b2 b3 b4 b5 : Bool} (h1 : inB 0 par p.parent = b1) (h2 : inB 1 100000 p.length = b2) (h3 : inB 4 80 p.bore = b3) (h4 : inB (-10000) 10000 p.drop = b4) (h5 : inB 0 1000 p.taps = b5) :
    pipeB p par = (b1 && b2 && b3 && b4 && b5) := by unfold pipeB; rw [h1, h2, h3, h4, h5]

/-- Tubing. -/
structure Net where
  pump : Int
  pipes : List Pipe
deriving DecidableEq, Inhabited

/-- The pump's pipe. -/
def pump0 : Pipe := ⟨-1, 0, 0, 0, 0⟩
/-- The pipes behind the pump are valid, the first one being that of node j + 1. -/
def pipesB : List Pipe → Nat → Bool
  | [], _ => true
  | p :: ps, j => pipeB p j && pipesB ps (j + 1)
theorem pipesB_append (ps qs : List Pipe) : ∀ j, pipesB (ps ++ qs) j = (pipesB ps j && pipesB qs (j + ps.length)) := by
  induction ps with
  | nil => intro j; simp [pipesB]
  | cons p ps ih => intro j; simp only [List.cons_append, pipesB, ih, List.length_cons, Bool.and_assoc]; congr 3; omega
theorem pipesB_snoc (ps : List Pipe) (k : Nat) (hk : k < ps.length) : pipesB (ps.take (k + 1)) 0 = (pipesB (ps.take k) 0 && pipeB ps[k] k) := by
  rw [List.take_succ_eq_append_getElem hk, pipesB_append]; simp [pipesB, List.length_take]; rw [Nat.min_eq_left (by omega)]
theorem pipesB_false (ps : List Pipe) (k : Nat) (hk : k < ps.length) (h : pipeB ps[k] k = false) : pipesB ps 0 = false := by
  have e : ps = ps.take (k + 1) ++ ps.drop (k + 1) := (List.take_append_drop _ _).symm
  rw [e, pipesB_append, pipesB_snoc ps k hk, h]; simp
/-- Whether tubing is valid. -/
def netB (n : Net) : Bool := inB 1 60 n.pipes.length && inB 0 10000 n.pump && decide (n.pipes.head? = some pump0) && pipesB (n.pipes.drop 1) 0

/-- The parent of a node. -/
def Net.par (n : Net) (i : Nat) : Int := (n.pipes.getD i default).parent

/-- The heights of the first k nodes behind the pump, on top of a list. -/
def hts : List Pipe → List Int → List Int
  | [], l => l
  | p :: ps, l => hts ps (l ++ [l.getD p.parent.toNat 0 + p.drop])
theorem hts_snoc (ps : List Pipe) (p : Pipe) : ∀ l, hts (ps ++ [p]) l = hts ps l ++ [(hts ps l).getD p.parent.toNat 0 + p.drop] := by
  induction ps with
  | nil => intro l; rfl
  | cons q ps ih => intro l; simp only [List.cons_append, hts]; exact ih _
theorem hts_length (ps : List Pipe) : ∀ l, (hts ps l).length = l.length + ps.length := by
  induction ps with
  | nil => intro l; rfl
  | cons q ps ih => intro l; simp only [hts, ih, List.length_append, List.length_cons, List.length_nil]; omega
/-- The heights of all nodes of valid tubing. -/
def heightsL (ps : List Pipe) : List Int := hts (ps.drop 1) [0]

/-- Every pipe behind the first one leads to a node before it, and drops no more than it may. -/
def Ord (ps : List Pipe) : Prop := ∀ (i : Nat) (p : Pipe), ps[i + 1]? = some p → 0 ≤ p.parent ∧ p.parent ≤ (i : Int) ∧ -10000 ≤ p.drop ∧ p.drop ≤ 10000

theorem take_snoc {α : Type} (l : List α) (k : Nat) (h : k < l.length) : l.take (k + 1) = l.take k ++ [l[k]] := by
  rw [List.take_succ_eq_append_getElem h]

theorem hts_bound (ps : List Pipe) (B : Int) (hB : 0 ≤ B) : ∀ (l : List Int) (m : Int), 0 ≤ m → (∀ x ∈ l, -m ≤ x ∧ x ≤ m) → (∀ p ∈ ps, -B ≤ p.drop ∧ p.drop ≤ B) → ∀ x ∈ hts ps l, -(m + B * ps.length) ≤ x ∧ x ≤ m + B * ps.length := by
  induction ps with
  | nil => intro l m _ hl _ x hx; simpa using hl x hx
  | cons q ps ih =>
    intro l m hm hl hp x hx
    simp only [hts] at hx
    have hq := hp q (by simp)
    have h0 : -m ≤ l.getD q.parent.toNat 0 ∧ l.getD q.parent.toNat 0 ≤ m := by
      rw [List.getD_eq_getElem?_getD]
      cases hg : l[q.parent.toNat]? with
      | none => simp; omega
      | some y => exact hl y (List.mem_of_getElem? hg)
    have := ih (l ++ [l.getD q.parent.toNat 0 + q.drop]) (m + B) (by omega) (by
      intro y hy
      rw [List.mem_append] at hy
      rcases hy with hy | hy
      · have := hl y hy; omega
      · simp only [List.mem_singleton] at hy; omega) (fun p hp' => hp p (by simp [hp'])) x hx
    have e : m + B * ((q :: ps).length : Int) = m + B + B * (ps.length : Int) := by
      rw [List.length_cons, Int.natCast_add, Int.mul_add]; simp only [Int.natCast_one, Int.mul_one]; omega
    rw [e]; exact this


/-- The parent of a node; -1 for the pump. -/
def par (ps : List Pipe) (i : Int) : Int := (ps.getD i.toNat default).parent
/-- Every parent comes before its node; the pump has none. -/
def Tree (ps : List Pipe) : Prop := ∀ i : Nat, i < ps.length → -1 ≤ par ps i ∧ par ps i < i ∧ (par ps i = -1 ↔ i = 0)
def wayF (ps : List Pipe) : Nat → Int → List Int
  | 0, _ => []
  | f + 1, i => if i < 0 then [] else i :: wayF ps f (par ps i)
/-- The way from a node to the pump. -/
def wayL (ps : List Pipe) (i : Int) : List Int := wayF ps (i.toNat + 1) i
theorem wayF_more {ps : List Pipe} (h : Tree ps) : ∀ (f g : Nat) (i : Int), i < ps.length → i.toNat + 1 ≤ f → f ≤ g → wayF ps f i = wayF ps g i := by
  intro f
  induction f with
  | zero => intro g i _ h1 _; omega
  | succ f ih =>
    intro g i hi hf hg
    obtain ⟨g, rfl⟩ : ∃ g', g = g' + 1 := ⟨g - 1, by omega⟩
    unfold wayF
    by_cases h0 : i < 0
    · rw [if_pos h0, if_pos h0]
    · rw [if_neg h0, if_neg h0]
      have ht := h i.toNat (by omega)
      have e : ((i.toNat : Nat) : Int) = i := by omega
      rw [e] at ht
      by_cases hp : par ps i < 0
      · have : ∀ k, wayF ps k (par ps i) = [] := by
          intro k; cases k with
          | zero => rfl
          | succ k => unfold wayF; rw [if_pos hp]
        rw [this, this]
      · rw [ih g _ (by omega) (by omega) (by omega)]
theorem wayL_neg (ps : List Pipe) {i : Int} (h : i < 0) : wayL ps i = [] := by
  unfold wayL wayF; rw [if_pos h]
theorem wayL_step {ps : List Pipe} (h : Tree ps) {i : Int} (h0 : 0 ≤ i) (hi : i < ps.length) : wayL ps i = i :: wayL ps (par ps i) := by
  have ht := h i.toNat (by omega)
  have e : ((i.toNat : Nat) : Int) = i := by omega
  rw [e] at ht
  have e2 : wayL ps i = i :: wayF ps i.toNat (par ps i) := by unfold wayL; rw [wayF, if_neg (by omega)]
  rw [e2]
  by_cases hp : par ps i < 0
  · rw [wayL_neg ps hp]
    cases hk : i.toNat with
    | zero => rfl
    | succ k => unfold wayF; rw [if_pos hp]
  · rw [← wayF_more h ((par ps i).toNat + 1) i.toNat (par ps i) (by omega) (by omega) (by omega)]; rfl
theorem wayF_len (ps : List Pipe) : ∀ (f : Nat) (i : Int), (wayF ps f i).length ≤ f := by
  intro f
  induction f with
  | zero => intro i; simp [wayF]
  | succ f ih => intro i; unfold wayF; split; simp; have := ih (par ps i); simp; omega
theorem wayL_len (ps : List Pipe) (i : Int) : (wayL ps i).length ≤ i.toNat + 1 := wayF_len ps _ i

/-- Whether each of the first nodes is behind a node. -/
def behStep (node : Int) (i : Nat) (p : Pipe) (bs : List Bool) : Bool := decide ((i : Int) = node) || (decide (node < (i : Int)) && bs.getD (max p.parent 0).toNat false)
def behF (node : Int) : List Pipe → List Bool → List Bool
  | [], bs => bs
  | p :: ps, bs => behF node ps (bs ++ [behStep node bs.length p bs])
theorem behF_snoc (node : Int) (ps : List Pipe) (p : Pipe) : ∀ bs, behF node (ps ++ [p]) bs = behF node ps bs ++ [behStep node (behF node ps bs).length p (behF node ps bs)] := by
  induction ps with
  | nil => intro bs; rfl
  | cons q ps ih => intro bs; simp only [List.cons_append, behF]; exact ih _
theorem behF_len (node : Int) (ps : List Pipe) : ∀ bs, (behF node ps bs).length = bs.length + ps.length := by
  induction ps with
  | nil => intro bs; rfl
  | cons q ps ih => intro bs; simp only [behF, ih, List.length_append, List.length_cons, List.length_nil]; omega
def behL (ps : List Pipe) (node : Int) : List Bool := behF node ps []
/-- The nodes for which a list says true. -/
def trues : List Bool → Nat → List Int
  | [], _ => []
  | b :: bs, i => if b then (i : Int) :: trues bs (i + 1) else trues bs (i + 1)
theorem trues_snoc (bs : List Bool) (b : Bool) : ∀ i, trues (bs ++ [b]) i = trues bs i ++ if b then [((i + bs.length : Nat) : Int)] else [] := by
  induction bs with
  | nil => intro i; cases b <;> simp [trues]
  | cons c bs ih =>
    intro i
    have e : i + 1 + bs.length = i + (c :: bs).length := by simp; omega
    cases c <;> simp only [List.cons_append, trues, ih, e] <;> simp
theorem trues_len (bs : List Bool) : ∀ i, (trues bs i).length ≤ bs.length := by
  induction bs with
  | nil => intro i; simp [trues]
  | cons c bs ih => intro i; have := ih (i + 1); cases c <;> simp [trues] <;> omega

/-- The greatest climbs, and the highest heights, of all nodes on the ways of the first nodes. -/
def clF (hs : List Int) : List Pipe → List Int → List Int → List Int × List Int
  | [], cl, hi => (cl, hi)
  | p :: ps, cl, hi => clF hs ps (cl ++ [max (cl.getD p.parent.toNat 0) (hi.getD p.parent.toNat 0 - hs.getD cl.length 0)]) (hi ++ [max (hi.getD p.parent.toNat 0) (hs.getD cl.length 0)])
theorem clF_snoc (hs : List Int) (ps : List Pipe) (p : Pipe) : ∀ cl hi, clF hs (ps ++ [p]) cl hi =
    ((clF hs ps cl hi).1 ++ [max ((clF hs ps cl hi).1.getD p.parent.toNat 0) ((clF hs ps cl hi).2.getD p.parent.toNat 0 - hs.getD (clF hs ps cl hi).1.length 0)],
     (clF hs ps cl hi).2 ++ [max ((clF hs ps cl hi).2.getD p.parent.toNat 0) (hs.getD (clF hs ps cl hi).1.length 0)]) := by
  induction ps with
  | nil => intro cl hi; rfl
  | cons q ps ih => intro cl hi; simp only [List.cons_append, clF]; exact ih _ _
theorem clF_len (hs : List Int) (ps : List Pipe) : ∀ cl hi, (clF hs ps cl hi).1.length = cl.length + ps.length ∧ (clF hs ps cl hi).2.length = hi.length + ps.length := by
  induction ps with
  | nil => intro cl hi; exact ⟨rfl, rfl⟩
  | cons q ps ih => intro cl hi; simp only [clF, ih, List.length_append, List.length_cons, List.length_nil]; omega
theorem getD_bound {l : List Int} {B : Int} (hB : 0 ≤ B) (h : ∀ x ∈ l, -B ≤ x ∧ x ≤ B) (i : Nat) : -B ≤ l.getD i 0 ∧ l.getD i 0 ≤ B := by
  rw [List.getD_eq_getElem?_getD]
  cases hg : l[i]? with
  | none => simp; omega
  | some y => exact h y (List.mem_of_getElem? hg)
theorem clF_bound (hs : List Int) (B : Int) (hB : 0 ≤ B) (hh : ∀ x ∈ hs, -B ≤ x ∧ x ≤ B) (ps : List Pipe) : ∀ cl hi, (∀ x ∈ cl, 0 ≤ x ∧ x ≤ 2 * B) → (∀ x ∈ hi, -B ≤ x ∧ x ≤ B) →
    (∀ x ∈ (clF hs ps cl hi).1, 0 ≤ x ∧ x ≤ 2 * B) ∧ (∀ x ∈ (clF hs ps cl hi).2, -B ≤ x ∧ x ≤ B) := by
  induction ps with
  | nil => intro cl hi h1 h2; exact ⟨h1, h2⟩
  | cons q ps ih =>
    intro cl hi h1 h2
    simp only [clF]
    have hb := getD_bound hB h2 q.parent.toNat
    have hc := getD_bound hB hh cl.length
    have hd : 0 ≤ cl.getD q.parent.toNat 0 ∧ cl.getD q.parent.toNat 0 ≤ 2 * B := by
      rw [List.getD_eq_getElem?_getD]
      cases hg : cl[q.parent.toNat]? with
      | none => simp; omega
      | some y => exact h1 y (List.mem_of_getElem? hg)
    apply ih
    · intro x hx; rw [List.mem_append] at hx
      rcases hx with hx | hx
      · exact h1 x hx
      · simp only [List.mem_singleton] at hx; omega
    · intro x hx; rw [List.mem_append] at hx
      rcases hx with hx | hx
      · exact h2 x hx
      · simp only [List.mem_singleton] at hx; omega
/-- The greatest climb of all nodes. -/
def climbsL (ps : List Pipe) : List Int := (clF (heightsL ps) (ps.drop 1) [0] [(heightsL ps).getD 0 0]).1

/-- How far it is from a node to another one: the greater one goes up. -/
def betF (ps : List Pipe) : Nat → Int → Int → Int
  | 0, _, _ => 0
  | f + 1, a, b => if a = b then 0 else (ps.getD (max a b).toNat default).length + betF ps f (par ps (max a b)) (min a b)
def betL (ps : List Pipe) (a b : Int) : Int := betF ps (a + b + 1).toNat a b
theorem betL_same (ps : List Pipe) (a : Int) : betL ps a a = 0 := by
  unfold betL
  cases h : (a + a + 1).toNat with
  | zero => rfl
  | succ n => unfold betF; rw [if_pos rfl]
theorem betF_more {ps : List Pipe} (h : Tree ps) : ∀ (f g : Nat) (a b : Int), 0 ≤ a → 0 ≤ b → a < ps.length → b < ps.length → a + b + 1 ≤ f → f ≤ g → betF ps f a b = betF ps g a b := by
  intro f
  induction f with
  | zero => intro g a b h1 h2 _ _ h3 _; omega
  | succ f ih =>
    intro g a b h1 h2 ha hb hf hg
    obtain ⟨g, rfl⟩ : ∃ g', g = g' + 1 := ⟨g - 1, by omega⟩
    unfold betF
    by_cases he : a = b
    · rw [if_pos he, if_pos he]
    · rw [if_neg he, if_neg he]
      have ht := h (max a b).toNat (by omega)
      have e : (((max a b).toNat : Nat) : Int) = max a b := by omega
      rw [e] at ht
      have hp : par ps (max a b) ≠ -1 := fun h => by have := ht.2.2.1 h; omega
      rw [ih g _ _ (by omega) (by omega) (by omega) (by omega) (by omega) (by omega)]
theorem betL_step {ps : List Pipe} (h : Tree ps) {a b : Int} (h1 : 0 ≤ a) (h2 : 0 ≤ b) (ha : a < ps.length) (hb : b < ps.length) (hne : a ≠ b) :
    betL ps a b = (ps.getD (max a b).toNat default).length + betL ps (par ps (max a b)) (min a b) ∧ 0 ≤ par ps (max a b) ∧ par ps (max a b) < max a b := by
  have ht := h (max a b).toNat (by omega)
  have e : (((max a b).toNat : Nat) : Int) = max a b := by omega
  rw [e] at ht
  have hp : par ps (max a b) ≠ -1 := fun h => by have := ht.2.2.1 h; omega
  refine ⟨?_, by omega, by omega⟩
  have e2 : betL ps a b = betF ps ((a + b).toNat + 1) a b := by unfold betL; congr 1; omega
  rw [e2, betF, if_neg hne]
  congr 1
  unfold betL
  exact (betF_more h _ _ _ _ (by omega) (by omega) (by omega) (by omega) (by omega) (by omega)).symm

/-- A range. -/
structure Rng where
  low : Int
  high : Int
deriving DecidableEq, Inhabited
/-- Whether flows are valid. -/
def flowB (r : Rng) : Bool := inB 0 1000000000 r.low && inB 0 1000000000 r.high && decide (r.low ≤ r.high)
def flowsB (l : List Rng) : Bool := l.all flowB
theorem flowsB_snoc (xs : List Rng) (k : Nat) (hk : k < xs.length) : flowsB (xs.take (k + 1)) = (flowsB (xs.take k) && flowB xs[k]) := by
  unfold flowsB; rw [List.take_succ_eq_append_getElem hk, List.all_append]; simp
theorem flowsB_false (xs : List Rng) (k : Nat) (hk : k < xs.length) (h : flowB xs[k] = false) : flowsB xs = false := by
  unfold flowsB; rw [List.all_eq_false]; exact ⟨xs[k], List.getElem_mem hk, by simp [h]⟩
/-- Whether a list has a number. -/
def memB (xs : List Int) (x : Int) : Bool := xs.contains x
theorem memB_iff (xs : List Int) (x : Int) : memB xs x = true ↔ x ∈ xs := by unfold memB; simp
theorem memB_at {xs : List Int} {k : Nat} (hk : k < xs.length) : memB xs xs[k] = true := (memB_iff _ _).2 (List.getElem_mem hk)
theorem memB_snoc {xs : List Int} {x : Int} {k : Nat} (hk : k < xs.length) (h : memB (xs.take k) x = false) (hx : x ≠ xs[k]) : memB (xs.take (k + 1)) x = false := by
  cases hm : memB (xs.take (k + 1)) x with
  | false => rfl
  | true =>
    rw [memB_iff, List.take_succ_eq_append_getElem hk, List.mem_append] at hm
    rcases hm with hm | hm
    · rw [(memB_iff _ _).2 hm] at h; cases h
    · simp at hm; exact absurd hm hx
/-- The error of frozen pipes, if some have been seen. -/
def frzF (m : Int) : List Int → List Int → Int
  | [], _ => 0
  | x :: xs, seen => if inB 1 (m - 1) x then (if memB seen x then 6 else frzF m xs (seen ++ [x])) else 7
theorem frzF_step (m : Int) (xs : List Int) (k : Nat) (hk : k < xs.length) (h1 : inB 1 (m - 1) xs[k] = true) (h2 : memB (xs.take k) xs[k] = false) :
    frzF m (xs.drop k) (xs.take k) = frzF m (xs.drop (k + 1)) (xs.take (k + 1)) := by
  rw [List.drop_eq_getElem_cons hk, frzF, if_pos h1, h2, List.take_succ_eq_append_getElem hk]; rfl
theorem frzF_none (m : Int) (xs : List Int) (k : Nat) (hk : k < xs.length) (h1 : inB 1 (m - 1) xs[k] = false) : frzF m (xs.drop k) (xs.take k) = 7 := by
  rw [List.drop_eq_getElem_cons hk, frzF, h1]; rfl
theorem frzF_twice (m : Int) (xs : List Int) (k : Nat) (hk : k < xs.length) (h1 : inB 1 (m - 1) xs[k] = true) (h2 : memB (xs.take k) xs[k] = true) : frzF m (xs.drop k) (xs.take k) = 6 := by
  rw [List.drop_eq_getElem_cons hk, frzF, if_pos h1, h2]; rfl
/-- The error of flows and frozen pipes, for so many nodes. -/
def chkF (m : Nat) (flows : List Rng) (frozen : List Int) : Int :=
  if flows.length = m then (if flowsB flows then frzF m frozen [] else 2) else 4
theorem chkF_len {m : Nat} {flows : List Rng} {frozen : List Int} (h : flows.length ≠ m) : chkF m flows frozen = 4 := if_neg h
theorem chkF_bad {m : Nat} {flows : List Rng} {frozen : List Int} (h : flows.length = m) (h2 : flowsB flows = false) : chkF m flows frozen = 2 := by unfold chkF; rw [if_pos h, h2]; rfl
theorem chkF_frz {m : Nat} {flows : List Rng} {frozen : List Int} (h : flows.length = m) (h2 : flowsB flows = true) : chkF m flows frozen = frzF m frozen [] := by unfold chkF; rw [if_pos h, h2]; rfl

/-- The loss of a pipe. -/
def lossN (p : Pipe) (flow : Int) : Int := (p.length * flow + 10000 * p.bore * p.bore - 1) / (10000 * p.bore * p.bore)
def lossZ (p : Pipe) (flow : Int) : Int := lossN p flow + max 0 (-10 * p.drop)
def lossZ' (p : Pipe) (flow : Int) : Int := (p.length * flow + 10000 * p.bore * p.bore - 1) / (10000 * p.bore * p.bore) + max 0 (-10 * p.drop)
end Go.Proofs.Ytepibjfmeibgcaa
