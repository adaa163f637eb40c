/- Words and small lemmas for memory that the other files of this claim use: a slice that reads as a list of values of one shape, a block that is known whole, run equations of slicing and making, and what stays behind calls. No program is in sight here. -/
import Derived.WalkKit
import Derived.Deep.QuietTactic
import Derived.Deep.AppendLies
import Derived.BigQuiet
import Derived.Lib.Hide
import Derived.Laws.OwnMore
import Derived.Laws.MakeOwn
namespace Go.Proofs.Ytepibjfmeibgcaa
open Go.RowKit

/-- An int of Go. -/
abbrev I (n : Int) : Value := .int .i64 n

/-- The slice with address A reads as the list xs of values, each of which takes the cells enc x; its block lies from lo on and below hi. -/
def Rd {α : Type} (enc : α → List Value) (size : Nat) (w : World) (lo hi : Nat) (A : Option Addr) (xs : List α) : Prop :=
  0 < xs.length → ∃ b off, A = some ⟨b, off, none⟩ ∧ lo ≤ b ∧ b < hi ∧ ∀ i x, xs[i]? = some x → ∀ j u, (enc x)[j]? = some u → w.cell? ⟨b, off + i * size + j, none⟩ = some u

def encI (n : Int) : List Value := [I n]
abbrev RdI (w : World) (lo hi : Nat) (A : Option Addr) (xs : List Int) : Prop := Rd encI 1 w lo hi A xs

section
variable {α : Type} {enc : α → List Value} {size : Nat} {w w' : World} {lo hi lo' hi' : Nat} {A : Option Addr} {xs : List α}
theorem Rd.nil : Rd enc size w lo hi A [] := fun h => absurd h (by simp)
theorem Rd.keep (h : Rd enc size w lo hi A xs) (hk : ∀ b o, lo ≤ b → b < hi → w'.cell? ⟨b, o, none⟩ = w.cell? ⟨b, o, none⟩) : Rd enc size w' lo hi A xs := fun hn => by
  obtain ⟨b, off, e, h1, h2, hc⟩ := h hn
  exact ⟨b, off, e, h1, h2, fun i x hx j u hu => (hk _ _ h1 h2).trans (hc i x hx j u hu)⟩
theorem Rd.mono (h : Rd enc size w lo hi A xs) (h1 : lo' ≤ lo) (h2 : hi ≤ hi') : Rd enc size w lo' hi' A xs := fun hn => by
  obtain ⟨b, off, e, h3, h4, hc⟩ := h hn
  exact ⟨b, off, e, Nat.le_trans h1 h3, Nat.lt_of_lt_of_le h4 h2, hc⟩
theorem Rd.below {B : Nat} (h : Rd enc size w lo hi A xs) (hb : Below B w w') (hB : hi ≤ B) : Rd enc size w' lo hi A xs :=
  h.keep fun _ _ _ h2 => hb.cell (Nat.lt_of_lt_of_le h2 hB)
theorem Rd.drew (h : Rd enc size w lo hi A xs) : Rd enc size w.drew lo hi A xs := h
theorem Rd.drewN (h : Rd enc size w lo hi A xs) (n : Nat) : Rd enc size (w.drewN n) lo hi A xs := h
theorem Rd.alloc (h : Rd enc size w lo hi A xs) (hB : hi ≤ w.heap.size) (o : Obj) : Rd enc size (w.alloc o) lo hi A xs :=
  h.keep fun b o' _ h2 => World.cell?_alloc_lt w o ⟨b, o', none⟩ (by simp only; omega)
theorem Rd.setCell (h : Rd enc size w lo hi A xs) {p : Addr} (hB : hi ≤ p.block) (u : Value) : Rd enc size (w.setCell p u) lo hi A xs :=
  h.keep fun b o _ h2 => World.cell?_setCell_other w p ⟨b, o, none⟩ u (fun e => by subst e; simp only at hB; omega)
theorem Rd.setCell' (h : Rd enc size w lo hi A xs) {p : Addr} (hB : p.block < lo) (u : Value) : Rd enc size (w.setCell p u) lo hi A xs :=
  h.keep fun b o h1 _ => World.cell?_setCell_other w p ⟨b, o, none⟩ u (fun e => by subst e; simp only at hB; omega)
/-- The value at an index, with all that its cells hold. -/
theorem Rd.at_ {k : Nat} (h : Rd enc size w lo hi A xs) (hk : k < xs.length) : ∃ b off, A = some ⟨b, off, none⟩ ∧ lo ≤ b ∧ b < hi ∧ ∀ j u, (enc xs[k])[j]? = some u → w.cell? ⟨b, off + k * size + j, none⟩ = some u := by
  obtain ⟨b, off, e, h1, h2, hc⟩ := h (by omega)
  exact ⟨b, off, e, h1, h2, hc k _ (List.getElem?_eq_getElem hk)⟩
/-- The tail of a slice. -/
theorem Rd.tail {k : Nat} (h : Rd enc size w lo hi A xs) : Rd enc size w lo hi (A.map (·.add (k * size))) (xs.drop k) := fun hn => by
  rw [List.length_drop] at hn
  obtain ⟨b, off, e, h1, h2, hc⟩ := h (by omega)
  refine ⟨b, off + k * size, ?_, h1, h2, fun i x hx j u hu => ?_⟩
  · rw [e]; simp only [Option.map_some, Addr.add]; split
    · rename_i h0; simp [h0]
    · rfl
  · rw [List.getElem?_drop] at hx
    have := hc _ _ hx j u hu
    rw [← this]; congr 2; rw [Nat.add_mul]; omega
end

theorem RdI.at_ {w : World} {lo hi : Nat} {A : Option Addr} {xs : List Int} {k : Nat} (h : RdI w lo hi A xs) (hk : k < xs.length) : ∃ b off, A = some ⟨b, off, none⟩ ∧ lo ≤ b ∧ b < hi ∧ w.cell? ⟨b, off + k, none⟩ = some (.int .i64 xs[k]) := by
  obtain ⟨b, off, e, h1, h2, hc⟩ := Rd.at_ h hk
  have := hc 0 (.int .i64 xs[k]) rfl
  simp only [Nat.mul_one, Nat.add_zero] at this
  exact ⟨b, off, e, h1, h2, this⟩

/-- Block g is just the cells cs of element type t, none frozen. -/
def Blk (w : World) (g : Nat) (t : TypeId) (cs : Array Value) : Prop := w.heap[g]? = some (.cells cs t (0, 0))

section
variable {w w' : World} {g : Nat} {t : TypeId} {cs : Array Value}
theorem Blk.lt (h : Blk w g t cs) : g < w.heap.size := by
  rcases Nat.lt_or_ge g w.heap.size with hlt | hge
  · exact hlt
  · unfold Blk at h; rw [Array.getElem?_eq_none hge] at h; cases h
theorem Blk.cell (h : Blk w g t cs) (i : Nat) : w.cell? ⟨g, i, none⟩ = cs[i]? := cell_of_row w g i cs t (0, 0) h
theorem Blk.frozen (h : Blk w g t cs) (i : Nat) : w.frozen? ⟨g, i, none⟩ = false := by
  unfold Blk at h
  simp [World.frozen?, h]
theorem Blk.new (w : World) (t : TypeId) (cs : Array Value) : Blk (w.alloc (.cells cs t)) w.heap.size t cs := heap_alloc_new w _
theorem Blk.drew (h : Blk w g t cs) : Blk w.drew g t cs := h
theorem Blk.drewN (h : Blk w g t cs) (n : Nat) : Blk (w.drewN n) g t cs := h
theorem Blk.alloc (h : Blk w g t cs) (o : Obj) : Blk (w.alloc o) g t cs := (Below.heap_alloc w o g h.lt).trans h
theorem Blk.set_ (h : Blk w g t cs) (i : Nat) (u : Value) : Blk (w.setCell ⟨g, i, none⟩ u) g t (cs.setIfInBounds i u) := by
  unfold Blk at h ⊢
  simp [World.setCell, Array.getElem?_modify, h]
theorem Blk.far (h : Blk w g t cs) {p : Addr} (hp : g ≠ p.block) (u : Value) : Blk (w.setCell p u) g t cs := (Below.heap_setCell w p u g hp).trans h
theorem Blk.below {B : Nat} (h : Blk w g t cs) (hb : Below B w w') (hg : g < B) : Blk w' g t cs := (hb.block g hg).trans h
/-- A block of ints is a slice that reads as the list of them. -/
theorem Blk.rdI {xs : List Int} (h : Blk w g t (xs.map I).toArray) {lo hi : Nat} (h1 : lo ≤ g) (h2 : g < hi) : RdI w lo hi (some ⟨g, 0, none⟩) xs := fun _ => by
  refine ⟨g, 0, rfl, h1, h2, fun i x hx j u hu => ?_⟩
  rw [h.cell]
  match j, hu with
  | 0, hu => simp [encI] at hu; subst hu; simp [hx]
end

/-- A block below the heap's size lies below it behind new blocks, too. -/
theorem lts {b n : Nat} (h : b < n) : b < n ∧ b < n + 1 ∧ b < n + 1 + 1 ∧ b < n + 1 + 1 + 1 ∧ b < n + 1 + 1 + 1 + 1 ∧ b < n + 1 + 1 + 1 + 1 + 1 ∧ b < n + 1 + 1 + 1 + 1 + 1 + 1 ∧ b < n + 1 + 1 + 1 + 1 + 1 + 1 + 1 ∧ b < n + 1 + 1 + 1 + 1 + 1 + 1 + 1 + 1 ∧ b < n + 1 + 1 + 1 + 1 + 1 + 1 + 1 + 1 + 1 := by omega
theorem lt6 {b n : Nat} (h : b < n) : b < n ∧ b < n + 1 ∧ b < n + 1 + 1 ∧ b < n + 1 + 1 + 1 ∧ b < n + 1 + 1 + 1 + 1 ∧ b < n + 1 + 1 + 1 + 1 + 1 := by omega
theorem bcell {B : Nat} {W w1 : World} (hb : Below B W w1) : (∀ b o, b < B → w1.cell? ⟨b, o, none⟩ = W.cell? ⟨b, o, none⟩) ∧ (∀ b o, b < B → w1.frozen? ⟨b, o, none⟩ = W.frozen? ⟨b, o, none⟩) ∧ W.heap.size ≤ w1.heap.size :=
  ⟨fun b o h => hb.cell (p := ⟨b, o, none⟩) h, fun b o h => hb.frozen (p := ⟨b, o, none⟩) h, hb.size⟩
theorem ret_bool {a b : Bool} (h : a = b) : Ending.returned (.bool a) = .returned (.bool b) := by rw [h]
theorem ret_int {k : IntKind} {a b : Int} (h : a = b) : Ending.returned (.int k a) = .returned (.int k b) := by rw [h]
theorem Below.drewN_ {B : Nat} {a w : World} (h : Below B a w) (n : Nat) : Below B a (w.drewN n) := ⟨h.os, h.tape, h.output, h.size, h.block⟩

/-- xs[1:], for a slice that is not empty. -/
theorem run_from1 {P : Program} {t e : TypeId} {i : TypeInfo} (ht : P.underlying t = some (.slice e)) (hi : P.info? e = some i) (A : Option Addr) (n c : Nat) (hn : 1 ≤ n) :
    ∃ A1, A1 = (if c = 1 then A else A.map (·.add (1 * i.size))) ∧ ∀ W : World, (Instr.sliceAt t (.slice A n c) (some (.int .i64 1)) none none).run P W = .ok (.slice A1 (n - 1) (c - 1)) W := by
  refine ⟨_, rfl, fun W => ?_⟩
  have h1 : (1 : Int) ≤ n := by omega
  simp [Instr.sliceAt, Instr.slice, Instr.sliceBounds, Instr.sliceBound, run_underlying ht, sizeOf, typeInfo, hi, asIntOf, h1]

theorem Rd.from1 {α : Type} {enc : α → List Value} {size : Nat} {w : World} {lo hi : Nat} {A A1 : Option Addr} {xs : List α} {c : Nat} (h : Rd enc size w lo hi A xs) (hc : xs.length ≤ c)
    (hA : A1 = (if c = 1 then A else A.map (·.add (1 * size)))) : Rd enc size w lo hi A1 (xs.drop 1) := by
  by_cases h1 : c = 1
  · intro hn; rw [List.length_drop] at hn; omega
  · rw [if_neg h1] at hA; subst hA; exact h.tail

/-- make([]int, n). -/
theorem run_make_ints {P : Program} {t e : TypeId} {i : TypeInfo} (ht : P.underlying t = some (.slice e)) (hi : P.info? e = some i) (hz : i.zero = some (.int .i64 0)) (hs : i.size = 1) (hb : i.bytes = 8) (n : Nat) (hn : n ≤ 1000000) :
    ∀ W : World, (Instr.makeSlice t (.int .i64 (n : Int)) (.int .i64 (n : Int))).run P W = .ok (.slice (some ⟨W.heap.size, 0, none⟩) n n) (W.alloc (.cells ((List.replicate n (0 : Int)).map I).toArray e)) := fun W => by
  have hr := run_make (P := P) W t e i _ ht hi hz .i64 .i64 n n (by omega) (by omega) (by rw [hb]; omega) (by omega)
  rw [hr]
  simp [hs, madeCells, Value.cells]
  congr 2
  apply Array.ext
  · simp
  · intro j h1 h2; simp [Nat.mod_one]
end Go.Proofs.Ytepibjfmeibgcaa
