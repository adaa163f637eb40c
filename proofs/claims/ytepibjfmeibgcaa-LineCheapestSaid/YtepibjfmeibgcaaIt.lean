/- A law for 'for x := range seq' where seq writes only blocks that are told, and the rounds keep only blocks that are told. No program is in sight here. -/
import Derived.RangeFuncNested
import Derived.RangeFuncBound
import Derived.RangeFuncCalls
import Derived.RangeFuncLeaves
import Derived.Shelf.Abstract
import Derived.Shelf.RegionOpen
import Derived.WalkKit
import Derived.OwnWalkIn
import Derived.TacticsInMore
import Derived.LoopNIn
import Derived.LoopIn
import Derived.Test.YtepibjfmeibgcaaLib
namespace Go.Proofs.Ytepibjfmeibgcaa
open Go.RowKit Go.Shelf
set_option linter.unusedVariables false

/-- Of what lay in W only the blocks of S may have changed in W'. -/
def Only (S : Nat → Prop) (W W' : World) : Prop :=
  W'.os = W.os ∧ W'.tape = W.tape ∧ W'.output = W.output ∧ W.heap.size ≤ W'.heap.size ∧ ∀ k, k < W.heap.size → ¬ S k → W'.heap[k]? = W.heap[k]?
section
variable {S T : Nat → Prop} {A B C : World}
theorem Only.refl (S : Nat → Prop) (A : World) : Only S A A := ⟨rfl, rfl, rfl, Nat.le_refl _, fun _ _ _ => rfl⟩
theorem Only.trans (h : Only S A B) (k : Only S B C) : Only S A C :=
  ⟨k.1.trans h.1, k.2.1.trans h.2.1, k.2.2.1.trans h.2.2.1, Nat.le_trans h.2.2.2.1 k.2.2.2.1, fun i hi hs => (k.2.2.2.2 i (Nat.lt_of_lt_of_le hi h.2.2.2.1) hs).trans (h.2.2.2.2 i hi hs)⟩
theorem Only.mono (h : Only S A B) (hs : ∀ k, k < A.heap.size → S k → T k) : Only T A B :=
  ⟨h.1, h.2.1, h.2.2.1, h.2.2.2.1, fun i hi ht => h.2.2.2.2 i hi (fun hh => ht (hs i hi hh))⟩
theorem Only.then_ (h : Only S A B) (k : Only T B C) (hs : ∀ i, i < A.heap.size → T i → S i) : Only S A C :=
  ⟨k.1.trans h.1, k.2.1.trans h.2.1, k.2.2.1.trans h.2.2.1, Nat.le_trans h.2.2.2.1 k.2.2.2.1, fun i hi hn => (k.2.2.2.2 i (Nat.lt_of_lt_of_le hi h.2.2.2.1) (fun ht => hn (hs i hi ht))).trans (h.2.2.2.2 i hi hn)⟩
theorem Only.alloc (S : Nat → Prop) (A : World) (o : Obj) : Only S A (A.alloc o) := ⟨rfl, rfl, rfl, by simp, fun k hk _ => Below.heap_alloc A o k hk⟩
theorem Only.setCell (A : World) (p : Addr) (u : Value) (hp : S p.block) : Only S A (A.setCell p u) :=
  ⟨rfl, rfl, rfl, by simp [World.setCell], fun k _ hs => Below.heap_setCell A p u k (fun e => hs (e ▸ hp))⟩
theorem Only.putObj (A : World) (l : Nat) (o : Obj) (hp : S l) : Only S A (A.putObj l o) :=
  ⟨rfl, rfl, rfl, by simp, fun k _ hs => World.putObj_heap_other (fun e => hs (e ▸ hp))⟩
theorem Only.of_below (h : Below A.heap.size A B) (S : Nat → Prop) : Only S A B := ⟨h.os, h.tape, h.output, h.size, fun k hk _ => h.block k hk⟩
theorem Only.drewN (S : Nat → Prop) (A : World) (n : Nat) : Only S A (A.drewN n) := ⟨rfl, rfl, rfl, Nat.le_refl _, fun _ _ _ => rfl⟩
theorem Only.drew (S : Nat → Prop) (A : World) : Only S A A.drew := ⟨rfl, rfl, rfl, Nat.le_refl _, fun _ _ _ => rfl⟩
theorem Only.heap (h : Only S A B) {k : Nat} {o : Obj} (hk : A.heap[k]? = some o) (hs : ¬ S k) : B.heap[k]? = some o :=
  (h.2.2.2.2 k (Array.getElem?_eq_some_iff.1 hk).1 hs).trans hk
theorem Only.below {n : Nat} (h : Only S A B) (hn : n ≤ A.heap.size) (hs : ∀ k, S k → n ≤ k) : Below n A B :=
  ⟨h.1, h.2.1, h.2.2.1, h.2.2.2.1, fun k hk => h.2.2.2.2 k (Nat.lt_of_lt_of_le hk hn) (fun hh => by have := hs k hh; omega)⟩
theorem Only.of_grownBy {row : Option Nat} (h : A.grownBy B row) (hr : ∀ k, row = some k → S k) : Only S A B :=
  ⟨h.os, h.tape, h.output, h.size, fun k hk hs => h.block k hk (fun e => hs (hr k e.symm))⟩
end

/-- The iterator gives xs, one after another; between two rounds it writes the blocks of Sb alone, if the rounds keep the blocks of Kb. -/
def Iter {α : Type} (P : Program) (g : FuncId) (lb : Array Value) (encs : α → Array Value) (xs : List α) (Sb Kb : Nat → Prop) (w : World) : Prop :=
  ∀ (l : Nat) (J : List α → World → Prop) (W : World), Only (fun _ => False) w W → w.heap.size ≤ l →
    (∀ pre W1 W2, J pre W1 → Only Sb W1 W2 → J pre W2) →
    (∀ pre x W1, J pre W1 → pre ++ [x] <+: xs → YieldAt Fence.wide 7 P l (encs x) W1 fun e W2 => e = .returned (.bool true) ∧ J (pre ++ [x]) W2 ∧ Only (fun k => ¬ Kb k) W1 W2) →
    J [] W → CallsIn Fence.wide 8 P g (#[.func (.yield l) #[] #[]] ++ lb) W fun e W' => (∃ v, e = .returned v) ∧ J xs W'

def itPost (Kb : Nat → Prop) (z : Nat) (I' : World → Prop) (W : World) : Exit → Act → World → Prop
  | .normal, _, W' => I' W' ∧ Only (fun k => ¬ Kb k ∧ ¬ (z ≤ k ∧ k ≤ z + 1)) W W'
  | _, _, _ => False

theorem wp_rangeIt {α : Type} {P : Program} {g : Operand} {ps : Array Tmp} {assign body : Code} {Q : Exit → Act → World → Prop} {a : Act} {w : World} {gf : FuncId} {lb : Array Value}
    (hg : a.eval g = .func (.func gf) #[] lb) (eg : ∀ args w, (callFunc gf args).run P w = .ok (.enter gf args) w)
    {encs : α → Array Value} {xs : List α} {Sb Kb : Nat → Prop} (hseq : Iter P gf lb encs xs Sb Kb w) (hps : ∀ x, (encs x).size = ps.size) (hS : ∀ k, Sb k → k < w.heap.size) (hK : ∀ k, Kb k → k < w.heap.size)
    (I : List α → World → Prop) (hI : ∀ pre W1 W2, I pre W1 → Only (fun k => Sb k ∨ (w.heap.size ≤ k ∧ k ≤ w.heap.size + 1)) W1 W2 → I pre W2) (h0 : I [] w) (a₁ : α → Act)
    (hassign : ∀ (l : Nat) (x : α) (W : World) (K : Act → World → Prop), K (a₁ x) W →
      assign.wpIn (Fence.wide.inRound l) 7 P (Exit.then K (fun _ _ _ => False)) { tmps := (ps.zip (encs x)).foldl (fun t (p, v) => t.setIfInBounds p v) a.tmps, defers := [] } W)
    (hbody : ∀ (l : Nat) (pre : List α) (x : α) (W : World), I pre W → pre ++ [x] <+: xs → w.heap.size + 2 ≤ W.heap.size → body.wpIn (Fence.wide.inRound l) 7 P (itPost Kb w.heap.size (I (pre ++ [x])) W) (a₁ x) W)
    (hdone : ∀ (W : World), I xs W → W.heap[w.heap.size]? = some (.deferred (some [])) → Q .normal { a with defers := { target := .collected w.heap.size, args := #[] } :: a.defers } W) :
    (Code.rangeFunc g ps assign body).wpIn Fence.wide 9 P Q a w := by
  refine wpIn_rangeFunc ?_
  intro fn _
  obtain ⟨rec, hrec⟩ : ∃ rec : LoopState → Option Code → Loop, rec = fun st pe => { state := st, pending := pe, fn, tmps := a.tmps, params := ps, assign, body, defers := w.heap.size } := ⟨_, rfl⟩
  obtain ⟨W1, hW1⟩ : ∃ W1, (w.alloc (.deferred (some []))).alloc (.loop (rec .ready none)) = W1 := ⟨_, rfl⟩
  have hs1 : W1.heap.size = w.heap.size + 2 := by rw [← hW1]; simp
  have hL1 : W1.heap[w.heap.size + 1]? = some (.loop (rec .ready none)) := by
    rw [← hW1]; have := heap_alloc_new (w.alloc (.deferred (some []))) (.loop (rec .ready none)); rwa [World.size_alloc] at this
  have hK1 : W1.heap[w.heap.size]? = some (.deferred (some [])) := by
    rw [← hW1]; exact (Below.heap_alloc _ _ _ (by simp)).trans (heap_alloc_new w _)
  have hO1 : ∀ S, Only S w W1 := fun S => by rw [← hW1]; exact (Only.alloc S w _).trans (Only.alloc S _ _)
  refine ⟨w.heap.size + 1, [{ target := .collected w.heap.size, args := #[] }], W1, { target := .fn (.func gf) lb, args := #[.func (.yield (w.heap.size + 1)) #[] #[]] }, W1, gf,
    #[.func (.yield (w.heap.size + 1)) #[] #[]] ++ lb, W1, ?_, ?_, fun _ _ => trivial, ?_, (fun h => by cases h), ?_⟩
  · rw [← hW1, hrec]; exact run_enterLoop_outer _ _ _ _ _
  · have e : resolve a.eval (rangeCall g (w.heap.size + 1)) 0 = Deferred.ofValue (a.eval g) #[.func (.yield (w.heap.size + 1)) #[] #[]] := by simp [resolve, Act.eval]
    rw [e, hg]; simp [Deferred.ofValue]
  · simp [invoke, go_sem, eg]
  · refine (hseq (w.heap.size + 1) (fun pre W => I pre W ∧ W.heap[w.heap.size]? = some (.deferred (some [])) ∧ W.heap[w.heap.size + 1]? = some (.loop (rec .ready none))) W1 (hO1 _) (by omega) ?_ ?_ ?_).mono ?_
    · rintro pre A B ⟨hi, hd, hl⟩ hAB
      exact ⟨hI pre A B hi (hAB.mono fun k _ hk => .inl hk), hAB.heap hd (fun h => by have := hS _ h; omega), hAB.heap hl (fun h => by have := hS _ h; omega)⟩
    · rintro pre x A ⟨hi, hd, hl⟩ hpre
      have hlA : w.heap.size + 1 < A.heap.size := (Array.getElem?_eq_some_iff.1 hl).1
      refine ⟨_, _, _, _, run_yield hl (by rw [hrec]; exact hps x), roundIn_of_wpIn trivial ?_⟩
      have hbr := run_beginRound (P := P) hl (by rw [hrec])
      obtain ⟨A2, hA2⟩ : ∃ A2, A.putObj (w.heap.size + 1) (.loop { rec .ready none with state := .busy }) = A2 := ⟨_, rfl⟩
      rw [hA2] at hbr
      have hl2 : A2.heap[w.heap.size + 1]? = some (.loop { rec .ready none with state := .busy }) := by rw [← hA2]; exact World.putObj_heap_same hlA
      have hO2 : ∀ S : Nat → Prop, S (w.heap.size + 1) → Only S A A2 := fun S hS' => by rw [← hA2]; exact Only.putObj _ _ _ hS'
      have hd2 : A2.heap[w.heap.size]? = some (.deferred (some [])) := (hO2 (fun k => k = w.heap.size + 1) rfl).heap hd (by omega)
      have hi2 := hI pre A A2 hi (hO2 _ (.inr ⟨by omega, by omega⟩))
      have hasg := hassign (w.heap.size + 1) x A (fun a₁ w₁ => ∃ w₂, (Instr.beginRound (w.heap.size + 1)).run P w₁ = .ok () w₂ ∧ body.wpIn (Fence.wide.inRound (w.heap.size + 1)) 7 P (roundPost P (w.heap.size + 1) (fun e W2 => e = .returned (.bool true) ∧ (I (pre ++ [x]) W2 ∧ W2.heap[w.heap.size]? = some (.deferred (some [])) ∧ W2.heap[w.heap.size + 1]? = some (.loop (rec .ready none))) ∧ Only (fun k => ¬ Kb k) A W2)) a₁ w₂) ?_
      · simp only [hrec] at hasg ⊢; exact hasg
      refine ⟨A2, hbr, wpIn_mono (hbody (w.heap.size + 1) pre x A2 hi2 hpre (by have := (hO2 (fun k => k = w.heap.size + 1) rfl).2.2.2.1; omega)) ?_⟩
      intro e a3 A3 hpost
      cases e with
      | normal =>
        obtain ⟨hi3, hO3⟩ := hpost
        have hl3 := hO3.heap hl2 (fun h => h.2 ⟨by omega, by omega⟩)
        have hd3 := hO3.heap hd2 (fun h => h.2 ⟨by omega, by omega⟩)
        have hl3' : w.heap.size + 1 < A3.heap.size := (Array.getElem?_eq_some_iff.1 hl3).1
        refine ⟨_, _, run_endRound none hl3, rfl, ⟨hI _ _ _ hi3 (Only.putObj _ _ _ (.inr ⟨by omega, by omega⟩)), ?_, ?_⟩, ?_⟩
        · exact (Only.putObj (S := fun k => k = w.heap.size + 1) A3 _ _ rfl).heap hd3 (by omega)
        · rw [World.putObj_heap_same hl3', hrec]; rfl
        · refine ((hO2 _ (fun h => by have := hK _ h; omega)).trans (hO3.mono fun k _ hk => hk.1)).trans (Only.putObj _ _ _ (fun h => by have := hK _ h; omega))
      | _ => exact hpost.elim
    · exact ⟨hI _ _ _ h0 (hO1 _), hK1, hL1⟩
    · rintro e W2 ⟨⟨v0, rfl⟩, hi2, hd2, hl2⟩
      refine ⟨none, W2.putObj (w.heap.size + 1) (.loop { rec .ready none with state := .exhausted }), ?_, ?_⟩
      · have := run_endLoop (P := P) hl2 (by rw [hrec]; simp)
        rw [this, hrec]
      · exact hdone _ (hI _ _ _ hi2 (Only.putObj _ _ _ (.inr ⟨by omega, by omega⟩))) ((Only.putObj (S := fun k => k = w.heap.size + 1) W2 _ _ rfl).heap hd2 (by omega))
/-- The same, where the assignment to the loop's variables makes memory: Ax says what it leaves. -/
theorem wp_rangeItA {α : Type} {P : Program} {g : Operand} {ps : Array Tmp} {assign body : Code} {Q : Exit → Act → World → Prop} {a : Act} {w : World} {gf : FuncId} {lb : Array Value}
    (hg : a.eval g = .func (.func gf) #[] lb) (eg : ∀ args w, (callFunc gf args).run P w = .ok (.enter gf args) w)
    {encs : α → Array Value} {xs : List α} {Sb Kb : Nat → Prop} (hseq : Iter P gf lb encs xs Sb Kb w) (hps : ∀ x, (encs x).size = ps.size) (hS : ∀ k, Sb k → k < w.heap.size) (hK : ∀ k, Kb k → k < w.heap.size)
    (I : List α → World → Prop) (hI : ∀ pre W1 W2, I pre W1 → Only (fun k => Sb k ∨ (w.heap.size ≤ k ∧ k ≤ w.heap.size + 1)) W1 W2 → I pre W2) (h0 : I [] w) (Ax : α → Act → World → Prop) (hAx : ∀ x a' W1 W2, Ax x a' W1 → Only (fun k => w.heap.size ≤ k ∧ k ≤ w.heap.size + 1) W1 W2 → Ax x a' W2)
    (hassign : ∀ (l : Nat) (pre : List α) (x : α) (W : World) (K : Act → World → Prop), I pre W → w.heap.size + 2 ≤ W.heap.size → (∀ a' W', Ax x a' W' → Only (fun _ => False) W W' → K a' W') →
      assign.wpIn (Fence.wide.inRound l) 7 P (Exit.then K (fun _ _ _ => False)) { tmps := (ps.zip (encs x)).foldl (fun t (p, v) => t.setIfInBounds p v) a.tmps, defers := [] } W)
    (hbody : ∀ (l : Nat) (pre : List α) (x : α) (a' : Act) (W : World), I pre W → Ax x a' W → pre ++ [x] <+: xs → w.heap.size + 2 ≤ W.heap.size → body.wpIn (Fence.wide.inRound l) 7 P (itPost Kb w.heap.size (I (pre ++ [x])) W) a' W)
    (hdone : ∀ (W : World), I xs W → W.heap[w.heap.size]? = some (.deferred (some [])) → Q .normal { a with defers := { target := .collected w.heap.size, args := #[] } :: a.defers } W) :
    (Code.rangeFunc g ps assign body).wpIn Fence.wide 9 P Q a w := by
  refine wpIn_rangeFunc ?_
  intro fn _
  obtain ⟨rec, hrec⟩ : ∃ rec : LoopState → Option Code → Loop, rec = fun st pe => { state := st, pending := pe, fn, tmps := a.tmps, params := ps, assign, body, defers := w.heap.size } := ⟨_, rfl⟩
  obtain ⟨W1, hW1⟩ : ∃ W1, (w.alloc (.deferred (some []))).alloc (.loop (rec .ready none)) = W1 := ⟨_, rfl⟩
  have hs1 : W1.heap.size = w.heap.size + 2 := by rw [← hW1]; simp
  have hL1 : W1.heap[w.heap.size + 1]? = some (.loop (rec .ready none)) := by
    rw [← hW1]; have := heap_alloc_new (w.alloc (.deferred (some []))) (.loop (rec .ready none)); rwa [World.size_alloc] at this
  have hK1 : W1.heap[w.heap.size]? = some (.deferred (some [])) := by
    rw [← hW1]; exact (Below.heap_alloc _ _ _ (by simp)).trans (heap_alloc_new w _)
  have hO1 : ∀ S, Only S w W1 := fun S => by rw [← hW1]; exact (Only.alloc S w _).trans (Only.alloc S _ _)
  refine ⟨w.heap.size + 1, [{ target := .collected w.heap.size, args := #[] }], W1, { target := .fn (.func gf) lb, args := #[.func (.yield (w.heap.size + 1)) #[] #[]] }, W1, gf,
    #[.func (.yield (w.heap.size + 1)) #[] #[]] ++ lb, W1, ?_, ?_, fun _ _ => trivial, ?_, (fun h => by cases h), ?_⟩
  · rw [← hW1, hrec]; exact run_enterLoop_outer _ _ _ _ _
  · have e : resolve a.eval (rangeCall g (w.heap.size + 1)) 0 = Deferred.ofValue (a.eval g) #[.func (.yield (w.heap.size + 1)) #[] #[]] := by simp [resolve, Act.eval]
    rw [e, hg]; simp [Deferred.ofValue]
  · simp [invoke, go_sem, eg]
  · refine (hseq (w.heap.size + 1) (fun pre W => I pre W ∧ W.heap[w.heap.size]? = some (.deferred (some [])) ∧ W.heap[w.heap.size + 1]? = some (.loop (rec .ready none))) W1 (hO1 _) (by omega) ?_ ?_ ?_).mono ?_
    · rintro pre A B ⟨hi, hd, hl⟩ hAB
      exact ⟨hI pre A B hi (hAB.mono fun k _ hk => .inl hk), hAB.heap hd (fun h => by have := hS _ h; omega), hAB.heap hl (fun h => by have := hS _ h; omega)⟩
    · rintro pre x A ⟨hi, hd, hl⟩ hpre
      have hlA : w.heap.size + 1 < A.heap.size := (Array.getElem?_eq_some_iff.1 hl).1
      refine ⟨_, _, _, _, run_yield hl (by rw [hrec]; exact hps x), roundIn_of_wpIn trivial ?_⟩
      have hasg := hassign (w.heap.size + 1) pre x A (fun a₁ w₁ => ∃ w₂, (Instr.beginRound (w.heap.size + 1)).run P w₁ = .ok () w₂ ∧ body.wpIn (Fence.wide.inRound (w.heap.size + 1)) 7 P (roundPost P (w.heap.size + 1) (fun e W2 => e = .returned (.bool true) ∧ (I (pre ++ [x]) W2 ∧ W2.heap[w.heap.size]? = some (.deferred (some [])) ∧ W2.heap[w.heap.size + 1]? = some (.loop (rec .ready none))) ∧ Only (fun k => ¬ Kb k) A W2)) a₁ w₂) hi (by omega) ?_
      · simp only [hrec] at hasg ⊢; exact hasg
      intro a' A1 hax hO0
      have hl1 := hO0.heap hl (fun h => h)
      have hd1 := hO0.heap hd (fun h => h)
      have hbr := run_beginRound (P := P) hl1 (by rw [hrec])
      obtain ⟨A2, hA2⟩ : ∃ A2, A1.putObj (w.heap.size + 1) (.loop { rec .ready none with state := .busy }) = A2 := ⟨_, rfl⟩
      rw [hA2] at hbr
      have hlA1 : w.heap.size + 1 < A1.heap.size := (Array.getElem?_eq_some_iff.1 hl1).1
      have hl2 : A2.heap[w.heap.size + 1]? = some (.loop { rec .ready none with state := .busy }) := by rw [← hA2]; exact World.putObj_heap_same hlA1
      have hO12 : ∀ S : Nat → Prop, S (w.heap.size + 1) → Only S A1 A2 := fun S hS' => by rw [← hA2]; exact Only.putObj _ _ _ hS'
      have hO2 : ∀ S : Nat → Prop, S (w.heap.size + 1) → Only S A A2 := fun S hS' => (hO0.mono fun _ _ h => h.elim).trans (hO12 S hS')
      have hd2 : A2.heap[w.heap.size]? = some (.deferred (some [])) := (hO2 (fun k => k = w.heap.size + 1) rfl).heap hd (by omega)
      have hi2 := hI pre A A2 hi (hO2 _ (.inr ⟨by omega, by omega⟩))
      have hax2 := hAx x a' A1 A2 hax (hO12 _ ⟨by omega, by omega⟩)
      refine ⟨A2, hbr, wpIn_mono (hbody (w.heap.size + 1) pre x a' A2 hi2 hax2 hpre (by have := (hO2 (fun k => k = w.heap.size + 1) rfl).2.2.2.1; omega)) ?_⟩
      intro e a3 A3 hpost
      cases e with
      | normal =>
        obtain ⟨hi3, hO3⟩ := hpost
        have hl3 := hO3.heap hl2 (fun h => h.2 ⟨by omega, by omega⟩)
        have hd3 := hO3.heap hd2 (fun h => h.2 ⟨by omega, by omega⟩)
        have hl3' : w.heap.size + 1 < A3.heap.size := (Array.getElem?_eq_some_iff.1 hl3).1
        refine ⟨_, _, run_endRound none hl3, rfl, ⟨hI _ _ _ hi3 (Only.putObj _ _ _ (.inr ⟨by omega, by omega⟩)), ?_, ?_⟩, ?_⟩
        · exact (Only.putObj (S := fun k => k = w.heap.size + 1) A3 _ _ rfl).heap hd3 (by omega)
        · rw [World.putObj_heap_same hl3', hrec]; rfl
        · refine ((hO2 _ (fun h => by have := hK _ h; omega)).trans (hO3.mono fun k _ hk => hk.1)).trans (Only.putObj _ _ _ (fun h => by have := hK _ h; omega))
      | _ => exact hpost.elim
    · exact ⟨hI _ _ _ h0 (hO1 _), hK1, hL1⟩
    · rintro e W2 ⟨⟨v0, rfl⟩, hi2, hd2, hl2⟩
      refine ⟨none, W2.putObj (w.heap.size + 1) (.loop { rec .ready none with state := .exhausted }), ?_, ?_⟩
      · have := run_endLoop (P := P) hl2 (by rw [hrec]; simp)
        rw [this, hrec]
      · exact hdone _ (hI _ _ _ hi2 (Only.putObj _ _ _ (.inr ⟨by omega, by omega⟩))) ((Only.putObj (S := fun k => k = w.heap.size + 1) W2 _ _ rfl).heap hd2 (by omega))
theorem Rd.only {α : Type} {enc : α → List Value} {size : Nat} {S : Nat → Prop} {W W' : World} {lo hi : Nat} {A : Option Addr} {xs : List α} (h : Rd enc size W lo hi A xs) (ho : Only S W W') (hh : hi ≤ W.heap.size) (hs : ∀ k, lo ≤ k → k < hi → ¬ S k) : Rd enc size W' lo hi A xs :=
  h.keep fun b _ h1 h2 => World.cell?_of_block (w := W) (ho.2.2.2.2 b (by omega) (hs b h1 h2))
theorem Only.cell {S : Nat → Prop} {W W' : World} (ho : Only S W W') {b : Nat} (hb : b < W.heap.size) (hs : ¬ S b) (o : Nat) : W'.cell? ⟨b, o, none⟩ = W.cell? ⟨b, o, none⟩ := World.cell?_of_block (w := W) (ho.2.2.2.2 b hb hs)
end Go.Proofs.Ytepibjfmeibgcaa
