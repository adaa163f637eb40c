/- Contracts for exact flows; blocks that begin with given cells. -/
import Derived.Test.YtepibjfmeibgcaaTy
import Derived.Test.YtepibjfmeibgcaaGo
namespace Go.Proofs.Ytepibjfmeibgcaa
open Go.RowKit
set_option linter.unusedVariables false
/-- Block g begins with the cells cs, none frozen. -/
def BlkT (W : World) (g : Nat) (e : TypeId) (cs : List Value) : Prop := ∃ cur, Blk W g e cur ∧ cur.toList.take cs.length = cs
section
variable {W V : World} {g : Nat} {e : TypeId} {cs : List Value}
theorem BlkT.lt (h : BlkT W g e cs) : g < W.heap.size := by obtain ⟨cur, h1, _⟩ := h; exact h1.lt
theorem BlkT.cell (h : BlkT W g e cs) {i : Nat} (hi : i < cs.length) : W.cell? ⟨g, i, none⟩ = some cs[i] := by
  obtain ⟨cur, h1, h2⟩ := h
  rw [h1.cell]
  have h3 : (cur.toList.take cs.length)[i]? = some cs[i] := by rw [h2, List.getElem?_eq_getElem hi]
  rw [List.getElem?_take_of_lt hi] at h3
  simpa using h3
theorem BlkT.frozen (h : BlkT W g e cs) (i : Nat) : W.frozen? ⟨g, i, none⟩ = false := by obtain ⟨cur, h1, _⟩ := h; exact h1.frozen i
theorem BlkT.put (h : BlkT W g e cs) (k : Nat) (u : Value) : BlkT (W.setCell ⟨g, k, none⟩ u) g e (cs.set k u) := by
  obtain ⟨cur, h1, h2⟩ := h
  refine ⟨_, h1.set_ k u, ?_⟩
  rw [Array.toList_setIfInBounds, List.length_set, List.take_set, h2]
theorem BlkT.below {B : Nat} (h : BlkT W g e cs) (hb : Below B W V) (hg : g < B) : BlkT V g e cs := by obtain ⟨cur, h1, h2⟩ := h; exact ⟨cur, h1.below hb hg, h2⟩
theorem BlkT.drew (h : BlkT W g e cs) : BlkT W.drew g e cs := h
theorem BlkT.drewN (h : BlkT W g e cs) (n : Nat) : BlkT (W.drewN n) g e cs := h
theorem BlkT.rd {α : Type} {enc : α → List Value} {size : Nat} (he : ∀ y, (enc y).length = size) {ys : List α} (h : BlkT W g e (ys.flatMap enc)) : Rd enc size W g (g + 1) (some ⟨g, 0, none⟩) ys := fun _ => by
  have hfl : ∀ zs : List α, (zs.flatMap enc).length = zs.length * size := fun zs => by
    induction zs with
    | nil => simp
    | cons z zs ih => rw [List.flatMap_cons, List.length_append, ih, he, List.length_cons, Nat.succ_mul]; omega
  have hat : ∀ (zs : List α) (i j : Nat) (x : α) (u : Value), zs[i]? = some x → (enc x)[j]? = some u → (zs.flatMap enc)[i * size + j]? = some u := fun zs => by
    induction zs with
    | nil => intro i j x u h; simp at h
    | cons z zs ih =>
      intro i j x u h1 h2
      have hj : j < size := by
        have := (List.getElem?_eq_some_iff.1 h2).1
        rw [he] at this; exact this
      rw [List.flatMap_cons]
      cases i with
      | zero =>
        simp at h1
        subst h1
        rw [Nat.zero_mul, Nat.zero_add, List.getElem?_append_left (by rw [he]; exact hj)]
        exact h2
      | succ i =>
        rw [List.getElem?_append_right (by rw [he, Nat.succ_mul]; omega), he, show (i + 1) * size + j - size = i * size + j by rw [Nat.succ_mul]; omega]
        exact ih i j x u (by simpa using h1) h2
  refine ⟨g, 0, rfl, Nat.le_refl _, Nat.lt_succ_self _, fun i x hx j u hu => ?_⟩
  have h3 := hat ys i j x u hx hu
  obtain ⟨h4, h5⟩ := List.getElem?_eq_some_iff.1 h3
  have h6 := h.cell h4
  rw [h5] at h6
  simpa using h6
end
theorem own_blk {W : World} {base : Nat} {e : TypeId} {size : Nat} {v : Value} {n : Nat} {xs : List Value} (h : W.ownsRow base e size v n xs) (hn : 0 < n) : ∃ g cap, v = .slice (some ⟨g, 0, none⟩) n cap ∧ base ≤ g ∧ g < W.heap.size ∧ n ≤ cap ∧ BlkT W g e xs := by
  obtain ⟨hl, h⟩ := h
  rcases h with ⟨_, h0⟩ | ⟨g, cap, cur, rfl, hb, hg, hc, _, hsz, ht⟩
  · omega
  · exact ⟨g, cap, rfl, hb, (Array.getElem?_eq_some_iff.1 hg).1, hc, cur, hg, by rw [hl]; exact ht⟩
theorem flat_set {α : Type} {enc : α → List Value} {size : Nat} (he : ∀ y, (enc y).length = size) {y' : α} {j : Nat} {u : Value} (hj : j < size) : ∀ (ys : List α) (k : Nat) (hk : k < ys.length), enc y' = (enc ys[k]).set j u → (ys.flatMap enc).set (k * size + j) u = (ys.set k y').flatMap enc := by
  intro ys
  induction ys with
  | nil => intro k hk; simp at hk
  | cons y ys ih =>
    intro k hk h
    rw [List.flatMap_cons, List.set_append]
    cases k with
    | zero =>
      rw [Nat.zero_mul, Nat.zero_add, if_pos (by rw [he]; exact hj), List.set_cons_zero, List.flatMap_cons, h]; rfl
    | succ k =>
      rw [if_neg (by rw [he, Nat.succ_mul]; omega), List.set_cons_succ, List.flatMap_cons, he, show (k + 1) * size + j - size = k * size + j by rw [Nat.succ_mul]; omega]
      rw [ih k (by simpa using hk) (by simpa using h)]
theorem pairT_at {a b : Nat → Int} {m k : Nat} (h : k < m) : (pairT a b m)[k]'(by rw [pairT_len]; exact h) = ⟨a k, b k⟩ := (List.getElem_map _).trans (by rw [List.getElem_range])
theorem pairT_congr {a b c d : Nat → Int} {m : Nat} (h1 : ∀ k, k < m → a k = c k) (h2 : ∀ k, k < m → b k = d k) : pairT a b m = pairT c d m := by
  apply List.ext_getElem
  · rw [pairT_len, pairT_len]
  · intro k hk _
    rw [pairT_len] at hk
    rw [pairT_at hk, pairT_at hk, h1 k hk, h2 k hk]
theorem pairT_set (a : Nat → Int) {m k : Nat} (x : Int) (h : k < m) : (pairT a a m).set k ⟨x, x⟩ = pairT (fun i => if i = k then x else a i) (fun i => if i = k then x else a i) m := by
  apply List.ext_getElem
  · rw [List.length_set, pairT_len, pairT_len]
  · intro i hi hi2
    rw [pairT_len] at hi2
    rw [pairT_at hi2, List.getElem_set]
    by_cases he : k = i
    · subst he; rw [if_pos rfl]; simp
    · rw [if_neg he, pairT_at hi2]
      simp only [if_neg (show ¬ i = k from fun h => he h.symm)]
theorem lowF_T {a b : Nat → Int} {m k : Nat} (h : k < m) : lowF (pairT a b m) k = a k := by
  unfold lowF; rw [rng_getD (by rw [pairT_len]; exact h), pairT_at h]
theorem highF_T {a b : Nat → Int} {m k : Nat} (h : k < m) : highF (pairT a b m) k = b k := by
  unfold highF; rw [rng_getD (by rw [pairT_len]; exact h), pairT_at h]
theorem flowsB_T {f : Nat → Int} {m : Nat} (h : ∀ k, k < m → 0 ≤ f k ∧ f k ≤ 1000000000) : flowsB (pairT f f m) = true := by
  unfold flowsB
  rw [List.all_eq_true]
  intro r hr
  obtain ⟨k, hk, rfl⟩ := List.getElem_of_mem hr
  rw [pairT_len] at hk
  rw [pairT_at hk]
  have := h k hk
  unfold flowB inB
  simp; omega
theorem ldV_congr {ps : List Pipe} {f g : Nat → Int} {z : List Int} (h : ∀ k, k < ps.length → f k = g k) {j : Nat} (hj : j < ps.length) : ldV ps f z j = ldV ps g z j :=
  Int.le_antisymm (ldV_mono (fun k hk => by rw [h k hk]; exact Int.le_refl _) hj) (ldV_mono (fun k hk => by rw [h k hk]; exact Int.le_refl _) hj)
theorem vacV_congr {pump : Int} {ps : List Pipe} (ht : Tree ps) {f g : Nat → Int} {z : List Int} (h : ∀ k, k < ps.length → f k = g k) {j : Nat} (hj : j < ps.length) : vacV pump ps f z j = vacV pump ps g z j :=
  Int.le_antisymm (vacV_le rfl (fun _ _ => rfl) ht ht f g z (fun k _ hk => by rw [ldV_congr h hk]; exact Int.le_refl _) j hj) (vacV_le rfl (fun _ _ => rfl) ht ht g f z (fun k _ hk => by rw [ldV_congr h hk]; exact Int.le_refl _) j hj)
section
variable {n : Net} (hok : netB n = true) {f : Nat → Int} (hf : ∀ k, k < n.pipes.length → 0 ≤ f k ∧ f k ≤ 1000000000) {zs : List Int} (hz : frzF n.pipes.length zs [] = 0)
include hok hf hz
theorem flowE_T : flowE n (pairT f f n.pipes.length) zs = 0 := by
  unfold flowE
  rw [hok, if_pos rfl, chkF_frz (pairT_len _ _ _) (flowsB_T hf)]
  exact hz
theorem LoadsV_T : LoadsV n (pairT f f n.pipes.length) zs = (pairT (ldV n.pipes f zs) (ldV n.pipes f zs) n.pipes.length, 0) := by
  unfold LoadsV
  rw [if_pos (flowE_T hok hf hz), loadsT (netB_tree hok)]
  congr 1
  exact pairT_congr (fun k hk => ldV_congr (fun i hi => lowF_T hi) hk) (fun k hk => ldV_congr (fun i hi => highF_T hi) hk)
theorem VacuumV_T : VacuumV n (pairT f f n.pipes.length) zs = (pairT (vacV n.pump n.pipes f zs) (vacV n.pump n.pipes f zs) n.pipes.length, 0) := by
  unfold VacuumV
  rw [if_pos (flowE_T hok hf hz), vacsT _ (netB_len hok).1]
  congr 1
  exact pairT_congr (fun k hk => vacV_congr (netB_tree hok) (fun i hi => highF_T hi) hk) (fun k hk => vacV_congr (netB_tree hok) (fun i hi => lowF_T hi) hk)
section
variable (A B C : Option Addr) (c cb cc mf mz : Nat) (w : World) (lo hi l2 h2 l3 h3 : Nat) (hR : RdP w lo hi A n.pipes) (hhi : hi ≤ w.heap.size) (hc : n.pipes.length ≤ c) (hF : RdR w l2 h2 B (pairT f f n.pipes.length)) (hh2 : h2 ≤ w.heap.size) (hmf : mf = n.pipes.length) (hZ : RdI w l3 h3 C zs) (hh3 : h3 ≤ w.heap.size) (hmz : mz = zs.length) (hzc : zs.length ≤ cc) (hzl : zs.length ≤ maxLen)
include hR hhi hc hF hh2 hmf hZ hh3 hmz hzc hzl
theorem LoadsX : Calls Try.prog 23 #[.agg #[.int .i64 n.pump, .slice A n.pipes.length c], .slice B mf cb, .slice C mz cc] w fun e w' => (∃ D cd, e = .returned (.tuple #[.slice D n.pipes.length cd, .int .i64 0]) ∧ RdR w' w.heap.size w'.heap.size D (pairT (ldV n.pipes f zs) (ldV n.pipes f zs) n.pipes.length)) ∧ Below w.heap.size w w' := by
  subst hmf
  subst hmz
  have hln := netB_len hok
  have hp := pairT_len f f n.pipes.length
  have h := LoadsC n A c w lo hi hR hhi hc (by unfold maxLen; omega) B C cb cc (pairT f f n.pipes.length) zs l2 h2 l3 h3 hF hh2 (by rw [hp]; unfold maxLen; omega) hZ hh3 hzc hzl
  rw [LoadsV_T hok hf hz, hp] at h
  refine h.mono fun e w' h => ?_
  obtain ⟨⟨v, rfl, ho⟩, hb⟩ := h
  obtain ⟨D, cd, rfl, _, hD⟩ := ownsRow_rd encR_len (by decide) ho rfl
  rw [pairT_len]
  exact ⟨⟨D, cd, rfl, hD⟩, hb⟩
theorem VacX : Calls Try.prog 24 #[.agg #[.int .i64 n.pump, .slice A n.pipes.length c], .slice B mf cb, .slice C mz cc] w fun e w' => (∃ D cd, e = .returned (.tuple #[.slice D n.pipes.length cd, .int .i64 0]) ∧ RdR w' w.heap.size w'.heap.size D (pairT (vacV n.pump n.pipes f zs) (vacV n.pump n.pipes f zs) n.pipes.length)) ∧ Below w.heap.size w w' := by
  subst hmf
  subst hmz
  have hln := netB_len hok
  have hp := pairT_len f f n.pipes.length
  have h := VacuumC n A c w lo hi hR hhi hc (by unfold maxLen; omega) B C cb cc (pairT f f n.pipes.length) zs l2 h2 l3 h3 hF hh2 (by rw [hp]; unfold maxLen; omega) hZ hh3 hzc hzl
  rw [VacuumV_T hok hf hz, hp] at h
  refine h.mono fun e w' h => ?_
  obtain ⟨⟨v, rfl, ho⟩, hb⟩ := h
  obtain ⟨D, cd, rfl, _, hD⟩ := ownsRow_rd encR_len (by decide) ho rfl
  rw [pairT_len]
  exact ⟨⟨D, cd, rfl, hD⟩, hb⟩
end
end
theorem rangesM (A : Option Addr) (c lo hi m : Nat) (xs : List Rng) (w : World) (hR : RdR w lo hi A xs) (hh : hi ≤ w.heap.size) (hn : xs.length ≤ 1000000) (hm : m = xs.length) :
    Calls Try.prog 18 #[.slice A m c] w fun e w' => (∃ B c', e = .returned (.slice B m c') ∧ m ≤ c' ∧ RdR w' w.heap.size w'.heap.size B xs) ∧ Below w.heap.size w w' := by
  subst hm
  exact rangesC A c lo hi xs w hR hh hn
/-- ranges, and the block of what it returns. -/
theorem rangesG (A : Option Addr) (c lo hi m : Nat) (xs : List Rng) (w : World) (hR : RdR w lo hi A xs) (hh : hi ≤ w.heap.size) (hn : xs.length ≤ 1000000) (hm : m = xs.length) (h0 : 0 < m) :
    Calls Try.prog 18 #[.slice A m c] w fun e w' => (∃ g c', e = .returned (.slice (some ⟨g, 0, none⟩) m c') ∧ w.heap.size ≤ g ∧ g < w'.heap.size ∧ m ≤ c' ∧ BlkT w' g 52 (xs.flatMap encR)) ∧ Below w.heap.size w w' := by
  subst hm
  refine (ranges_ A c lo hi xs w hR hh hn).mono fun e w' h => ?_
  obtain ⟨v, rfl, ho, hb⟩ := h
  obtain ⟨g, cap, rfl, h1, h2, h3, h4⟩ := own_blk ho h0
  exact ⟨⟨g, cap, rfl, h1, h2, h3, h4⟩, hb⟩
theorem ownG (pump : Int) (A : Option Addr) (c lo hi : Nat) (xs : List Pipe) (w : World) (hR : RdP w lo hi A xs) (hh : hi ≤ w.heap.size) (hn : xs.length ≤ 1000000) (h0 : 0 < xs.length) :
    Calls Try.prog 17 #[.agg #[.int .i64 pump, .slice A xs.length c]] w fun e w' => (∃ g c', e = .returned (.agg #[.int .i64 pump, .slice (some ⟨g, 0, none⟩) xs.length c']) ∧ w.heap.size ≤ g ∧ g < w'.heap.size ∧ xs.length ≤ c' ∧ BlkT w' g 54 (xs.flatMap encP)) ∧ Below w.heap.size w w' := by
  refine (own_ pump A c lo hi xs w hR hh hn).mono fun e w' h => ?_
  obtain ⟨B, c', rfl, ho, hb⟩ := h
  obtain ⟨g, cap, e, h1, h2, h3, h4⟩ := own_blk ho h0
  simp only [Value.slice.injEq] at e
  obtain ⟨rfl, _, rfl⟩ := e
  exact ⟨⟨g, c', rfl, h1, h2, h3, h4⟩, hb⟩
theorem goodC (n : Net) (A : Option Addr) (c lo hi : Nat) (most : Int) (w : World) (hR : RdP w lo hi A n.pipes) (hhi : hi ≤ w.heap.size) (hc : n.pipes.length ≤ c) (hn : n.pipes.length ≤ maxLen) (hm : most ≤ 1000) :
    Calls Try.prog 21 #[.agg #[.int .i64 n.pump, .slice A n.pipes.length c], .int .i64 most] w fun e w' => e = .returned (.bool (goodB n most)) ∧ Below w.heap.size w w' := by
  by_cases h : 1 ≤ n.pipes.length ∧ (n.pipes.length : Int) ≤ most
  · cases hok : netB n with
    | false => exact good_bad n A c lo hi most w hR hhi (by omega) h hok
    | true => exact good_ok n A c lo hi most w hR hhi (by omega) h hok hc
  · exact good_len n A c most w hn h
theorem goodB_true {n : Net} {most : Int} (h : goodB n most = true) : netB n = true ∧ (n.pipes.length : Int) ≤ most := by
  unfold goodB at h
  simp only [Bool.and_eq_true, decide_eq_true_eq] at h
  exact ⟨h.2, h.1.2⟩
theorem frz_nil (m : Int) : frzF m [] [] = 0 := rfl
theorem frz_one {m x : Int} (h : 1 ≤ x ∧ x ≤ m - 1) : frzF m [x] [] = 0 := by
  unfold frzF
  rw [inB_mk h]
  simp [memB, frzF]
theorem pipesB_all : ∀ (ps : List Pipe) (k : Nat), (∀ (i : Nat) (h : i < ps.length), pipeB ps[i] ((k + i : Nat) : Int) = true) → pipesB ps k = true := by
  intro ps
  induction ps with
  | nil => intro k _; rfl
  | cons p ps ih =>
    intro k h
    have h0 := h 0 (by simp)
    have h1 := ih (k + 1) (fun i hi => by
      have := h (i + 1) (by simp; omega)
      simp only [List.getElem_cons_succ] at this
      rw [show k + 1 + i = k + (i + 1) by omega]; exact this)
    unfold pipesB
    simp only [List.getElem_cons_zero, Nat.add_zero] at h0
    rw [h0, h1]; rfl
theorem netB_wide {n : Net} (h : netB n = true) {ice : Nat} (h1 : 1 ≤ ice) (h2 : ice < n.pipes.length) {b : Int} (hb : 4 ≤ b ∧ b ≤ 80) : netB ⟨n.pump, n.pipes.set ice { n.pipes[ice] with bore := b }⟩ = true := by
  have hp := fun j (h0 : 0 < j) (hj : j < n.pipes.length) => netB_pipe h hj h0
  have hn := h
  unfold netB at hn ⊢
  simp only [Bool.and_eq_true, decide_eq_true_eq] at hn ⊢
  refine ⟨⟨⟨by simpa using hn.1.1.1, hn.1.1.2⟩, ?_⟩, ?_⟩
  · rw [← hn.1.2, List.head?_eq_getElem?, List.head?_eq_getElem?, List.getElem?_set_ne (by omega)]
  · apply pipesB_all
    intro i hi
    rw [List.length_drop, List.length_set] at hi
    rw [List.getElem_drop, List.getElem_set]
    have h3 := hp (1 + i) (by omega) (by omega)
    split
    · rename_i he
      subst he
      unfold pipeB at h3 ⊢
      simp only [Bool.and_eq_true] at h3 ⊢
      refine ⟨⟨⟨⟨?_, h3.1.1.1.2⟩, inB_mk hb⟩, h3.1.2⟩, h3.2⟩
      have := h3.1.1.1.1
      rw [show ((0 + i : Nat) : Int) = ((1 + i : Nat) : Int) - 1 by omega]; exact this
    · rw [show ((0 + i : Nat) : Int) = ((1 + i : Nat) : Int) - 1 by omega]; exact h3
end Go.Proofs.Ytepibjfmeibgcaa
