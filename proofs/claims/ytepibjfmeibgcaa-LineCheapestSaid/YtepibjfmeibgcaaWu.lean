/- Rows of a slice of slices that the call makes itself: each may be appended to, the others stay. -/
import Derived.Test.YtepibjfmeibgcaaApp
import Derived.Maps.AppendAt
namespace Go.Proofs.Ytepibjfmeibgcaa
open Go.RowKit
section
variable {P : Program}
/-- make([]T, n), for a T of one cell. -/
theorem run_make_cell {t e : TypeId} {i : TypeInfo} {z : Value} (ht : P.underlying t = some (.slice e)) (hi : P.info? e = some i) (hz : i.zero = some z) (hs : i.size = 1) (hb : i.bytes ≤ 1000) (hc : z.cells = #[z]) (n : Nat) (hn : n ≤ 1000000) :
    ∀ W : World, (Instr.makeSlice t (.int .i64 (n : Int)) (.int .i64 (n : Int))).run P W = .ok (.slice (some ⟨W.heap.size, 0, none⟩) n n) (W.alloc (.cells (List.replicate n z).toArray e)) := fun W => by
  have h1 : i.bytes * n ≤ 1000 * n := Nat.mul_le_mul_right n hb
  have hr := run_make (P := P) W t e i _ ht hi hz .i64 .i64 n n (by omega) (by omega) (by have h2 : ((i.bytes * n : Nat) : Int) ≤ 281474976710656 := (by omega); rw [Int.natCast_mul] at h2; exact h2) (by omega)
  rw [hr]
  simp [hs, madeCells, hc]
  congr 2
  apply Array.ext
  · simp
  · intro j h1 h2; simp [Nat.mod_one]
/-- append(s, x) of one cell x, and where the new slice lies. -/
theorem step_append_cell {w : World} {ops : Array Oper} {o : Oper} {a : Act} {K : Act → World → Prop} {Q : Exit → Act → World → Prop} {E : Prop} (hgd : o.guard = none) (s x : Operand) (t : TypeId)
    (ho : o.op = .call { callee := .builtin .append, args := #[s, x], argTypes := #[t, t] })
    (base : Nat) (e : TypeId) (i : TypeInfo) (z : Value) (bytes : Nat) (ht : P.underlying t = some (.slice e)) (hi : P.info? e = some i) (hz : i.zero = some z)
    (hsize : i.size = 1) (hby : i.bytes = bytes) (hzs : z.cells.size = 1) (v : Value) (n : Nat) (xs : List Value) (hs : a.eval s = v) (hown : w.ownsRow base e 1 v n xs)
    (g c : Nat) (u : Value) (hx : a.eval x = .slice (some ⟨g, 0, none⟩) 1 c) (hu : w.cell? ⟨g, 0, none⟩ = some u) (h1 : u.oneCell' = true)
    (h63 : n + 1 ≤ maxLen) (hbytes : (n + 1) * bytes ≤ 140737488355328) (hbase : base ≤ w.heap.size)
    (h : ∀ v' w', w'.ownsRow base e 1 v' (n + 1) (xs ++ [u]) → w.grownBy w' v.ownBlock → (v'.ownBlock = v.ownBlock ∨ v'.ownBlock = some w.heap.size) → K (a.put o.dst v') w') :
    if Region.wanted o (yielded ops a.tmps) = true then Oper.wp P o a w K Q else E := by
  rw [if_pos (by simp [Region.wanted, hgd])]
  obtain ⟨v', w', hrun, h2, h3, _, h5⟩ := run_append_own_at (P := P) w base t o.type e i z 1 bytes ht hi hz hsize hby hzs (by omega) v n xs hown ⟨g, 0, none⟩ 1 c [u] rfl (fun j y hy => by
    match j, hy with
    | 0, hy => simp at hy; subst hy; simpa [Addr.add] using hu) (by simpa using h1) h63 hbytes hbase
  unfold Oper.wp execOp
  simp only [ho, resolve, invoke, builtin, Sem.run_bind, Sem.run_pure, Result.andThen_ok, List.map_toArray, List.map_cons, List.map_nil, hs, hx, hrun]
  exact h v' w' h2 h3 h5
end
/-- Block bc is n slices; the i-th has the ints f i; no two of them share a block. -/
def KR (te : TypeId) (ti : TypeId) (base : Nat) (W : World) (bc n : Nat) (f : Nat → List Int) : Prop :=
  ∃ vs : List Value, vs.length = n ∧ Blk W bc te vs.toArray ∧ (∀ i v, vs[i]? = some v → W.ownsRow base ti 1 v (f i).length ((f i).map I)) ∧ ∀ (i j : Nat) (vi vj : Value) (b : Nat), vs[i]? = some vi → vs[j]? = some vj → vi.ownBlock = some b → vj.ownBlock = some b → i = j
section
variable {te ti : TypeId} {base bc n : Nat} {W W' : World} {f : Nat → List Int}
theorem KR.new (h : Blk W bc te (List.replicate n (.slice none 0 0)).toArray) : KR te ti base W bc n (fun _ => []) :=
  ⟨List.replicate n (.slice none 0 0), by simp, h, fun i v hv => by
    have := List.eq_of_mem_replicate (List.mem_of_getElem? hv)
    subst this
    exact ⟨rfl, .inl ⟨rfl, rfl⟩⟩, fun i j vi vj b h1 h2 h3 h4 => by
    have := List.eq_of_mem_replicate (List.mem_of_getElem? h1)
    subst this
    simp [Value.ownBlock] at h3⟩
theorem KR.grown (h : KR te ti base W bc n f) (hg : W.grownBy W' none) : KR te ti base W' bc n f := by
  obtain ⟨vs, h1, h2, h3, h4⟩ := h
  exact ⟨vs, h1, (hg.block _ h2.lt (by simp)).trans h2, fun i v hv => (h3 i v hv).kept hg (by cases v.ownBlock <;> simp), h4⟩
theorem KR.at_ (h : KR te ti base W bc n f) {i : Nat} (hi : i < n) : ∃ v, W.cell? ⟨bc, i, none⟩ = some v ∧ W.ownsRow base ti 1 v (f i).length ((f i).map I) := by
  obtain ⟨vs, h1, h2, h3, h4⟩ := h
  refine ⟨vs[i], ?_, h3 i _ (List.getElem?_eq_getElem (by omega))⟩
  rw [h2.cell]; simp
theorem KR.frozen (h : KR te ti base W bc n f) (i : Nat) : W.frozen? ⟨bc, i, none⟩ = false := by obtain ⟨vs, h1, h2, h3, h4⟩ := h; exact h2.frozen i
theorem KR.lt (h : KR te ti base W bc n f) : bc < W.heap.size := by obtain ⟨vs, h1, h2, h3, h4⟩ := h; exact h2.lt
theorem owns_lt {v : Value} {m b : Nat} {xs : List Value} (h : W.ownsRow base ti 1 v m xs) (hb : v.ownBlock = some b) : base ≤ b ∧ b < W.heap.size := h.lt b hb
/-- A row has one number more. -/
theorem KR.push (h : KR te ti base W bc n f) (hbc : bc < base) {p : Nat} (hp : p < n) {x : Int} {v v' : Value} (hv : W.cell? ⟨bc, p, none⟩ = some v) {W1 : World} (ho : W1.ownsRow base ti 1 v' ((f p).length + 1) ((f p).map I ++ [I x])) (hg : W.grownBy W1 v.ownBlock)
    (hat : v'.ownBlock = v.ownBlock ∨ v'.ownBlock = some W.heap.size) : KR te ti base (W1.setCell ⟨bc, p, none⟩ v') bc n (fun i => if i = p then f p ++ [x] else f i) := by
  obtain ⟨vs, h1, h2, h3, h4⟩ := h
  have hcell : vs[p]? = some v := by rw [h2.cell] at hv; simpa using hv
  have hrow := h3 p v hcell
  have hne : some bc ≠ v.ownBlock := fun e => by have := (owns_lt hrow e.symm).1; omega
  have h2' : Blk W1 bc te vs.toArray := (hg.block _ h2.lt hne).trans h2
  refine ⟨vs.set p v', by simpa using h1, ?_, fun i u hu => ?_, fun i j vi vj b hi hj bi bj => ?_⟩
  · have := h2'.set_ p v'
    simpa using this
  · rw [List.getElem?_set] at hu
    by_cases hip : p = i
    · subst hip
      rw [if_pos rfl] at hu
      simp only [show p < vs.length by omega, if_true, Option.some.injEq] at hu
      subst hu
      simp only [if_true]
      have := ownsRow_setCell_below ho (a := ⟨bc, p, none⟩) hbc v'
      simpa using this
    · rw [if_neg hip] at hu
      simp only [if_neg (Ne.symm hip)]
      refine ownsRow_setCell_below ((h3 i u hu).kept hg ?_) hbc v'
      cases hb : u.ownBlock with
      | none => exact .inl rfl
      | some b => exact .inr (fun e => hip (h4 p i v u b hcell hu e.symm hb))
  · have key : ∀ (i : Nat) (vi : Value), p ≠ i → (vs.set p v')[i]? = some vi → vi.ownBlock = some b → v'.ownBlock = some b → False := fun i vi hpi hvi h5 h6 => by
      rw [List.getElem?_set, if_neg hpi] at hvi
      rcases hat with e | e
      · exact hpi (h4 p i v vi b hcell hvi (e ▸ h6) h5)
      · rw [h6] at e
        cases e
        have := (owns_lt (h3 i vi hvi) h5).2
        omega
    by_cases hpi : p = i
    · by_cases hpj : p = j
      · omega
      · subst hpi
        rw [List.getElem?_set, if_pos rfl] at hi
        simp only [show p < vs.length by omega, if_true, Option.some.injEq] at hi
        subst hi
        exact (key j vj hpj hj bj bi).elim
    · by_cases hpj : p = j
      · subst hpj
        rw [List.getElem?_set, if_pos rfl] at hj
        simp only [show p < vs.length by omega, if_true, Option.some.injEq] at hj
        subst hj
        exact (key i vi hpi hi bi bj).elim
      · rw [List.getElem?_set, if_neg hpi] at hi
        rw [List.getElem?_set, if_neg hpj] at hj
        exact h4 i j vi vj b hi hj bi bj
end
end Go.Proofs.Ytepibjfmeibgcaa
