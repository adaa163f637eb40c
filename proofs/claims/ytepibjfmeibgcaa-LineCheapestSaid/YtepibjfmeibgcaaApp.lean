/- append onto a row of the call's own, from any slice that reads as a list. No program is in sight here. -/
import Derived.Test.YtepibjfmeibgcaaIt
import Derived.Maps.AppendAt
namespace Go.Proofs.Ytepibjfmeibgcaa
open Go.RowKit
set_option linter.unusedVariables false

theorem flatMap_len {α β : Type} {enc : α → List β} {size : Nat} (he : ∀ y, (enc y).length = size) (ys : List α) : (ys.flatMap enc).length = ys.length * size := by
  induction ys with
  | nil => simp
  | cons y ys ih => rw [List.flatMap_cons, List.length_append, ih, he, List.length_cons, Nat.succ_mul, Nat.add_comm]
theorem flatMap_at {α β : Type} {enc : α → List β} {size : Nat} (he : ∀ y, (enc y).length = size) : ∀ (ys : List α) (j : Nat) (u : β), (ys.flatMap enc)[j]? = some u → ∃ i x r, ys[i]? = some x ∧ (enc x)[r]? = some u ∧ j = i * size + r := by
  intro ys
  induction ys with
  | nil => intro j u h; simp at h
  | cons y ys ih =>
    intro j u h
    rw [List.flatMap_cons] at h
    by_cases hj : j < (enc y).length
    · rw [List.getElem?_append_left hj] at h
      exact ⟨0, y, j, rfl, h, by omega⟩
    · rw [List.getElem?_append_right (by omega)] at h
      obtain ⟨i, x, r, h1, h2, h3⟩ := ih _ _ h
      have h4 := he y
      exact ⟨i + 1, x, r, by simpa using h1, h2, by rw [Nat.succ_mul]; omega⟩

section
variable {P : Program} {α : Type} {enc : α → List Value}
theorem run_append_rd (w : World) (base : Nat) (t ty e : TypeId) (i : TypeInfo) (z : Value) (size bytes : Nat) (ht : P.underlying t = some (.slice e)) (hi : P.info? e = some i) (hz : i.zero = some z)
    (hsize : i.size = size) (hby : i.bytes = bytes) (hzs : z.cells.size = size) (hsz : 0 < size) (v : Value) (n : Nat) (xs : List Value) (hown : w.ownsRow base e size v n xs)
    (A : Option Addr) (c lo hh : Nat) (ys : List α) (hr : Rd enc size w lo hh A ys) (he : ∀ y, (enc y).length = size) (h1 : ∀ y, ∀ u ∈ enc y, u.oneCell' = true)
    (h63 : n + ys.length ≤ maxLen) (hbytes : (n + ys.length) * bytes ≤ 140737488355328) (hbase : base ≤ w.heap.size) :
    ∃ v' w', (Builtin.append_ #[t, t] ty #[v, .slice A ys.length c]).run P w = .ok v' w' ∧ w'.ownsRow base e size v' (n + ys.length) (xs ++ ys.flatMap enc) ∧ w.grownBy w' v.ownBlock := by
  have hone : ∀ u ∈ ys.flatMap enc, u.oneCell' = true := fun u hu => by
    obtain ⟨y, _, hy⟩ := List.mem_flatMap.1 hu
    exact h1 y u hy
  rcases A with _ | ad
  · have h0 : ys = [] := by
      cases ys with
      | nil => rfl
      | cons y ys => obtain ⟨b, off, e, _⟩ := hr (by simp); cases e
    subst h0
    refine ⟨v, w, ?_, by simpa using hown, World.grownBy.refl w _⟩
    rcases hown.2 with ⟨rfl, rfl⟩ | ⟨g, cap, cur, rfl, _, _, hnc, _⟩
    · simp [Builtin.append_, run_underlying ht, sizeOf, typeInfo, hi, Builtin.lenOf, Builtin.firstCells]
    · simp [Builtin.append_, run_underlying ht, sizeOf, typeInfo, hi, Builtin.lenOf, Builtin.firstCells, hnc, storeCells]
  · obtain ⟨v', w', hrun, h2, h3, _⟩ := run_append_own (P := P) w base t ty e i z size bytes ht hi hz hsize hby hzs hsz v n xs hown ad ys.length c (ys.flatMap enc) (flatMap_len he ys) (fun j u hu => by
      obtain ⟨k, x, r, hx, hu', rfl⟩ := flatMap_at he ys j u hu
      have hpos : 0 < ys.length := by have := (List.getElem?_eq_some_iff.1 hx).1; omega
      obtain ⟨b, off, e, _, _, hc⟩ := hr hpos
      injection e with e
      subst e
      have := hc k x hx r u hu'
      rw [← this]
      unfold Addr.add
      split
      · rename_i h0; rw [show off + k * size + r = off by omega]
      · rw [Nat.add_assoc]) hone h63 hbytes hbase
    exact ⟨v', w', hrun, h2, h3⟩

theorem wp_append_rd (w : World) {o : Oper} {a : Act} {K : Act → World → Prop} {Q : Exit → Act → World → Prop} (s x : Operand) (t : TypeId)
    (ho : o.op = .call { callee := .builtin .append, args := #[s, x], argTypes := #[t, t] })
    (base : Nat) (e : TypeId) (i : TypeInfo) (z : Value) (size bytes : Nat) (ht : P.underlying t = some (.slice e)) (hi : P.info? e = some i) (hz : i.zero = some z)
    (hsize : i.size = size) (hby : i.bytes = bytes) (hzs : z.cells.size = size) (hsz : 0 < size) (v : Value) (n : Nat) (xs : List Value) (hs : a.eval s = v) (hown : w.ownsRow base e size v n xs)
    (A : Option Addr) (m c lo hh : Nat) (ys : List α) (hm : m = ys.length) (hx : a.eval x = .slice A m c) (hr : Rd enc size w lo hh A ys) (he : ∀ y, (enc y).length = size) (h1 : ∀ y, ∀ u ∈ enc y, u.oneCell' = true)
    (h63 : n + m ≤ maxLen) (hbytes : (n + m) * bytes ≤ 140737488355328) (hbase : base ≤ w.heap.size)
    (h : ∀ v' w', w'.ownsRow base e size v' (n + m) (xs ++ ys.flatMap enc) → w.grownBy w' v.ownBlock → K (a.put o.dst v') w') : o.wp P a w K Q := by
  subst hm
  obtain ⟨v', w', hrun, h2, h3⟩ := run_append_rd (P := P) w base t o.type e i z size bytes ht hi hz hsize hby hzs hsz v n xs hown A c lo hh ys hr he h1 h63 hbytes hbase
  unfold Oper.wp execOp
  simp only [ho, resolve, invoke, builtin, Sem.run_bind, Sem.run_pure, Result.andThen_ok, List.map_toArray, List.map_cons, List.map_nil, hs, hx, hrun]
  exact h v' w' h2 h3
theorem step_append_rd {w : World} {ops : Array Oper} {o : Oper} {a : Act} {K : Act → World → Prop} {Q : Exit → Act → World → Prop} {E : Prop} (hgd : o.guard = none) (s x : Operand) (t : TypeId)
    (ho : o.op = .call { callee := .builtin .append, args := #[s, x], argTypes := #[t, t] })
    (base : Nat) (e : TypeId) (i : TypeInfo) (z : Value) (size bytes : Nat) (ht : P.underlying t = some (.slice e)) (hi : P.info? e = some i) (hz : i.zero = some z)
    (hsize : i.size = size) (hby : i.bytes = bytes) (hzs : z.cells.size = size) (hsz : 0 < size) (v : Value) (n : Nat) (xs : List Value) (hs : a.eval s = v) (hown : w.ownsRow base e size v n xs)
    (A : Option Addr) (m c lo hh : Nat) (ys : List α) (hm : m = ys.length) (hx : a.eval x = .slice A m c) (hr : Rd enc size w lo hh A ys) (he : ∀ y, (enc y).length = size) (h1 : ∀ y, ∀ u ∈ enc y, u.oneCell' = true)
    (h63 : n + m ≤ maxLen) (hbytes : (n + m) * bytes ≤ 140737488355328) (hbase : base ≤ w.heap.size)
    (h : ∀ v' w', w'.ownsRow base e size v' (n + m) (xs ++ ys.flatMap enc) → w.grownBy w' v.ownBlock → K (a.put o.dst v') w') :
    if Region.wanted o (yielded ops a.tmps) = true then Oper.wp P o a w K Q else E := by
  rw [if_pos (by simp [Region.wanted, hgd])]
  exact wp_append_rd w s x t ho base e i z size bytes ht hi hz hsize hby hzs hsz v n xs hs hown A m c lo hh ys hm hx hr he h1 h63 hbytes hbase h
theorem wpList_append_rd (w : World) {ops : Array Oper} {rest : List Oper} {o : Oper} {a : Act} {Q : Exit → Act → World → Prop} (hgd : o.guard = none) (s x : Operand) (t : TypeId)
    (ho : o.op = .call { callee := .builtin .append, args := #[s, x], argTypes := #[t, t] })
    (base : Nat) (e : TypeId) (i : TypeInfo) (z : Value) (size bytes : Nat) (ht : P.underlying t = some (.slice e)) (hi : P.info? e = some i) (hz : i.zero = some z)
    (hsize : i.size = size) (hby : i.bytes = bytes) (hzs : z.cells.size = size) (hsz : 0 < size) (v : Value) (n : Nat) (xs : List Value) (hs : a.eval s = v) (hown : w.ownsRow base e size v n xs)
    (A : Option Addr) (c lo hh : Nat) (ys : List α) (hx : a.eval x = .slice A ys.length c) (hr : Rd enc size w lo hh A ys) (he : ∀ y, (enc y).length = size) (h1 : ∀ y, ∀ u ∈ enc y, u.oneCell' = true)
    (h63 : n + ys.length ≤ maxLen) (hbytes : (n + ys.length) * bytes ≤ 140737488355328) (hbase : base ≤ w.heap.size)
    (h : ∀ v' w', w'.ownsRow base e size v' (n + ys.length) (xs ++ ys.flatMap enc) → w.grownBy w' v.ownBlock → wpList P ops Q rest (a.put o.dst v') w') : wpList P ops Q (o :: rest) a w := by
  refine wpList_plain hgd fun K hK => ?_
  obtain ⟨v', w', hrun, h2, h3⟩ := run_append_rd (P := P) w base t o.type e i z size bytes ht hi hz hsize hby hzs hsz v n xs hown A c lo hh ys hr he h1 h63 hbytes hbase
  unfold Oper.wp execOp
  simp only [ho, resolve, invoke, builtin, Sem.run_bind, Sem.run_pure, Result.andThen_ok, List.map_toArray, List.map_cons, List.map_nil, hs, hx, hrun]
  exact hK _ _ (h v' w' h2 h3)
end
theorem flatMap_get {α β : Type} {enc : α → List β} {size : Nat} (he : ∀ y, (enc y).length = size) : ∀ (xs : List α) (i j : Nat) (x : α) (u : β), xs[i]? = some x → (enc x)[j]? = some u → (xs.flatMap enc)[i * size + j]? = some u := by
  intro xs
  induction xs with
  | nil => intro i j x u hx; simp at hx
  | cons y ys ih =>
    intro i j x u hx hu
    have hj : j < size := by have := (List.getElem?_eq_some_iff.1 hu).1; rw [he] at this; exact this
    cases i with
    | zero =>
      simp at hx; subst hx
      rw [List.flatMap_cons, List.getElem?_append_left (by rw [he]; omega)]; simpa using hu
    | succ i =>
      rw [List.flatMap_cons, List.getElem?_append_right (by rw [he, Nat.succ_mul]; omega), he]
      have e3 : (i + 1) * size + j - size = i * size + j := by rw [Nat.succ_mul]; omega
      rw [e3]
      exact ih i j x u (by simpa using hx) hu
/-- A row of the call's own reads as the list. -/
theorem ownsRow_rd {α : Type} {enc : α → List Value} {size : Nat} (he : ∀ y, (enc y).length = size) (hsz : 0 < size) {W : World} {base : Nat} {e : TypeId} {v : Value} {n : Nat} {xs : List α} (h : W.ownsRow base e size v n (xs.flatMap enc)) (hn : n = xs.length) :
    ∃ A c, v = .slice A xs.length c ∧ xs.length ≤ c ∧ Rd enc size W base W.heap.size A xs := by
  subst hn
  rcases h.2 with ⟨rfl, h0⟩ | ⟨g, cap, cur, rfl, hb, hg, hc, _, hsz', ht⟩
  · have : xs = [] := List.eq_nil_of_length_eq_zero h0
    subst this
    exact ⟨none, 0, rfl, Nat.le_refl _, Rd.nil⟩
  · refine ⟨some ⟨g, 0, none⟩, cap, rfl, hc, fun _ => ⟨g, 0, rfl, hb, (Array.getElem?_eq_some_iff.1 hg).1, fun i x hx j u hu => ?_⟩⟩
    rw [cell_of_row W g _ cur e (0, 0) hg]
    have hi : i < xs.length := (List.getElem?_eq_some_iff.1 hx).1
    have hj : j < size := by have := (List.getElem?_eq_some_iff.1 hu).1; rw [he] at this; exact this
    have hlt : i * size + j < xs.length * size := by
      calc i * size + j < i * size + size := by omega
        _ = (i + 1) * size := by rw [Nat.succ_mul]
        _ ≤ xs.length * size := Nat.mul_le_mul_right _ hi
    have h2 : (cur.toList.take (xs.length * size))[i * size + j]? = some u := by
      rw [ht]; exact flatMap_get he xs i j x u hx hu
    rw [List.getElem?_take_of_lt (by omega)] at h2
    have h3 : cur[0 + i * size + j]? = some u := by simpa [Nat.zero_add] using h2
    exact h3
/-- A new block that holds one value is a slice of length one. -/
theorem rd_new {α : Type} {enc : α → List Value} {size : Nat} (w : World) (x : α) (t : TypeId) (g : Nat) (hg : w.heap.size = g) : Rd enc size (w.alloc (.cells (enc x).toArray t)) 0 (g + 1) (some ⟨g, 0, none⟩) [x] := fun _ =>
  ⟨g, 0, rfl, Nat.zero_le _, by omega, fun i y hy j u hu => by
    match i, hy with
    | 0, hy =>
      simp at hy; subst hy
      rw [Nat.zero_mul, Nat.zero_add]
      subst hg
      rw [cell_of_row (w.alloc (.cells (enc x).toArray t)) w.heap.size _ (enc x).toArray t (0, 0) (heap_alloc_new w _)]
      simpa using hu⟩
end Go.Proofs.Ytepibjfmeibgcaa
