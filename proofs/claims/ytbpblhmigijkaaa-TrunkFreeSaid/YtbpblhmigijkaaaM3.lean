/- An abstract walk: maps from ints to bools; bytes. No program is in sight here. -/
import Derived.Test.YtbpblhmigijkaaaA25
import Derived.Maps.Own
import Derived.Maps.OwnOps
import Derived.Maps.OwnSet
import Derived.DeepKeys4
import Derived.Maps.Views
namespace Go.Proofs.Ytbpblhmigijkaaa
open Go.RowKit
open Go.Maps (Keyed)
set_option linter.unusedVariables false
/-- An element stands for itself. -/
def rU (v : Value) : Option (DataW Value × List MemPlace) := some (.held v, [])
/-- A map's block, which has at most so many entries and comes to f. -/
def MapB (P : Program) (k : TypeId) (n : Nat) (f : Int → Bool) (o : Obj) : Prop :=
  ∃ D : DataW Value, (∀ x, D.atKey (.int .i64 x) (.held (.bool false)) = .held (.bool (f x))) ∧ ∀ (w : World) (b : Nat), w.heap[b]? = some o → w.ownsMap P k rU b n D
section
variable {P : Program} {k t e : TypeId} {n : Nat} {f f' : Int → Bool}
theorem keyB_int (hk : P.underlying k = some (.int .i64)) {x : Int} (h : (Lit.int .i64 x).wf = true) : keyOf P k (.int .i64 x) = some (.int .i64 x) := by
  unfold keyOf
  rw [hk]
  simp [mapKey, hk, h]
theorem wf_i64 {x : Int} (h0 : -9223372036854775808 ≤ x) (h1 : x < 9223372036854775808) : (Lit.int .i64 x).wf = true := by
  simp [Lit.wf, IntKind.min, IntKind.max, IntKind.signed, IntKind.bits]; omega
theorem act_lookB (hk : P.underlying k = some (.int .i64)) (ht : P.underlying t = some (.map k e)) (hz : ∀ W : World, (zeroValue e).run P W = .ok (.bool false) W) {m x : Operand} {ty : TypeId} {id : Nat} {i : Int} {v : Bool} (h0 : -9223372036854775808 ≤ i) (h1 : i < 9223372036854775808) (hv : f i = v) :
    ActOK P (.lookup t m x false) ty [.ls id, .i i] [id] [some (.mp (MapB P k n f))] (.b v) [] := by
  intro o a ν sup w ho hty hm hx K Q hK
  subst hv
  obtain ⟨b, ob, e1, hb, D, hD, hown⟩ := hm.cont id _ cnOf_one
  have hx' : a.eval m = ν id ∧ a.eval x = .int .i64 i := by simpa [Op.operands, SV.val, PV.val, LV.val] using hx
  rw [e1] at hx'
  obtain ⟨v, ps, hrun, hr⟩ := (hown w b hb).lookup (Go.Maps.int_keyed hk) ht (hz w) (show rU (.bool false) = some (.held (.bool false), []) from rfl) (keyB_int hk (wf_i64 h0 h1))
  rw [hD i] at hr
  simp only [rU, Option.some.injEq, Prod.mk.injEq, DataW.held.injEq] at hr
  obtain ⟨rfl, _⟩ := hr
  refine wp_of_value (v := .bool (f i)) (w' := w) ?_ (hK ν sup w (Chg.nil hm.one))
  unfold execOp
  rw [ho]
  simp [hx'.1, hx'.2, hrun, Result.andThen]
theorem act_putB (hk : P.underlying k = some (.int .i64)) (ht : P.underlying t = some (.map k e)) {op : Op} {m x y : Operand} (hop : op = .mapUpdate t m x y ∨ op = .insert t m x y) {ty : TypeId} {id : Nat} {i : Int} {v : Bool} (h0 : -9223372036854775808 ≤ i) (h1 : i < 9223372036854775808) (hn : n < 1000000000) (hf : ∀ z, f' z = if z = i then v else f z) :
    ActOK P op ty [.ls id, .i i, .b v] [id] [some (.mp (MapB P k n f))] (.v undef) [(id, some (.mp (MapB P k (n + 1) f')))] := by
  intro o a ν sup w ho hty hm hx K Q hK
  obtain ⟨b, ob, e1, hb, D, hD, hown⟩ := hm.cont id _ cnOf_one
  have hx' : a.eval m = ν id ∧ a.eval x = .int .i64 i ∧ a.eval y = .bool v := by
    rcases hop with rfl | rfl <;> simpa [Op.operands, SV.val, PV.val, LV.val] using hx
  rw [e1] at hx'
  have hM := hown w b hb
  obtain ⟨w', hrun, hown', hg⟩ := hM.update (Go.Maps.int_keyed hk) ht (by unfold maxLen; omega) (keyB_int hk (wf_i64 h0 h1)) (show rU (.bool v) = some (.held (.bool v), []) from rfl)
  refine wp_of_skip (w' := w') ?_ (hK ν sup w' (Chg.mod1 hm cnOf_one rfl ((Fr.grown hg).mono fun q _ hq => by rw [e1]; exact hq) ?_))
  · unfold execOp
    rw [ho]
    rcases hop with rfl | rfl <;> simp [hx'.1, hx'.2.1, hx'.2.2, hrun, Result.andThen]
  · obtain ⟨es, clock, hb', r⟩ := hown'
    refine ⟨b, _, e1, hb', _, fun z => ?_, fun w2 b2 h2 => ⟨es, clock, h2, r⟩⟩
    have hkey := (Go.Maps.int_keyed hk).key (keyB_int hk (wf_i64 h0 h1))
    rw [hf z]
    by_cases h : z = i
    · subst h
      rw [if_pos rfl, Maps.atKey_put_same hM.isMap hkey]
    · have hne : Lit.int .i64 z ≠ Lit.int .i64 i := fun e => h (by cases e; rfl)
      rw [if_neg h, Maps.atKey_put_other hne]
      exact hD z
theorem act_makeB {ty : TypeId} {id : Nat} : ActOK P (.makeMap t none) ty [] [] [] (.ls id) [(id, some (.mp (MapB P k 0 fun _ => false)))] := by
  intro o a ν sup w ho hty hm hx K Q hK
  refine wp_of_value (v := .map (some w.heap.size)) (w' := w.alloc (.map #[] 0)) ?_ ?_
  · unfold execOp
    rw [ho]
    simp [run_makeMap, Result.andThen]
  · have h := hK (upd ν id (.map (some w.heap.size))) (upd sup id fun _ => False) (w.alloc (.map #[] 0)) (Chg.new1 hm rfl rfl (Fr.alloc w _ _) ⟨w.heap.size, _, rfl, heap_alloc_new w _, .map [], fun x => rfl, fun w2 b2 h2 => ?_⟩ (fun b h => h.elim) (fun _ b hb => by cases hb; exact Nat.le_refl _))
    · simpa [SV.val, PV.val, LV.val, upd_self] using h
    · obtain ⟨es, clock, h1, r⟩ := World.ownsMap_made w P k rU
      rw [heap_alloc_new] at h1
      cases h1
      exact ⟨_, _, h2, r⟩
end
/-- Is it in the list? -/
def memB (l : List Int) (i : Int) : Bool := decide (i ∈ l)
theorem memB_snoc {l : List Int} {k : Nat} (hk : k < l.length) : ∀ z, memB (l.take (k + 1)) z = if z = ix l k then true else memB (l.take k) z := fun z => by
  have e : l.take (k + 1) = l.take k ++ [ix l k] := by
    rw [List.take_succ_eq_append_getElem hk]
    congr 2
    unfold ix
    rw [List.getD_eq_getElem?_getD, List.getElem?_eq_getElem hk]
    rfl
  unfold memB
  rw [e]
  by_cases h : z = ix l k
  · simp [h]
  · simp [h]
theorem memB_none : (fun _ => false) = memB [] := by
  funext z
  simp [memB]
theorem mapB_zero {P : Program} {k : TypeId} {n : Nat} {l : List Int} (o : Obj) (h : MapB P k n (fun _ => false) o) : MapB P k n (memB (l.take 0)) o := by
  rw [List.take_zero, ← memB_none]
  exact h
theorem memB_all {l : List Int} {k : Nat} (h : l.length ≤ k) : memB (l.take k) = memB l := by rw [List.take_of_length_le h]
end Go.Proofs.Ytbpblhmigijkaaa
