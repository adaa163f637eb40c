/- An abstract walk: maps from ints to ints. No program is in sight here. -/
import Derived.Test.YtepibjfmeibgcaaA25
import Derived.Test.YtepibjfmeibgcaaTab
import Derived.Maps.Views
namespace Go.Proofs.Ytepibjfmeibgcaa
open Go.RowKit
open Go.Maps (Keyed)
set_option linter.unusedVariables false
/-- A map's block, which has at most so many entries and comes to f. -/
def MapI (P : Program) (k : TypeId) (n : Nat) (f : Int → Option Int) (o : Obj) : Prop :=
  ∃ D : DataW Value, (∀ x, D.atKey (.int .i64 x) (.held (.int .i64 0)) = .held (.int .i64 ((f x).getD 0)) ∧ Maps.has D (.int .i64 x) = (f x).isSome) ∧ ∀ (w : World) (b : Nat), w.heap[b]? = some o → w.ownsMap P k rV b n D
/-- One entry more. -/
def putI (f : Int → Option Int) (x y : Int) (i : Int) : Option Int := if i = x then some y else f i
section
variable {P : Program} {k t e : TypeId} {n : Nat} {f : Int → Option Int}
theorem key_int (hk : P.underlying k = some (.int .i64)) {x : Int} (h : (Lit.int .i64 x).wf = true) : keyOf P k (.int .i64 x) = some (.int .i64 x) := by
  unfold keyOf
  rw [hk]
  simp [mapKey, hk, h]
theorem i64_wf {x : Int} (h0 : -9223372036854775808 ≤ x) (h1 : x < 9223372036854775808) : (Lit.int .i64 x).wf = true := by
  simp [Lit.wf, IntKind.min, IntKind.max, IntKind.signed, IntKind.bits]; omega
theorem map_two {m x : Operand} {a : Act} {u v : Value} {ys : List Value} (h : [m, x].map a.eval = [u, v]) : a.eval m = u ∧ a.eval x = v := by simpa using h
theorem act_lookI (hk : P.underlying k = some (.int .i64)) (ht : P.underlying t = some (.map k e)) (hz : ∀ W : World, (zeroValue e).run P W = .ok (.int .i64 0) W) {m x : Operand} {ty : TypeId} {id : Nat} {i v : Int} (h0 : -9223372036854775808 ≤ i) (h1 : i < 9223372036854775808) (hv : (f i).getD 0 = v) :
    ActOK P (.lookup t m x false) ty [.ls id, .i i] [id] [some (.mp (MapI P k n f))] (.i v) [] := by
  intro o a ν sup w ho hty hm hx K Q hK
  subst hv
  obtain ⟨b, ob, e1, hb, D, hD, hown⟩ := hm.cont id _ cnOf_one
  have hx' : a.eval m = ν id ∧ a.eval x = .int .i64 i := by simpa [Op.operands, SV.val, PV.val, LV.val] using hx
  rw [e1] at hx'
  obtain ⟨v, ps, hrun, hr⟩ := (hown w b hb).lookup (Go.Maps.int_keyed hk) ht (hz w) (show rV (.int .i64 0) = some (.held (.int .i64 0), []) from rfl) (key_int hk (i64_wf h0 h1))
  rw [(hD i).1] at hr
  simp only [rV, Option.some.injEq, Prod.mk.injEq, DataW.held.injEq] at hr
  obtain ⟨rfl, _⟩ := hr
  refine wp_of_value (v := .int .i64 ((f i).getD 0)) (w' := w) ?_ (hK ν sup w (Chg.nil hm.one))
  unfold execOp
  rw [ho]
  simp [hx'.1, hx'.2, hrun, Result.andThen]
theorem MapI.put (hk : P.underlying k = some (.int .i64)) {D : DataW Value} (hD : (Maps.IsMap D)) (hf : ∀ x, D.atKey (.int .i64 x) (.held (.int .i64 0)) = .held (.int .i64 ((f x).getD 0)) ∧ Maps.has D (.int .i64 x) = (f x).isSome) {i : Int} (hi : (Lit.int .i64 i).wf = true) (v : Int) :
    ∀ x, (D.put (.int .i64 i) (.held (.int .i64 v))).atKey (.int .i64 x) (.held (.int .i64 0)) = .held (.int .i64 (((putI f i v) x).getD 0)) ∧ Maps.has (D.put (.int .i64 i) (.held (.int .i64 v))) (.int .i64 x) = (putI f i v x).isSome := by
  intro x
  have hkey := (Go.Maps.int_keyed hk).key (key_int hk hi)
  unfold putI
  by_cases h : x = i
  · subst h
    rw [if_pos rfl, Maps.atKey_put_same hD hkey, Maps.has_put_same hD hkey]
    exact ⟨rfl, rfl⟩
  · have hne : Lit.int .i64 x ≠ Lit.int .i64 i := fun e => h (by cases e; rfl)
    rw [if_neg h, Maps.atKey_put_other hne, Maps.has_put_other hne]
    exact hf x
theorem act_putI (hk : P.underlying k = some (.int .i64)) (ht : P.underlying t = some (.map k e)) {op : Op} {m x y : Operand} (hop : op = .mapUpdate t m x y ∨ op = .insert t m x y) {ty : TypeId} {id : Nat} {i v : Int} (h0 : -9223372036854775808 ≤ i) (h1 : i < 9223372036854775808) (hn : n < 1000000000) :
    ActOK P op ty [.ls id, .i i, .i v] [id] [some (.mp (MapI P k n f))] (.v undef) [(id, some (.mp (MapI P k (n + 1) (putI f i v))))] := by
  intro o a ν sup w ho hty hm hx K Q hK
  obtain ⟨b, ob, e1, hb, D, hD, hown⟩ := hm.cont id _ cnOf_one
  have hx' : a.eval m = ν id ∧ a.eval x = .int .i64 i ∧ a.eval y = .int .i64 v := by
    rcases hop with rfl | rfl <;> simpa [Op.operands, SV.val, PV.val, LV.val] using hx
  rw [e1] at hx'
  have hM := hown w b hb
  obtain ⟨w', hrun, hown', hg⟩ := hM.update (Go.Maps.int_keyed hk) ht (by unfold maxLen; omega) (key_int hk (i64_wf h0 h1)) (show rV (.int .i64 v) = some (.held (.int .i64 v), []) from rfl)
  refine wp_of_skip (w' := w') ?_ (hK ν sup w' (Chg.mod1 hm cnOf_one rfl ((Fr.grown hg).mono fun q _ hq => by rw [e1]; exact hq) ?_))
  · unfold execOp
    rw [ho]
    rcases hop with rfl | rfl <;> simp [hx'.1, hx'.2.1, hx'.2.2, hrun, Result.andThen]
  · obtain ⟨es, clock, hb', r⟩ := hown'
    refine ⟨b, _, e1, hb', _, MapI.put hk hM.isMap hD (i64_wf h0 h1) v, fun w2 b2 h2 => ⟨es, clock, h2, r⟩⟩
theorem act_makeI {ty : TypeId} {id : Nat} : ActOK P (.makeMap t none) ty [] [] [] (.ls id) [(id, some (.mp (MapI P k 0 fun _ => none)))] := by
  intro o a ν sup w ho hty hm hx K Q hK
  refine wp_of_value (v := .map (some w.heap.size)) (w' := w.alloc (.map #[] 0)) ?_ ?_
  · unfold execOp
    rw [ho]
    simp [run_makeMap, Result.andThen]
  · have h := hK (upd ν id (.map (some w.heap.size))) (upd sup id fun _ => False) (w.alloc (.map #[] 0)) (Chg.new1 hm rfl rfl (Fr.alloc w _ _) ⟨w.heap.size, _, rfl, heap_alloc_new w _, .map [], fun x => ⟨rfl, rfl⟩, fun w2 b2 h2 => ?_⟩ (fun b h => h.elim) (fun _ b hb => by cases hb; exact Nat.le_refl _))
    · simpa [SV.val, PV.val, LV.val, upd_self] using h
    · obtain ⟨es, clock, h1, r⟩ := World.ownsMap_made w P k rV
      rw [heap_alloc_new] at h1
      cases h1
      exact ⟨_, _, h2, r⟩
end
end Go.Proofs.Ytepibjfmeibgcaa
