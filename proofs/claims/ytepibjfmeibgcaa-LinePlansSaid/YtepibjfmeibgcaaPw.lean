/- The document's planner: the keys of its table, and what its entries are. -/
import Derived.Test.YtepibjfmeibgcaaPy
namespace Go.Proofs.Ytepibjfmeibgcaa
open Go.RowKit
open Go.Maps (Keyed)
set_option linter.unusedVariables false
set_option maxRecDepth 100000 in
theorem wide_two : (match Try.prog.underlying 155 with | some (.array _ _) | some (.struct _) => true | _ => false) = true := by rw [Try.underlying155]
theorem row_two : (155 : TypeId) < Try.prog.types.size := of_decide_eq_true (by kernel_rfl)
set_option maxRecDepth 100000 in
theorem key_two : Keyed Try.prog 155 := Keyed.of_law (deep_law_laid laidOut_ (m := 2) (by omega) row_two (by kernel_rfl) wide_two)
theorem cells_two : Try.prog.cellsOf 155 = 2 := by kernel_rfl
theorem keyOf_arr {P : Program} {k ti : TypeId} (hu : P.underlying k = some (.array 2 ti)) (hk : P.keyType k = true) (hc : P.cellsOf k = 2) (hci : P.cellsOf ti = 1) (hui : P.underlying ti = some (.int .i64)) (hs : 0 < P.types.size) (a b : Int) (h1 : (Lit.int .i64 a).wf = true) (h2 : (Lit.int .i64 b).wf = true) :
    ∃ kl, keyOf P k (.agg #[.int .i64 a, .int .i64 b]) = some kl := by
  obtain ⟨m, hm⟩ : ∃ m, P.types.size = m + 1 := ⟨P.types.size - 1, by omega⟩
  exact ⟨.string (keyBytes [.int .i64 a, .int .i64 b]), by simp [keyOf, hu, hk, Value.formed, hc, Value.cells, hm, Program.keyLits, hci, hui, h1, h2, List.range, List.range.loop]⟩
theorem keyType_two : Try.prog.keyType 155 = true := by kernel_rfl
theorem key_of2 (node vac : Int) (h1 : (Lit.int .i64 node).wf = true) (h2 : (Lit.int .i64 vac).wf = true) : ∃ kl, keyOf Try.prog 155 (keyV node vac) = some kl :=
  keyOf_arr Try.underlying155 keyType_two cells_two cells_int Try.underlying3 (Nat.lt_of_le_of_lt (Nat.zero_le _) row_two) node vac h1 h2
/-- The entries of the table are the least costs. -/
def CostGood (ps : List Pipe) (loads : List Int) (bores : List Bor) (need : Int) (key val : Value) : Prop :=
  ∃ (node : Nat) (vac : Int), node < ps.length ∧ 0 ≤ vac ∧ vac ≤ 10000 ∧ key = keyV node vac ∧ val = .int .i64 (refC (atL ps loads bores need node vac))
theorem costGood_key {ps : List Pipe} {loads : List Int} {bores : List Bor} {need : Int} (hn : ps.length ≤ 60) (x u : Value) (h : CostGood ps loads bores need x u) : x ∈ allKeys := by
  obtain ⟨node, vac, h1, h2, h3, rfl, _⟩ := h
  unfold allKeys
  rw [List.mem_flatMap]
  refine ⟨node, List.mem_range.2 (by omega), List.mem_map.2 ⟨vac.toNat, List.mem_range.2 (by omega), ?_⟩⟩
  rw [show ((vac.toNat : Nat) : Int) = vac by omega]
theorem costGood_at {ps : List Pipe} {loads : List Int} {bores : List Bor} {need : Int} {node : Nat} {vac : Int} {u : Value} (h : CostGood ps loads bores need (keyV node vac) u) : u = .int .i64 (refC (atL ps loads bores need node vac)) := by
  obtain ⟨n, v, _, _, _, hk, rfl⟩ := h
  simp [keyV] at hk
  obtain ⟨h1, rfl⟩ := hk
  rw [show n = node by omega]
/-- What the planner's table is known to be. -/
abbrev CostM (ps : List Pipe) (loads : List Int) (bores : List Bor) (need : Int) : Obj → Prop := MapG Try.prog 155 (CostGood ps loads bores need)
section
variable {ps : List Pipe} {loads : List Int} {bores : List Bor} {need : Int} {node : Nat} {vac : Int} (hn : ps.length ≤ 60) (hk : node < ps.length) (v0 : 0 ≤ vac) (v1 : vac ≤ 10000)
include hn hk v0 v1
theorem cost_look {m x : Operand} {ty : TypeId} {id : Nat} (es : { es // GoodEs Try.prog 155 (CostGood ps loads bores need) es }) :
    ∃ (z : Int) (is : Bool), (is = true → z = refC (atL ps loads bores need node vac)) ∧ ActOK Try.prog (.lookup 124 m x true) ty [.ls id, .agg [.i node, .i vac]] [id] [some (.mp (MapE Try.prog 155 es.1))] (.tup [.one (.i z), .one (.v (.bool is))]) [] := by
  obtain ⟨kl, hkl⟩ := key_of2 (node : Int) vac (i64_wf (by omega) (by omega)) (i64_wf (by omega) (by omega))
  obtain ⟨v, is, h1, h2, h3⟩ := act_lookG (m := m) (x := x) (ty := ty) (id := id) key_two Try.underlying124 (z := .int .i64 0) (fun W => by kernel_rfl) (key := .agg [.i node, .i vac]) (kv := keyV node vac) (fun ν => rfl) hkl es
  cases is with
  | true =>
    have := costGood_at (h1 rfl)
    subst this
    exact ⟨_, true, fun _ => rfl, h3 rfl⟩
  | false =>
    have := h2 rfl
    subst this
    exact ⟨0, false, fun h => Bool.noConfusion h, h3 rfl⟩
theorem cost_put {m x y : Operand} {ty : TypeId} {id : Nat} {z : Int} (hz : z = refC (atL ps loads bores need node vac)) :
    ActOK Try.prog (.mapUpdate 124 m x y) ty [.ls id, .agg [.i node, .i vac], .i z] [id] [some (.mp (CostM ps loads bores need))] (.v undef) [(id, some (.mp (CostM ps loads bores need)))] := by
  obtain ⟨kl, hkl⟩ := key_of2 (node : Int) vac (i64_wf (by omega) (by omega)) (i64_wf (by omega) (by omega))
  exact act_putG key_two Try.underlying124 allKeys (costGood_key hn) allKeys_len (kv := keyV node vac) (fun ν => rfl) hkl (u := .int .i64 z) (fun ν => rfl) ⟨node, vac, hk, v0, v1, rfl, by rw [hz]⟩
end
def leftZ (p : Pipe) (b : Bor) (need vac load : Int) : Int := if 0 < p.taps ∧ vacB p b vac load < need then -1 else vacB p b vac load
end Go.Proofs.Ytepibjfmeibgcaa
