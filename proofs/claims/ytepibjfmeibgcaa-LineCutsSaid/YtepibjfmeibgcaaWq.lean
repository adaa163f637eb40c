/- What the planner keeps between its calls, and its deferred store. -/
import Derived.Test.YtepibjfmeibgcaaPm
import Derived.Test.YtepibjfmeibgcaaTab
import Derived.Test.YtepibjfmeibgcaaRg
import Derived.Test.YtepibjfmeibgcaaWm
import Derived.Defers
import Derived.BigRegion
import Derived.Deep.RegionHeld3
namespace Go.Proofs.Ytepibjfmeibgcaa
open Go.RowKit Go.Shelf
open Go.Maps (Keyed)
set_option linter.unusedVariables false
set_option maxRecDepth 100000 in
theorem laidOut_ : laidOutB Try.prog = true := by kernel_rfl
set_option maxRecDepth 100000 in
theorem wide_place : (match Try.prog.underlying 121 with | some (.array _ _) | some (.struct _) => true | _ => false) = true := by rw [Try.underlying121]
theorem row_place : (121 : TypeId) < Try.prog.types.size := of_decide_eq_true (by kernel_rfl)
set_option maxRecDepth 100000 in
theorem key_place : Keyed Try.prog 121 := Keyed.of_law (deep_law_laid laidOut_ (m := 2) (by omega) row_place (by kernel_rfl) wide_place)
abbrev keyV (node vac : Int) : Value := .agg #[.int .i64 node, .int .i64 vac]
abbrev choV (c : Cho) : Value := .agg #[.int .i64 c.index, .int .i64 c.cost, .int .i64 c.vac]
theorem cells_place : Try.prog.cellsOf 121 = 2 := by kernel_rfl
theorem cells_int : Try.prog.cellsOf 3 = 1 := by kernel_rfl
theorem keyOf_two {P : Program} {k ti : TypeId} {f0 f1 : Field} (hu : P.underlying k = some (.struct #[f0, f1])) (o0 : f0.offset = 0) (o1 : f1.offset = 1) (t0 : f0.type = ti) (t1 : f1.type = ti) (n0 : (f0.name != "_") = true) (n1 : (f1.name != "_") = true)
    (hk : P.keyType k = true) (hc : P.cellsOf k = 2) (hci : P.cellsOf ti = 1) (hui : P.underlying ti = some (.int .i64)) (hs : 0 < P.types.size) (a b : Int) (h1 : (Lit.int .i64 a).wf = true) (h2 : (Lit.int .i64 b).wf = true) :
    ∃ kl, keyOf P k (.agg #[.int .i64 a, .int .i64 b]) = some kl := by
  obtain ⟨m, hm⟩ : ∃ m, P.types.size = m + 1 := ⟨P.types.size - 1, by omega⟩
  exact ⟨.string (keyBytes [.int .i64 a, .int .i64 b]), by simp [keyOf, hu, hk, Value.formed, hc, Value.cells, hm, Program.keyLits, o0, o1, t0, t1, n0, n1, hci, hui, h1, h2]⟩
theorem keyType_place : Try.prog.keyType 121 = true := by kernel_rfl
theorem key_of (node vac : Int) (h1 : (Lit.int .i64 node).wf = true) (h2 : (Lit.int .i64 vac).wf = true) : ∃ kl, keyOf Try.prog 121 (keyV node vac) = some kl :=
  keyOf_two Try.underlying121 rfl rfl rfl rfl (by decide) (by decide) keyType_place cells_place cells_int Try.underlying3 (Nat.lt_of_le_of_lt (Nat.zero_le _) row_place) node vac h1 h2
/-- The entries of the planner's table are its choices. -/
def ChoGood (ps : List Pipe) (loads : List Int) (bores : List Bor) (need : Int) (key val : Value) : Prop :=
  ∃ (node : Nat) (vac : Int), node < ps.length ∧ 0 ≤ vac ∧ vac ≤ 10000 ∧ key = keyV node vac ∧ val = choV (atL ps loads bores need node vac)
def allKeys : List Value := (List.range 60).flatMap fun (i : Nat) => (List.range 10001).map fun (v : Nat) => keyV (i : Int) (v : Int)
theorem allKeys_len : allKeys.length < maxLen := by
  unfold allKeys maxLen
  rw [List.length_flatMap]
  simp only [List.length_map, List.length_range]
  have : ∀ n, ((List.range n).map fun _ => 10001).sum = n * 10001 := fun n => by
    induction n with
    | zero => rfl
    | succ n ih => rw [List.range_succ, List.map_append, List.sum_append, ih]; simp; omega
  rw [this]; omega
theorem choGood_key {ps : List Pipe} {loads : List Int} {bores : List Bor} {need : Int} (hn : ps.length ≤ 60) (x u : Value) (h : ChoGood ps loads bores need x u) : x ∈ allKeys := by
  obtain ⟨node, vac, h1, h2, h3, rfl, _⟩ := h
  unfold allKeys
  rw [List.mem_flatMap]
  refine ⟨node, List.mem_range.2 (by omega), List.mem_map.2 ⟨vac.toNat, List.mem_range.2 (by omega), ?_⟩⟩
  rw [show ((vac.toNat : Nat) : Int) = vac by omega]
theorem choGood_at {ps : List Pipe} {loads : List Int} {bores : List Bor} {need : Int} {node : Nat} {vac : Int} {u : Value} (h : ChoGood ps loads bores need (keyV node vac) u) : u = choV (atL ps loads bores need node vac) := by
  obtain ⟨n, v, _, _, _, hk, rfl⟩ := h
  simp [keyV] at hk
  obtain ⟨h1, rfl⟩ := hk
  rw [show n = node by omega]
/-- Every block before N but one is as it was. -/
def Kp (N bm : Nat) (W0 W : World) : Prop := N ≤ W.heap.size ∧ ∀ b, b < N → b ≠ bm → W.heap[b]? = W0.heap[b]?
def Far (N bm lo hi : Nat) : Prop := hi ≤ N ∧ (hi ≤ bm ∨ bm < lo)
theorem Kp.grown {N bm : Nat} {W0 W W' : World} (h : Kp N bm W0 W) (hg : W.grownBy W' (some bm)) : Kp N bm W0 W' :=
  ⟨Nat.le_trans h.1 hg.size, fun b h1 h2 => (hg.block b (by have := h.1; omega) (fun e => h2 (by cases e; rfl))).trans (h.2 b h1 h2)⟩
theorem Kp.rd {α : Type} {enc : α → List Value} {size : Nat} {N bm lo hi : Nat} {W0 W : World} {A : Option Addr} {xs : List α} (h : Kp N bm W0 W) (hr : Rd enc size W0 lo hi A xs) (hf : Far N bm lo hi) : Rd enc size W lo hi A xs :=
  hr.keep fun b o h1 h2 => by
    obtain ⟨f1, f2⟩ := hf
    exact World.cell?_of_block (w := W0) (h.2 b (by omega) (by rcases f2 with f2 | f2 <;> omega))
theorem Kp.blk {N bm g : Nat} {W0 W : World} {t : TypeId} {cs : Array Value} (h : Kp N bm W0 W) (hb : Blk W0 g t cs) (h1 : g < N) (h2 : g ≠ bm) : Blk W g t cs := (h.2 g h1 h2).trans hb
theorem grown_set {W V : World} {r : Option Nat} (h : W.grownBy V r) {p : Addr} (hp : W.heap.size ≤ p.block) (u : Value) : W.grownBy (V.setCell p u) r :=
  ⟨h.os, h.tape, h.output, by have := h.size; simpa [World.setCell] using this, fun k hk hr => (Below.heap_setCell _ _ _ _ (by omega)).trans (h.block k hk hr)⟩
theorem grown_alloc {W V : World} {r : Option Nat} (h : W.grownBy V r) (o : Obj) : W.grownBy (V.alloc o) r :=
  ⟨h.os, h.tape, h.output, by have := h.size; simp; omega, fun k hk hr => (Below.heap_alloc _ _ _ (by have := h.size; omega)).trans (h.block k hk hr)⟩
theorem grown_drew {W V : World} {r : Option Nat} (h : W.grownBy V r) : W.grownBy V.drew r := ⟨h.os, h.tape, h.output, h.size, h.block⟩
theorem grown_drewN_ {W V : World} {r : Option Nat} (h : W.grownBy V r) (n : Nat) : W.grownBy (V.drewN n) r := ⟨h.os, h.tape, h.output, h.size, h.block⟩
theorem grown_drewN {w w1 : World} {n : Nat} {r : Option Nat} (h : (w.drewN n).grownBy w1 r) : w.grownBy w1 r := ⟨h.os, h.tape, h.output, h.size, h.block⟩
/-- What the planner has, beside its table. -/
structure PlS (N bm : Nat) (W0 : World) (ps : List Pipe) (loads : List Int) (bores : List Bor) (need pump : Int) (bx bc : Nat) (A L B : Option Addr) (c cl cb : Nat) : Prop where
  x : Blk W0 bx 115 #[.int .i64 pump, .slice A ps.length c, .slice L loads.length cl, .slice (some ⟨bc, 0, none⟩) ps.length ps.length, .slice B bores.length cb, .int .i64 need, .map (some bm)]
  xN : bx < N
  xm : bx ≠ bm
  p : ∃ lo hi, RdP W0 lo hi A ps ∧ Far N bm lo hi
  l : ∃ lo hi, RdI W0 lo hi L loads ∧ Far N bm lo hi
  b : ∃ lo hi, RdO W0 lo hi B bores ∧ Far N bm lo hi
  k : ∀ i, i < ps.length → ∃ K kc lo hi, W0.cell? ⟨bc, i, none⟩ = some (.slice K (kids ps i).length kc) ∧ RdI W0 lo hi K ((kids ps i).map Int.ofNat) ∧ Far N bm lo hi
  kN : bc < N
  km : bc ≠ bm
abbrev PlT (ps : List Pipe) (loads : List Int) (bores : List Bor) (need : Int) (W : World) (bm : Nat) : Prop := TabP Try.prog 121 (ChoGood ps loads bores need) W bm
set_option maxHeartbeats 800000 in
set_option maxRecDepth 100000 in
theorem at1_ (ps : List Pipe) (loads : List Int) (bores : List Bor) (need pump : Int) (bx bm : Nat) (gc gx gp : Nat) (node : Nat) (vac : Int) (u : FrameMode) (w : World) (hT : PlT ps loads bores need w bm) (hn : ps.length ≤ 60) (hnode : node < ps.length) (h0 : 0 ≤ vac) (h1 : vac ≤ 10000)
    (c0 : w.cell? ⟨gc, 0, none⟩ = some (.int .i64 (atL ps loads bores need node vac).index)) (c1 : w.cell? ⟨gc, 1, none⟩ = some (.int .i64 (atL ps loads bores need node vac).cost)) (c2 : w.cell? ⟨gc, 2, none⟩ = some (.int .i64 (atL ps loads bores need node vac).vac))
    (x0 : w.cell? ⟨gx, 0, none⟩ = some (.pointer (some ⟨bx, 0, none⟩))) (p0 : w.cell? ⟨gp, 0, none⟩ = some (.int .i64 node)) (p1 : w.cell? ⟨gp, 1, none⟩ = some (.int .i64 vac)) (m0 : w.cell? ⟨bx, 6, none⟩ = some (.map (some bm))) :
    CallsD Try.prog 95 #[.pointer (some ⟨gc, 0, none⟩), .pointer (some ⟨gx, 0, none⟩), .pointer (some ⟨gp, 0, none⟩)] u w fun e u' w' => u' = u ∧ (e = .returned (.tuple #[]) ∧ PlT ps loads bores need w' bm ∧ w.grownBy w' (some bm)) := by
  obtain ⟨kl, hkey⟩ := key_of node vac (WalkArith.wf_i64 (by omega)) (WalkArith.wf_i64 (by omega))
  go_enter_d Try.func95, Try.ntmps95
  (refine wp_region_qt 6 (by kernel_rfl) (by kernel_rfl) (by kernel_rfl) ?_; simp only [List.take_succ_cons, List.take_zero, List.drop_succ_cons, List.drop_zero]; (repeat (go_big_quiet_step (fail))); refine wpQuiet_nil ?_; intro _ hw'; obtain ⟨nq, hw''⟩ := hw'; subst hw'')
  go_wp2_with (at_mapUpdate; refine wpList_tab_store _ rfl _ _ _ 113 rfl 121 118 key_place Try.underlying113 (ChoGood ps loads bores need) bm rfl (hT.drewN _) allKeys (choGood_key hn) allKeys_len (keyV node vac) (choV (atL ps loads bores need node vac)) kl rfl rfl hkey ⟨node, vac, hnode, h0, h1, rfl, rfl⟩ ?_; intro w1 hT1 hg1)
  go_end0
  exact ⟨rfl, hT1, grown_drewN hg1⟩
end Go.Proofs.Ytepibjfmeibgcaa
