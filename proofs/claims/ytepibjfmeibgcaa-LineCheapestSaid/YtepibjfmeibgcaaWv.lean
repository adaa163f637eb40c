/- What the planner keeps between its calls, and its deferred store. -/
import Derived.Test.YtepibjfmeibgcaaPm
import Derived.Test.YtepibjfmeibgcaaTab
import Derived.Test.YtepibjfmeibgcaaRg
import Derived.Test.YtepibjfmeibgcaaWm
import Derived.Defers
import Derived.BigRegion
import Derived.Deep.RegionHeld3
import Derived.IntWalk
import Derived.Test.YtepibjfmeibgcaaWu
import Derived.Deep.RegionLaw
namespace Go.Proofs.Ytepibjfmeibgcaa
open Go.RowKit Go.Shelf
open Go.Maps (Keyed)
set_option linter.unusedVariables false
set_option maxRecDepth 100000 in
theorem laidOut_ : laidOutB Try.prog = true := by kernel_rfl
set_option maxRecDepth 100000 in
theorem wide_place : (match Try.prog.underlying 121 with | some (.array _ _) | some (.struct _) => true | _ => false) = true := by rw [Try.underlying121]
theorem row_place : (121 : TypeId) < Try.prog.types.size := of_decide_eq_true (by kernel_rfl)
set_option maxRecDepth 100000 in
theorem key_place : Keyed Try.prog 121 := Keyed.of_law (deep_law_laid laidOut_ (m := 2) (by omega) row_place (by kernel_rfl) wide_place)
abbrev keyV (node vac : Int) : Value := .agg #[.int .i64 node, .int .i64 vac]
abbrev choV (c : Cho) : Value := .agg #[.int .i64 c.index, .int .i64 c.cost, .int .i64 c.vac]
theorem cells_place : Try.prog.cellsOf 121 = 2 := by kernel_rfl
theorem cells_int : Try.prog.cellsOf 3 = 1 := by kernel_rfl
theorem keyOf_two {P : Program} {k ti : TypeId} {f0 f1 : Field} (hu : P.underlying k = some (.struct #[f0, f1])) (o0 : f0.offset = 0) (o1 : f1.offset = 1) (t0 : f0.type = ti) (t1 : f1.type = ti) (n0 : (f0.name != "_") = true) (n1 : (f1.name != "_") = true)
    (hk : P.keyType k = true) (hc : P.cellsOf k = 2) (hci : P.cellsOf ti = 1) (hui : P.underlying ti = some (.int .i64)) (hs : 0 < P.types.size) (a b : Int) (h1 : (Lit.int .i64 a).wf = true) (h2 : (Lit.int .i64 b).wf = true) :
    ∃ kl, keyOf P k (.agg #[.int .i64 a, .int .i64 b]) = some kl := by
  obtain ⟨m, hm⟩ : ∃ m, P.types.size = m + 1 := ⟨P.types.size - 1, by omega⟩
  exact ⟨.string (keyBytes [.int .i64 a, .int .i64 b]), by simp [keyOf, hu, hk, Value.formed, hc, Value.cells, hm, Program.keyLits, o0, o1, t0, t1, n0, n1, hci, hui, h1, h2]⟩
theorem keyType_place : Try.prog.keyType 121 = true := by kernel_rfl
theorem key_of (node vac : Int) (h1 : (Lit.int .i64 node).wf = true) (h2 : (Lit.int .i64 vac).wf = true) : ∃ kl, keyOf Try.prog 121 (keyV node vac) = some kl :=
  keyOf_two Try.underlying121 rfl rfl rfl rfl (by decide) (by decide) keyType_place cells_place cells_int Try.underlying3 (Nat.lt_of_le_of_lt (Nat.zero_le _) row_place) node vac h1 h2
/-- The entries of the planner's table are its choices. -/
def ChoGood (ps : List Pipe) (loads : List Int) (bores : List Bor) (need : Int) (key val : Value) : Prop :=
  ∃ (node : Nat) (vac : Int), node < ps.length ∧ 0 ≤ vac ∧ vac ≤ 10000 ∧ key = keyV node vac ∧ val = choV (atL ps loads bores need node vac)
def allKeys : List Value := (List.range 60).flatMap fun (i : Nat) => (List.range 10001).map fun (v : Nat) => keyV (i : Int) (v : Int)
theorem allKeys_len : allKeys.length < maxLen := by
  unfold allKeys maxLen
  rw [List.length_flatMap]
  simp only [List.length_map, List.length_range]
  have : ∀ n, ((List.range n).map fun _ => 10001).sum = n * 10001 := fun n => by
    induction n with
    | zero => rfl
    | succ n ih => rw [List.range_succ, List.map_append, List.sum_append, ih]; simp; omega
  rw [this]; omega
theorem choGood_key {ps : List Pipe} {loads : List Int} {bores : List Bor} {need : Int} (hn : ps.length ≤ 60) (x u : Value) (h : ChoGood ps loads bores need x u) : x ∈ allKeys := by
  obtain ⟨node, vac, h1, h2, h3, rfl, _⟩ := h
  unfold allKeys
  rw [List.mem_flatMap]
  refine ⟨node, List.mem_range.2 (by omega), List.mem_map.2 ⟨vac.toNat, List.mem_range.2 (by omega), ?_⟩⟩
  rw [show ((vac.toNat : Nat) : Int) = vac by omega]
theorem choGood_at {ps : List Pipe} {loads : List Int} {bores : List Bor} {need : Int} {node : Nat} {vac : Int} {u : Value} (h : ChoGood ps loads bores need (keyV node vac) u) : u = choV (atL ps loads bores need node vac) := by
  obtain ⟨n, v, _, _, _, hk, rfl⟩ := h
  simp [keyV] at hk
  obtain ⟨h1, rfl⟩ := hk
  rw [show n = node by omega]
/-- Every block before N but one is as it was. -/
def Kp (N bm : Nat) (W0 W : World) : Prop := N ≤ W.heap.size ∧ ∀ b, b < N → b ≠ bm → W.heap[b]? = W0.heap[b]?
def Far (N bm lo hi : Nat) : Prop := hi ≤ N ∧ (hi ≤ bm ∨ bm < lo)
theorem Kp.grown {N bm : Nat} {W0 W W' : World} (h : Kp N bm W0 W) (hg : W.grownBy W' (some bm)) : Kp N bm W0 W' :=
  ⟨Nat.le_trans h.1 hg.size, fun b h1 h2 => (hg.block b (by have := h.1; omega) (fun e => h2 (by cases e; rfl))).trans (h.2 b h1 h2)⟩
theorem Kp.rd {α : Type} {enc : α → List Value} {size : Nat} {N bm lo hi : Nat} {W0 W : World} {A : Option Addr} {xs : List α} (h : Kp N bm W0 W) (hr : Rd enc size W0 lo hi A xs) (hf : Far N bm lo hi) : Rd enc size W lo hi A xs :=
  hr.keep fun b o h1 h2 => by
    obtain ⟨f1, f2⟩ := hf
    exact World.cell?_of_block (w := W0) (h.2 b (by omega) (by rcases f2 with f2 | f2 <;> omega))
theorem Kp.blk {N bm g : Nat} {W0 W : World} {t : TypeId} {cs : Array Value} (h : Kp N bm W0 W) (hb : Blk W0 g t cs) (h1 : g < N) (h2 : g ≠ bm) : Blk W g t cs := (h.2 g h1 h2).trans hb
theorem grown_set {W V : World} {r : Option Nat} (h : W.grownBy V r) {p : Addr} (hp : W.heap.size ≤ p.block) (u : Value) : W.grownBy (V.setCell p u) r :=
  ⟨h.os, h.tape, h.output, by have := h.size; simpa [World.setCell] using this, fun k hk hr => (Below.heap_setCell _ _ _ _ (by omega)).trans (h.block k hk hr)⟩
theorem grown_alloc {W V : World} {r : Option Nat} (h : W.grownBy V r) (o : Obj) : W.grownBy (V.alloc o) r :=
  ⟨h.os, h.tape, h.output, by have := h.size; simp; omega, fun k hk hr => (Below.heap_alloc _ _ _ (by have := h.size; omega)).trans (h.block k hk hr)⟩
theorem grown_drew {W V : World} {r : Option Nat} (h : W.grownBy V r) : W.grownBy V.drew r := ⟨h.os, h.tape, h.output, h.size, h.block⟩
theorem grown_drewN_ {W V : World} {r : Option Nat} (h : W.grownBy V r) (n : Nat) : W.grownBy (V.drewN n) r := ⟨h.os, h.tape, h.output, h.size, h.block⟩
theorem grown_drewN {w w1 : World} {n : Nat} {r : Option Nat} (h : (w.drewN n).grownBy w1 r) : w.grownBy w1 r := ⟨h.os, h.tape, h.output, h.size, h.block⟩
/-- What the planner has, beside its table. -/
structure PlS (N bm : Nat) (W0 : World) (ps : List Pipe) (loads : List Int) (bores : List Bor) (need pump : Int) (bx bc : Nat) (A L B : Option Addr) (c cl cb : Nat) : Prop where
  x : Blk W0 bx 115 #[.int .i64 pump, .slice A ps.length c, .slice L loads.length cl, .slice (some ⟨bc, 0, none⟩) ps.length ps.length, .slice B bores.length cb, .int .i64 need, .map (some bm)]
  xN : bx < N
  xm : bx ≠ bm
  p : ∃ lo hi, RdP W0 lo hi A ps ∧ Far N bm lo hi
  l : ∃ lo hi, RdI W0 lo hi L loads ∧ Far N bm lo hi
  b : ∃ lo hi, RdO W0 lo hi B bores ∧ Far N bm lo hi
  k : ∀ i, i < ps.length → ∃ K kc lo hi, W0.cell? ⟨bc, i, none⟩ = some (.slice K (kids ps i).length kc) ∧ RdI W0 lo hi K ((kids ps i).map Int.ofNat) ∧ Far N bm lo hi
  kN : bc < N
  km : bc ≠ bm
abbrev PlT (ps : List Pipe) (loads : List Int) (bores : List Bor) (need : Int) (W : World) (bm : Nat) : Prop := TabP Try.prog 121 (ChoGood ps loads bores need) W bm
set_option maxHeartbeats 800000 in
set_option maxRecDepth 100000 in
theorem at1_ (ps : List Pipe) (loads : List Int) (bores : List Bor) (need pump : Int) (bx bm : Nat) (gc gx gp : Nat) (node : Nat) (vac : Int) (u : FrameMode) (w : World) (hT : PlT ps loads bores need w bm) (hn : ps.length ≤ 60) (hnode : node < ps.length) (h0 : 0 ≤ vac) (h1 : vac ≤ 10000)
    (c0 : w.cell? ⟨gc, 0, none⟩ = some (.int .i64 (atL ps loads bores need node vac).index)) (c1 : w.cell? ⟨gc, 1, none⟩ = some (.int .i64 (atL ps loads bores need node vac).cost)) (c2 : w.cell? ⟨gc, 2, none⟩ = some (.int .i64 (atL ps loads bores need node vac).vac))
    (x0 : w.cell? ⟨gx, 0, none⟩ = some (.pointer (some ⟨bx, 0, none⟩))) (p0 : w.cell? ⟨gp, 0, none⟩ = some (.int .i64 node)) (p1 : w.cell? ⟨gp, 1, none⟩ = some (.int .i64 vac)) (m0 : w.cell? ⟨bx, 6, none⟩ = some (.map (some bm))) :
    CallsD Try.prog 95 #[.pointer (some ⟨gc, 0, none⟩), .pointer (some ⟨gx, 0, none⟩), .pointer (some ⟨gp, 0, none⟩)] u w fun e u' w' => u' = u ∧ (e = .returned (.tuple #[]) ∧ PlT ps loads bores need w' bm ∧ w.grownBy w' (some bm)) := by
  obtain ⟨kl, hkey⟩ := key_of node vac (WalkArith.wf_i64 (by omega)) (WalkArith.wf_i64 (by omega))
  go_enter_d Try.func95, Try.ntmps95
  (refine wp_region_qt 6 (by kernel_rfl) (by kernel_rfl) (by kernel_rfl) ?_; simp only [List.take_succ_cons, List.take_zero, List.drop_succ_cons, List.drop_zero]; (repeat (go_big_quiet_step (fail))); refine wpQuiet_nil ?_; intro _ hw'; obtain ⟨nq, hw''⟩ := hw'; subst hw'')
  go_wp2_with (at_mapUpdate; refine wpList_tab_store _ rfl _ _ _ 113 rfl 121 118 key_place Try.underlying113 (ChoGood ps loads bores need) bm rfl (hT.drewN _) allKeys (choGood_key hn) allKeys_len (keyV node vac) (choV (atL ps loads bores need node vac)) kl rfl rfl hkey ⟨node, vac, hnode, h0, h1, rfl, rfl⟩ ?_; intro w1 hT1 hg1)
  go_end0
  exact ⟨rfl, hT1, grown_drewN hg1⟩
end Go.Proofs.Ytepibjfmeibgcaa
/- What the planner's sum over the children returns. -/
namespace Go.Proofs.Ytepibjfmeibgcaa
open Go.RowKit Go.Shelf
open Go.Maps (Keyed)
/-- What the planner was given is well. -/
structure PlOk (ps : List Pipe) (loads : List Int) (bores : List Bor) (need pump : Int) : Prop where
  t : Tree ps
  n : ps.length ≤ 60
  ll : loads.length = ps.length
  l : ∀ j, 0 ≤ loads.getD j 0 ∧ loads.getD j 0 ≤ 60000000000
  p : ∀ j, 0 < j → j < ps.length → PipeOk (pAt ps j)
  b : boresB bores = true
  bn : bores.length ≤ 6
  need : 0 ≤ need ∧ need ≤ 10000
theorem atL_bd {ps : List Pipe} {loads : List Int} {bores : List Bor} {need pump : Int} (h : PlOk ps loads bores need pump) {node : Nat} {vac : Int} (h0 : 0 < node) (hn : node < ps.length) (v0 : 0 ≤ vac) (v1 : vac ≤ 10000) :
    -1 ≤ (atL ps loads bores need node vac).index ∧ (atL ps loads bores need node vac).index < 6 ∧ 0 ≤ (atL ps loads bores need node vac).cost ∧ (atL ps loads bores need node vac).cost ≤ 6000000000 ∧ 0 ≤ (atL ps loads bores need node vac).vac ∧ (atL ps loads bores need node vac).vac ≤ 10000 := by
  obtain ⟨a1, a2, a3, a4, a5, a6⟩ := atF_ok (need := need) h.t h.l h.p h.b (ps.length - node) node vac h0 hn v0 v1
  have w := wL_bd h.t (M := 100000000) (by omega) hn
  have hb := h.bn
  have hl := h.n
  unfold wL at w
  unfold atL
  exact ⟨a1, by omega, a3, by omega, a5, a6⟩
def AtR (N bm : Nat) (W0 : World) (ps : List Pipe) (loads : List Int) (bores : List Bor) (need : Int) (bx node : Nat) (vac : Int) : Prop :=
  ∀ W, Kp N bm W0 W → PlT ps loads bores need W bm → Calls Try.prog 63 #[.pointer (some ⟨bx, 0, none⟩), keyV node vac] W fun e W' => e = .returned (choV (atL ps loads bores need node vac)) ∧ PlT ps loads bores need W' bm ∧ W.grownBy W' (some bm)
def AllR (N bm : Nat) (W0 : World) (ps : List Pipe) (loads : List Int) (bores : List Bor) (need : Int) (bx node : Nat) (vac : Int) : Prop :=
  ∀ W, Kp N bm W0 W → PlT ps loads bores need W bm → Calls Try.prog 62 #[.pointer (some ⟨bx, 0, none⟩), .int .i64 node, .int .i64 vac] W fun e W' => e = .returned (.tuple #[.int .i64 (allF (atL ps loads bores need) vac (kids ps node) 0).1, .bool (allF (atL ps loads bores need) vac (kids ps node) 0).2]) ∧ PlT ps loads bores need W' bm ∧ W.grownBy W' (some bm)
theorem allF_step (rec : Nat → Int → Cho) (v : Int) (ks : List Nat) (k : Nat) (hk : k < ks.length) (s : Int) : allF rec v (ks.drop k) s = if (rec ks[k] v).index < 0 then (0, false) else allF rec v (ks.drop (k + 1)) (s + (rec ks[k] v).cost) := by
  rw [List.drop_eq_getElem_cons hk]; rfl
set_option maxHeartbeats 1000000 in
set_option maxRecDepth 100000 in
theorem all_ (N bm : Nat) (W0 : World) (ps : List Pipe) (loads : List Int) (bores : List Bor) (need pump : Int) (bx bc node : Nat) (vac : Int) (A L B : Option Addr) (c cl cb : Nat) (hS : PlS N bm W0 ps loads bores need pump bx bc A L B c cl cb) (hok : PlOk ps loads bores need pump)
    (hn : node < ps.length) (v0 : 0 ≤ vac) (v1 : vac ≤ 10000) (hat : ∀ k ∈ kids ps node, AtR N bm W0 ps loads bores need bx k vac) : AllR N bm W0 ps loads bores need bx node vac := by
  intro W hK hT
  obtain ⟨A1, kc, lo, hi, k0, kr, kf⟩ := hS.k node hn
  have kcell := Lib.hid (hK.2 bc hS.kN hS.km)
  have hX := hK.blk hS.x hS.xN hS.xm
  have x3 := hX.cell 3
  simp at x3
  have k1 : W.cell? ⟨bc, node, none⟩ = some (.slice A1 (kids ps node).length kc) := (World.cell?_of_block (w := W0) kcell.out).trans k0
  have hlen : (kids ps node).length ≤ 60 := by
    have := hok.n
    have h := List.length_filter_le (fun (j : Nat) => decide (0 < j ∧ par ps j = node)) (List.range ps.length)
    unfold kids; rw [List.length_range] at h; omega
  have hbm := hT.lt
  have hpl := hok.n
  clear kcell k0
  go_enter Try.func62, Try.ntmps62
  go_wp2_with fail
  go_loopw [6, 19] (fun s i wr => ∃ (k : Nat) (z : Int), k ≤ (kids ps node).length ∧ i = .int .i64 k ∧ s = .int .i64 z ∧ 0 ≤ z ∧ z ≤ k * 6000000000 ∧ allF (atL ps loads bores need) vac (kids ps node) 0 = allF (atL ps loads bores need) vac ((kids ps node).drop k) z ∧ PlT ps loads bores need wr bm ∧ W.grownBy wr (some bm)) (fun _ i _ => (kids ps node).length - (intOf i).toNat)
  case atStart => exact ⟨0, 0, Nat.zero_le _, rfl, rfl, by omega, by omega, rfl, hT, World.grownBy.refl _ _⟩
  case round =>
    obtain ⟨k, z, hk, rfl, rfl, z0, z1, he, hTw, hg⟩ := hrel
    have HE := Lib.hid he
    clear he
    have hKw := hK.grown hg
    have hzz := hg.size
    by_cases hlt : k < (kids ps node).length
    · have hmem := List.getElem_mem hlt
      have hst := Lib.hid (allF_step (atL ps loads bores need) vac (kids ps node) k hlt z)
      have hgt := kids_gt hok.t hmem
      have hbd := atL_bd hok (show 0 < (kids ps node)[k] by omega) hgt.2 v0 v1
      have hcall := Lib.hid (hat _ hmem)
      have hkr := hKw.rd kr kf
      obtain ⟨b, off, rfl, _, hbh, ck⟩ := RdI.at_ hkr (show k < ((kids ps node).map Int.ofNat).length by simpa using hlt)
      rw [List.getElem_map] at ck
      generalize (kids ps node)[k] = ch at *
      generalize hcc : atL ps loads bores need ch vac = cc at *
      have HCC := Lib.hid hcc
      clear hcc
      obtain ⟨i1, i2, i3, i4, i5, i6⟩ := hbd
      by_cases hneg : cc.index < 0
      · go_wp2_with (go_at_call 63; refine (hcall.out _ hKw hTw).mono ?_; rintro e w1 ⟨rfl, hT1, hg1⟩; rw [HCC.out]; have hz1 := hg1.size)
        go_ret2
        have := HE.out
        rw [hst.out, if_pos hneg] at this
        exact ⟨by rw [this]; rfl, hT1.alloc _, (hg.trans hg1).trans (World.grownBy_alloc _ _ _)⟩
      · go_wp2_with (go_at_call 63; refine (hcall.out _ hKw hTw).mono ?_; rintro e w1 ⟨rfl, hT1, hg1⟩; rw [HCC.out]; have hz1 := hg1.size)
        go_roundw
        case rel =>
          have := HE.out
          rw [hst.out, if_neg (by omega)] at this
          exact ⟨k + 1, z + cc.cost, by omega, by go_num, rfl, by omega, by omega, this, hT1.alloc _, (hg.trans hg1).trans (World.grownBy_alloc _ _ _)⟩
        case measure => simp [intOf]; omega
    · obtain rfl : k = (kids ps node).length := by omega
      go_wp2
      go_ret2
      have := HE.out
      rw [List.drop_length] at this
      exact ⟨by rw [this]; rfl, hTw, hg⟩
end Go.Proofs.Ytepibjfmeibgcaa
/- What the planner's choice at a place returns. -/
namespace Go.Proofs.Ytepibjfmeibgcaa
open Go.RowKit Go.Shelf
open Go.Maps (Keyed)
theorem wp_one {P : Program} {C : Code} {Q : Exit → Act → World → Prop} {a A : Act} {w W : World} (h1 : C.wp P (fun ex a' w' => ex = .normal ∧ a' = A ∧ w' = W) a w) (h2 : Q .normal A W) : C.wp P Q a w :=
  Code.wp_mono (fun _ _ _ h => by obtain ⟨rfl, rfl, rfl⟩ := h; exact h2) h1
/-- What one bore more comes to, by what is left and what the children cost. -/
theorem boreStep_skip {ps : List Pipe} {loads : List Int} {need : Int} {rec : Nat → Int → Cho} {node : Nat} {vac : Int} {i : Nat} {b : Bor} {c : Cho} {q : Pipe} {v : Int} (hq : { pAt ps node with bore := b.size } = q) (hv : max 0 (vac - lossZ q (loads.getD node 0)) = v) (h : 0 < q.taps ∧ v < need) :
    boreStep ps loads need rec node vac i b c = c := by
  subst hq; simp only [boreStep]; rw [hv]; exact if_pos h
theorem boreStep_no {ps : List Pipe} {loads : List Int} {need : Int} {rec : Nat → Int → Cho} {node : Nat} {vac : Int} {i : Nat} {b : Bor} {c : Cho} {q : Pipe} {v : Int} {r : Int × Bool} (hq : { pAt ps node with bore := b.size } = q) (hv : max 0 (vac - lossZ q (loads.getD node 0)) = v) (h : ¬ (0 < q.taps ∧ v < need)) (hr : allF rec v (kids ps node) 0 = r)
    (hn : ¬ (r.2 = true ∧ (c.index < 0 ∨ r.1 + q.length * b.price < c.cost))) : boreStep ps loads need rec node vac i b c = c := by
  subst hq; simp only [boreStep]; rw [hv, hr]; exact (if_neg h).trans (if_neg hn)
theorem boreStep_yes {ps : List Pipe} {loads : List Int} {need : Int} {rec : Nat → Int → Cho} {node : Nat} {vac : Int} {i : Nat} {b : Bor} {c : Cho} {q : Pipe} {v : Int} {r : Int × Bool} (hq : { pAt ps node with bore := b.size } = q) (hv : max 0 (vac - lossZ q (loads.getD node 0)) = v) (h : ¬ (0 < q.taps ∧ v < need)) (hr : allF rec v (kids ps node) 0 = r)
    (hn : r.2 = true ∧ (c.index < 0 ∨ r.1 + q.length * b.price < c.cost)) : boreStep ps loads need rec node vac i b c = ⟨i, r.1 + q.length * b.price, v⟩ := by
  subst hq; simp only [boreStep]; rw [hv, hr]; exact (if_neg h).trans (if_pos hn)
theorem boresF_drop {ps : List Pipe} {loads : List Int} {need : Int} {rec : Nat → Int → Cho} {node : Nat} {vac : Int} {bs : List Bor} {k : Nat} (hk : k < bs.length) (c : Cho) : boresF ps loads need rec node vac (bs.drop k) k c = boresF ps loads need rec node vac (bs.drop (k + 1)) (k + 1) (boreStep ps loads need rec node vac k bs[k] c) := by
  rw [List.drop_eq_getElem_cons hk]; rfl
theorem below_grown {W V : World} (h : Below W.heap.size W V) (r : Option Nat) : W.grownBy V r := ⟨h.os, h.tape, h.output, h.size, fun k hk _ => h.block k hk⟩
theorem zero_cho (W : World) : (zeroValue 118).run Try.prog W = .ok (choV ⟨0, 0, 0⟩) W := by kernel_rfl
set_option maxHeartbeats 2000000 in
set_option maxRecDepth 100000 in
theorem at_ (N bm : Nat) (W0 : World) (ps : List Pipe) (loads : List Int) (bores : List Bor) (need pump : Int) (bx bc node : Nat) (vac : Int) (A L B : Option Addr) (c cl cb : Nat) (hS : PlS N bm W0 ps loads bores need pump bx bc A L B c cl cb) (hok : PlOk ps loads bores need pump)
    (hn0 : 0 < node) (hn : node < ps.length) (v0 : 0 ≤ vac) (v1 : vac ≤ 10000) (hall : ∀ v, 0 ≤ v → v ≤ 10000 → AllR N bm W0 ps loads bores need bx node v) : AtR N bm W0 ps loads bores need bx node vac := by
  intro W hK hT
  have hX := hK.blk hS.x hS.xN hS.xm
  have x1 := hX.cell 1
  have x2 := hX.cell 2
  have x4 := hX.cell 4
  have x5 := hX.cell 5
  have x6 := hX.cell 6
  simp at x1 x2 x4 x5 x6
  have hbm := hT.lt
  have hpl := hok.n
  have hbn6 := hok.bn
  obtain ⟨lop, hip, rp, fp⟩ := hS.p
  have rp := hK.rd rp fp
  obtain ⟨ba, oa, rfl, _, hba, a0, a1, a2, a3, a4⟩ := RdP.at_ rp hn
  have hbaW : ba < W.heap.size := by have := hK.1; have := fp.1; omega
  obtain ⟨kl, hkey⟩ := key_of node vac (WalkArith.wf_i64 (by omega)) (WalkArith.wf_i64 (by omega))
  go_enter_defers Try.func63, Try.ntmps63
  go_wp2_with fail
  have hbx := hX.lt
  obtain ⟨lx0, lx1, lx2, lx3, lx4, lx5⟩ := lt6 (show bx < W.heap.size by omega)
  obtain ⟨v, is, hlook, hgood, hzero⟩ := hT.look_all key_place Try.underlying113 zero_cho hkey
  obtain ⟨cv, rfl, hcv⟩ : ∃ cv : Cho, v = choV cv ∧ (is = true → cv = atL ps loads bores need node vac) := by
    cases is
    · exact ⟨_, hzero rfl, fun h => by cases h⟩
    · exact ⟨_, choGood_at (hgood rfl), fun _ => rfl⟩
  clear hgood hzero
  apply wp_one
  · go_region_held3 (fun w' => w'.cell? ⟨W.heap.size, 0, none⟩ = some (.pointer (some ⟨bx, 0, none⟩)) ∧ w'.cell? ⟨bx, 6, none⟩ = some (.map (some bm)) ∧ w'.cell? ⟨W.heap.size + 1, 0, none⟩ = some (.int .i64 node) ∧ w'.cell? ⟨W.heap.size + 1, 1, none⟩ = some (.int .i64 vac) ∧ w'.heap[bm]? = W.heap[bm]?) (refine ⟨by (go_keep; done), (Below.cell (B := W.heap.size) (w := W) (by repeat (first | exact Below.refl _ _ | exact (Below.refl _ _) | assumption | (refine Below.setCell ?_ (by first | omega | (simp; done) | (simp; omega) | (simp [World.setCell]; done) | (simp [World.setCell]; omega)) _) | (refine Below.alloc ?_ (by first | omega | (simp; done) | (simp; omega) | (simp [World.setCell]; done) | (simp [World.setCell]; omega)) _) | (refine Below.drewN_ ?_ _) | (refine Below.drew ?_))) hbx).trans x6, by (go_keep; done), by (go_keep; done), (Below.block (B := W.heap.size) (w := W) (by repeat (first | exact Below.refl _ _ | exact (Below.refl _ _) | assumption | (refine Below.setCell ?_ (by first | omega | (simp; done) | (simp; omega) | (simp [World.setCell]; done) | (simp [World.setCell]; omega)) _) | (refine Below.alloc ?_ (by first | omega | (simp; done) | (simp; omega) | (simp [World.setCell]; done) | (simp [World.setCell]; omega)) _) | (refine Below.drewN_ ?_ _) | (refine Below.drew ?_))) _ hbm)⟩) (fail)
    all_goals exact ⟨rfl, rfl, rfl⟩
  cases is
  · go_wp2_with fail
    apply wp_one
    · go_region_held3 (fun w' => w'.cell? ⟨W.heap.size, 0, none⟩ = some (.pointer (some ⟨bx, 0, none⟩)) ∧ w'.cell? ⟨bx, 1, none⟩ = some (.slice (some ⟨ba, oa, none⟩) ps.length c) ∧ w'.cell? ⟨W.heap.size + 1, 0, none⟩ = some (.int .i64 node) ∧
          w'.cell? ⟨ba, oa + node * 5, none⟩ = some (.int .i64 ps[node].parent) ∧ w'.cell? ⟨ba, oa + node * 5 + 1, none⟩ = some (.int .i64 ps[node].length) ∧ w'.cell? ⟨ba, oa + node * 5 + 2, none⟩ = some (.int .i64 ps[node].bore) ∧ w'.cell? ⟨ba, oa + node * 5 + 3, none⟩ = some (.int .i64 ps[node].drop) ∧ w'.cell? ⟨ba, oa + node * 5 + 4, none⟩ = some (.int .i64 ps[node].taps))
        (refine ⟨(by first | (go_keep; done) | ((repeat (first | refine (World.cell?_alloc_lt _ _ _ (by first | omega | (simp; done) | (simp; omega))).trans ?_ | refine (World.cell?_setCell_other _ _ _ _ (by first | (simp; done) | (simp; omega))).trans ?_)); first | assumption | (go_keep; done))), (Below.cell (B := W.heap.size) (w := W) (by repeat (first | exact Below.refl _ _ | exact (Below.refl _ _) | assumption | (refine Below.setCell ?_ (by first | omega | (simp; done) | (simp; omega) | (simp [World.setCell]; done) | (simp [World.setCell]; omega)) _) | (refine Below.alloc ?_ (by first | omega | (simp; done) | (simp; omega) | (simp [World.setCell]; done) | (simp [World.setCell]; omega)) _) | (refine Below.drewN_ ?_ _) | (refine Below.drew ?_))) hbx).trans x1, (by first | (go_keep; done) | ((repeat (first | refine (World.cell?_alloc_lt _ _ _ (by first | omega | (simp; done) | (simp; omega))).trans ?_ | refine (World.cell?_setCell_other _ _ _ _ (by first | (simp; done) | (simp; omega))).trans ?_)); first | assumption | (go_keep; done))), (Below.cell (B := W.heap.size) (w := W) (by repeat (first | exact Below.refl _ _ | exact (Below.refl _ _) | assumption | (refine Below.setCell ?_ (by first | omega | (simp; done) | (simp; omega) | (simp [World.setCell]; done) | (simp [World.setCell]; omega)) _) | (refine Below.alloc ?_ (by first | omega | (simp; done) | (simp; omega) | (simp [World.setCell]; done) | (simp [World.setCell]; omega)) _) | (refine Below.drewN_ ?_ _) | (refine Below.drew ?_))) hbaW).trans a0, (Below.cell (B := W.heap.size) (w := W) (by repeat (first | exact Below.refl _ _ | exact (Below.refl _ _) | assumption | (refine Below.setCell ?_ (by first | omega | (simp; done) | (simp; omega) | (simp [World.setCell]; done) | (simp [World.setCell]; omega)) _) | (refine Below.alloc ?_ (by first | omega | (simp; done) | (simp; omega) | (simp [World.setCell]; done) | (simp [World.setCell]; omega)) _) | (refine Below.drewN_ ?_ _) | (refine Below.drew ?_))) hbaW).trans a1, (Below.cell (B := W.heap.size) (w := W) (by repeat (first | exact Below.refl _ _ | exact (Below.refl _ _) | assumption | (refine Below.setCell ?_ (by first | omega | (simp; done) | (simp; omega) | (simp [World.setCell]; done) | (simp [World.setCell]; omega)) _) | (refine Below.alloc ?_ (by first | omega | (simp; done) | (simp; omega) | (simp [World.setCell]; done) | (simp [World.setCell]; omega)) _) | (refine Below.drewN_ ?_ _) | (refine Below.drew ?_))) hbaW).trans a2, (Below.cell (B := W.heap.size) (w := W) (by repeat (first | exact Below.refl _ _ | exact (Below.refl _ _) | assumption | (refine Below.setCell ?_ (by first | omega | (simp; done) | (simp; omega) | (simp [World.setCell]; done) | (simp [World.setCell]; omega)) _) | (refine Below.alloc ?_ (by first | omega | (simp; done) | (simp; omega) | (simp [World.setCell]; done) | (simp [World.setCell]; omega)) _) | (refine Below.drewN_ ?_ _) | (refine Below.drew ?_))) hbaW).trans a3, (Below.cell (B := W.heap.size) (w := W) (by repeat (first | exact Below.refl _ _ | exact (Below.refl _ _) | assumption | (refine Below.setCell ?_ (by first | omega | (simp; done) | (simp; omega) | (simp [World.setCell]; done) | (simp [World.setCell]; omega)) _) | (refine Below.alloc ?_ (by first | omega | (simp; done) | (simp; omega) | (simp [World.setCell]; done) | (simp [World.setCell]; omega)) _) | (refine Below.drewN_ ?_ _) | (refine Below.drew ?_))) hbaW).trans a4⟩) (fail)
      all_goals exact ⟨rfl, rfl, rfl⟩
    go_wp2_with fail
    have hkb := sum_nonneg (l := (kids ps node).map (wL ps 100000000)) (fun x hx => by obtain ⟨k, _, rfl⟩ := List.mem_map.1 hx; exact wF_nonneg (by omega) _ k)
    have hkb2 := (wL_bd hok.t (M := 100000000) (by omega) hn).2.2
    have hkr : ∀ k ∈ kids ps node, ∀ v, 0 ≤ v → v ≤ 10000 → 0 ≤ (atL ps loads bores need k v).cost ∧ (atL ps loads bores need k v).cost ≤ wL ps 100000000 k := fun k hk v a b => by
      have hg := kids_gt hok.t hk
      have := atF_ok (need := need) hok.t hok.l hok.p hok.b (ps.length - k) k v (by omega) hg.2 a b
      exact ⟨this.2.2.1, this.2.2.2.1⟩
    have HKR := Lib.hid hkr
    clear hkr
    generalize hS0 : ((kids ps node).map (wL ps 100000000)).sum = S0 at *
    have HS0 := Lib.hid hS0
    clear hS0
    have hS1 : S0 ≤ 6000000000 := by omega
    clear hkb2
    go_loopw [41] (fun i wr => ∃ (k : Nat) (cc : Cho) (bo : Int), k ≤ bores.length ∧ i = .int .i64 k ∧ Hid (boresF ps loads need (atL ps loads bores need) node vac bores 0 noCho = boresF ps loads need (atL ps loads bores need) node vac (bores.drop k) k cc) ∧ ChoOk bores.length (100000000 + S0) cc ∧
      Blk wr W.heap.size 109 #[.pointer (some ⟨bx, 0, none⟩)] ∧ Blk wr (W.heap.size + 1) 121 #[.int .i64 node, .int .i64 vac] ∧ Blk wr (W.heap.size + 1 + 1) 118 #[.int .i64 cc.index, .int .i64 cc.cost, .int .i64 cc.vac] ∧
      Blk wr (W.heap.size + 1 + 1 + 1 + 1) 54 #[.int .i64 ps[node].parent, .int .i64 ps[node].length, .int .i64 bo, .int .i64 ps[node].drop, .int .i64 ps[node].taps] ∧ PlT ps loads bores need wr bm ∧ W.grownBy wr (some bm)) (fun i _ => bores.length - (intOf i).toNat)
    case atStart =>
      refine ⟨0, noCho, ps[node].bore, Nat.zero_le _, rfl, Lib.hid rfl, ⟨by decide, by simp only [noCho]; omega, by decide, by simp only [noCho]; omega, by decide, by decide⟩, ?_, ?_, ?_, ?_, ?_, ?_⟩
      · exact (((((Blk.new W _ _).alloc _).alloc _).alloc _).alloc _).drew.drew
      · exact ((((blk_new' _ _ _ _ (by simp)).alloc _).alloc _).alloc _).drew.drew
      · exact (((blk_new' _ _ _ _ (by simp)).alloc _).alloc _).drew.drew
      · exact (blk_new' _ _ _ _ (by simp)).drew.drew
      · exact (((((hT.alloc _).alloc _).alloc _).alloc _).alloc _).drew.drew
      · exact below_grown (by repeat (first | exact Below.refl _ _ | exact (Below.refl _ _) | assumption | (refine Below.setCell ?_ (by first | omega | (simp; done) | (simp; omega) | (simp [World.setCell]; done) | (simp [World.setCell]; omega)) _) | (refine Below.alloc ?_ (by first | omega | (simp; done) | (simp; omega) | (simp [World.setCell]; done) | (simp [World.setCell]; omega)) _) | (refine Below.drewN_ ?_ _) | (refine Below.drew ?_))) _
    case round =>
      obtain ⟨k, cc, bo, hk, rfl, hbf, hcc, b0, b1, b2, b4, hTw, hg⟩ := hrel
      have hKw := hK.grown hg
      have hXw := hKw.blk hS.x hS.xN hS.xm
      have y2 := hXw.cell 2
      have y5 := hXw.cell 5
      simp at y2 y5
      by_cases hlt : k < bores.length
      · obtain ⟨lob, hib, rb, fb⟩ := hS.b
        obtain ⟨bb, ob, rfl, _, hbb, s0, s1⟩ := RdO.at_ (hKw.rd rb fb) hlt
        obtain ⟨lol, hil, rl, fl⟩ := hS.l
        have hnl : node < loads.length := by have := hok.ll; omega
        obtain ⟨bl, ol, rfl, _, hbl, l0⟩ := RdI.at_ (hKw.rd rl fl) hnl
        have hld := hok.l node
        rw [show loads.getD node 0 = loads[node] by rw [List.getD_eq_getElem?_getD, List.getElem?_eq_getElem hnl]; rfl] at hld
        have hpk := hok.p node hn0 hn
        rw [pAt_eq hn] at hpk
        have hbk : boreB bores[k] = true := List.all_eq_true.1 hok.b _ (List.getElem_mem hlt)
        have hbk2 : (4 ≤ bores[k].size ∧ bores[k].size ≤ 80) ∧ 0 ≤ bores[k].price ∧ bores[k].price ≤ 1000 := by
          unfold boreB at hbk; rw [Bool.and_eq_true] at hbk; exact ⟨inB_true hbk.1, inB_true hbk.2⟩
        obtain ⟨⟨e0, e1⟩, e2, e3⟩ := hbk2
        have hzz := hg.size
        have hNN := hKw.1
        have hbbN := fb.1
        have hblN := fl.1
        have x0 := b0.cell 0; have xf0 := b0.frozen 0; simp at x0
        have p0 := b1.cell 0; have pf0 := b1.frozen 0; have p1 := b1.cell 1; have pf1 := b1.frozen 1; simp at p0 p1
        have z0 := b2.cell 0; have zf0 := b2.frozen 0; have z1 := b2.cell 1; have zf1 := b2.frozen 1; have z2 := b2.cell 2; have zf2 := b2.frozen 2; simp at z0 z1 z2
        have t0 := b4.cell 0; have tf0 := b4.frozen 0; have t1 := b4.cell 1; have tf1 := b4.frozen 1; have t2 := b4.cell 2; have tf2 := b4.frozen 2; have t3 := b4.cell 3; have tf3 := b4.frozen 3; have t4 := b4.cell 4; have tf4 := b4.frozen 4; simp at t0 t1 t2 t3 t4
        have hl4 := b4.lt
        obtain ⟨la0, la1, la2, la3, la4, la5⟩ := lt6 (show W.heap.size + 1 + 1 + 1 + 1 < wr.heap.size by omega)
        go_wp2_with fail
        have v0' := (b0.far (p := ⟨W.heap.size + 1 + 1 + 1 + 1, 2, none⟩) (by first | omega | (simp; done) | (simp; omega) | (simp [World.setCell]; omega)) (.int .i64 bores[k].size)).alloc (.cells #[.int .i64 bores[k].size, .int .i64 bores[k].price] 38)
        have v1' := (b1.far (p := ⟨W.heap.size + 1 + 1 + 1 + 1, 2, none⟩) (by first | omega | (simp; done) | (simp; omega) | (simp [World.setCell]; omega)) (.int .i64 bores[k].size)).alloc (.cells #[.int .i64 bores[k].size, .int .i64 bores[k].price] 38)
        have v2' := (b2.far (p := ⟨W.heap.size + 1 + 1 + 1 + 1, 2, none⟩) (by first | omega | (simp; done) | (simp; omega) | (simp [World.setCell]; omega)) (.int .i64 bores[k].size)).alloc (.cells #[.int .i64 bores[k].size, .int .i64 bores[k].price] 38)
        have v4' := (b4.set_ 2 (.int .i64 bores[k].size)).alloc (.cells #[.int .i64 bores[k].size, .int .i64 bores[k].price] 38)
        have vn' := blk_new' (wr.setCell ⟨W.heap.size + 1 + 1 + 1 + 1, 2, none⟩ (.int .i64 bores[k].size)) wr.heap.size 38 #[.int .i64 bores[k].size, .int .i64 bores[k].price] (by simp [World.setCell])
        have vT := (hTw.setCell (a := ⟨W.heap.size + 1 + 1 + 1 + 1, 2, none⟩) (by first | omega | (simp; done) | (simp; omega) | (simp [World.setCell]; omega)) (.int .i64 bores[k].size)).alloc (.cells #[.int .i64 bores[k].size, .int .i64 bores[k].price] 38)
        have vg := grown_alloc (grown_set hg (p := ⟨W.heap.size + 1 + 1 + 1 + 1, 2, none⟩) (by first | omega | (simp; done) | (simp; omega) | (simp [World.setCell]; omega)) (.int .i64 bores[k].size)) (.cells #[.int .i64 bores[k].size, .int .i64 bores[k].price] 38)
        have vz : wr.heap.size < ((wr.setCell ⟨W.heap.size + 1 + 1 + 1 + 1, 2, none⟩ (.int .i64 bores[k].size)).alloc (.cells #[.int .i64 bores[k].size, .int .i64 bores[k].price] 38)).heap.size := by simp [World.setCell]
        simp only [List.setIfInBounds_toArray, List.set_cons_zero, List.set_cons_succ] at v4'
        generalize (wr.setCell ⟨W.heap.size + 1 + 1 + 1 + 1, 2, none⟩ (.int .i64 bores[k].size)).alloc (.cells #[.int .i64 bores[k].size, .int .i64 bores[k].price] 38) = V at *
        generalize wr.heap.size = nb at *
        clear la0 la1 la2 la3 la4 la5 tf0 tf1 tf2 tf3 tf4 t0 t1 t2 t3 t4 zf0 zf1 zf2 z0 z1 z2 pf0 pf1 p0 p1 xf0 x0 b0 b1 b2 b4 s0 s1 l0 y2 y5 hXw hl4
        have hKV := hK.grown vg
        have hXV := hKV.blk hS.x hS.xN hS.xm
        obtain ⟨bl', ol', hel, _, _, l0⟩ := RdI.at_ (hKV.rd rl fl) hnl
        cases hel
        have y2 := hXV.cell 2
        have y5 := hXV.cell 5
        simp at y2 y5
        have x0 := v0'.cell 0; have xf0 := v0'.frozen 0; simp at x0
        have p0 := v1'.cell 0; have pf0 := v1'.frozen 0; have p1 := v1'.cell 1; have pf1 := v1'.frozen 1; simp at p0 p1
        have z0 := v2'.cell 0; have zf0 := v2'.frozen 0; have z1 := v2'.cell 1; have zf1 := v2'.frozen 1; have z2 := v2'.cell 2; have zf2 := v2'.frozen 2; simp at z0 z1 z2
        have t0 := v4'.cell 0; have tf0 := v4'.frozen 0; have t1 := v4'.cell 1; have tf1 := v4'.frozen 1; have t2 := v4'.cell 2; have tf2 := v4'.frozen 2; have t3 := v4'.cell 3; have tf3 := v4'.frozen 3; have t4 := v4'.cell 4; have tf4 := v4'.frozen 4; simp at t0 t1 t2 t3 t4
        have n0 := vn'.cell 0; have nf0 := vn'.frozen 0; have n1 := vn'.cell 1; have nf1 := vn'.frozen 1; simp at n0 n1
        have hl4 := v4'.lt
        have hlX := hXV.lt
        have hllV : bl < V.heap.size := by have := hKV.1; omega
        go_region_held3 (fun w' => w'.cell? ⟨W.heap.size + 1, 1, none⟩ = some (.int .i64 vac) ∧ w'.cell? ⟨W.heap.size + 1, 0, none⟩ = some (.int .i64 node) ∧ w'.cell? ⟨W.heap.size, 0, none⟩ = some (.pointer (some ⟨bx, 0, none⟩)) ∧ w'.cell? ⟨bx, 2, none⟩ = some (.slice (some ⟨bl, ol, none⟩) loads.length cl) ∧ w'.cell? ⟨bl, ol + node, none⟩ = some (.int .i64 loads[node]) ∧
            w'.cell? ⟨W.heap.size + 1 + 1 + 1 + 1, 0, none⟩ = some (.int .i64 ps[node].parent) ∧ w'.cell? ⟨W.heap.size + 1 + 1 + 1 + 1, 1, none⟩ = some (.int .i64 ps[node].length) ∧ w'.cell? ⟨W.heap.size + 1 + 1 + 1 + 1, 2, none⟩ = some (.int .i64 bores[k].size) ∧ w'.cell? ⟨W.heap.size + 1 + 1 + 1 + 1, 3, none⟩ = some (.int .i64 ps[node].drop) ∧ w'.cell? ⟨W.heap.size + 1 + 1 + 1 + 1, 4, none⟩ = some (.int .i64 ps[node].taps))
          (first | exact ⟨p1, p0, x0, y2, l0, t0, t1, t2, t3, t4⟩ | exact ⟨(hb1.cell (by first | omega | (simp; omega))).trans p1, (hb1.cell (by first | omega | (simp; omega))).trans p0, (hb1.cell (by first | omega | (simp; omega))).trans x0, (hb1.cell (by first | omega | (simp; omega))).trans y2, (hb1.cell (by first | omega | (simp; omega))).trans l0, (hb1.cell (by first | omega | (simp; omega))).trans t0, (hb1.cell (by first | omega | (simp; omega))).trans t1, (hb1.cell (by first | omega | (simp; omega))).trans t2, (hb1.cell (by first | omega | (simp; omega))).trans t3, (hb1.cell (by first | omega | (simp; omega))).trans t4⟩)
          (first | (go_at_call 76; refine (loss_ ⟨ps[node].parent, ps[node].length, bores[k].size, ps[node].drop, ps[node].taps⟩ loads[node] _ ⟨hpk.1, hpk.2.1, e0, e1, hpk.2.2.2.2.1, hpk.2.2.2.2.2⟩ hld.1 hld.2).mono ?_; rintro e w1 ⟨rfl, hb1⟩))
        have hq : { pAt ps node with bore := bores[k].size } = (⟨ps[node].parent, ps[node].length, bores[k].size, ps[node].drop, ps[node].taps⟩ : Pipe) := by rw [pAt_eq hn]
        have hlsb := lossZ_bd (p := ⟨ps[node].parent, ps[node].length, bores[k].size, ps[node].drop, ps[node].taps⟩) (flow := loads[node]) ⟨hpk.1, hpk.2.1, e0, e1, hpk.2.2.2.2.1, hpk.2.2.2.2.2⟩ hld.1 hld.2
        have hldg : loads.getD node 0 = loads[node] := by rw [List.getD_eq_getElem?_getD, List.getElem?_eq_getElem hnl]; rfl
        have hv : max 0 (vac - lossZ ⟨ps[node].parent, ps[node].length, bores[k].size, ps[node].drop, ps[node].taps⟩ (loads.getD node 0)) = max 0 (vac - lossZ ⟨ps[node].parent, ps[node].length, bores[k].size, ps[node].drop, ps[node].taps⟩ loads[node]) := by rw [hldg]
        have HV := Lib.hid hv
        have HQ := Lib.hid hq
        clear hv hq hldg
        generalize lossZ ⟨ps[node].parent, ps[node].length, bores[k].size, ps[node].drop, ps[node].taps⟩ loads[node] = ls at *
        rw [show (if 0 < IntKind.i64.wrap (vac - ls) then IntKind.i64.wrap (vac - ls) else 0) = max 0 (vac - ls) by rw [IntWalk.i64_in (vac - ls) (by omega)]; omega]
        have hvv : 0 ≤ max 0 (vac - ls) ∧ max 0 (vac - ls) ≤ 10000 := by omega
        generalize max 0 (vac - ls) = vv at *
        have c0 := v0'.drew.below hb1 v0'.lt
        have c1 := v1'.drew.below hb1 v1'.lt
        have c2 := v2'.drew.below hb1 v2'.lt
        have c4 := v4'.drew.below hb1 v4'.lt
        have cn := vn'.drew.below hb1 vn'.lt
        have cT : PlT ps loads bores need w1 bm := vT.drew.below hb1 vT.lt
        have cg : W.grownBy w1 (some bm) := (grown_drew vg).trans (below_grown hb1 _)
        clear v0' v1' v2' v4' vn' hXV hKV y2 y5 xf0 x0 pf0 pf1 p0 p1 zf0 zf1 zf2 z0 z1 z2 tf0 tf1 tf2 tf3 tf4 t0 t1 t2 t3 t4 nf0 nf1 n0 n1 l0
        have hK1 := hK.grown cg
        have hX1 := hK1.blk hS.x hS.xN hS.xm
        have y5 := hX1.cell 5
        simp at y5
        have x0 := c0.cell 0; have xf0 := c0.frozen 0; simp at x0
        have p0 := c1.cell 0; have pf0 := c1.frozen 0; have p1 := c1.cell 1; have pf1 := c1.frozen 1; simp at p0 p1
        have z0 := c2.cell 0; have zf0 := c2.frozen 0; have z1 := c2.cell 1; have zf1 := c2.frozen 1; have z2 := c2.cell 2; have zf2 := c2.frozen 2; simp at z0 z1 z2
        have t0 := c4.cell 0; have tf0 := c4.frozen 0; have t1 := c4.cell 1; have tf1 := c4.frozen 1; have t2 := c4.cell 2; have tf2 := c4.frozen 2; have t3 := c4.cell 3; have tf3 := c4.frozen 3; have t4 := c4.cell 4; have tf4 := c4.frozen 4; simp at t0 t1 t2 t3 t4
        have n0 := cn.cell 0; have nf0 := cn.frozen 0; have n1 := cn.cell 1; have nf1 := cn.frozen 1; simp at n0 n1
        have hdrop := Lib.hid (boresF_drop (ps := ps) (loads := loads) (need := need) (rec := atL ps loads bores need) (node := node) (vac := vac) hlt cc)
        by_cases hskip : 0 < ps[node].taps ∧ vv < need
        · obtain ⟨hs1, hs2⟩ := hskip
          have hstep := Lib.hid (boreStep_skip (rec := atL ps loads bores need) (i := k) (c := cc) HQ.out HV.out ⟨hs1, hs2⟩)
          go_wp2_with fail
          refine ⟨⟨k + 1, cc, bores[k].size, by omega, by go_num, Lib.hid ?_, hcc, c0, c1, c2, c4, cT, cg⟩, by simp [intOf]; omega⟩
          rw [hbf.out, hdrop.out, hstep.out]
        · have HSK := Lib.hid hskip
          have hcase : ps[node].taps ≤ 0 ∨ (0 < ps[node].taps ∧ need ≤ vv) := by omega
          clear hskip
          have hcall := Lib.hid (hall vv hvv.1 hvv.2 w1 hK1 cT)
          have hrb := allF_bd (rec := atL ps loads bores need) (v := vv) (W := wL ps 100000000) (kids ps node) 0 (fun k hk => HKR.out k hk vv hvv.1 hvv.2) (Int.le_refl _)
          rw [HS0.out] at hrb
          obtain ⟨rc, rb, hr⟩ : ∃ rc rb, allF (atL ps loads bores need) vv (kids ps node) 0 = (rc, rb) := ⟨_, _, rfl⟩
          rw [hr] at hrb
          have HR := Lib.hid hr
          clear hr
          obtain ⟨r0, r1⟩ := hrb
          simp only at r0 r1
          rcases hcase with ht | ⟨ht, ht2⟩
          all_goals
            go_wp2_with fail
            refine hcall.out.mono ?_
            rw [HR.out]
            rintro e w2 ⟨rfl, hT2, hg2⟩
            have d0 : Blk w2 _ _ _ := (hg2.block _ c0.lt (by simp; omega)).trans c0
            have d1 : Blk w2 _ _ _ := (hg2.block _ c1.lt (by simp; omega)).trans c1
            have d2 : Blk w2 _ _ _ := (hg2.block _ c2.lt (by simp; omega)).trans c2
            have d4 : Blk w2 _ _ _ := (hg2.block _ c4.lt (by simp; omega)).trans c4
            have dn : Blk w2 _ _ _ := (hg2.block _ cn.lt (by simp; omega)).trans cn
            have dg := cg.trans hg2
            clear xf0 x0 pf0 pf1 p0 p1 zf0 zf1 zf2 z0 z1 z2 tf0 tf1 tf2 tf3 tf4 t0 t1 t2 t3 t4 nf0 nf1 n0 n1 c0 c1 c2 c4 cn cT hK1 hX1
            have z0 := d2.cell 0; have zf0 := d2.frozen 0; have z1 := d2.cell 1; have zf1 := d2.frozen 1; have z2 := d2.cell 2; have zf2 := d2.frozen 2; simp at z0 z1 z2
            have t0 := d4.cell 0; have tf0 := d4.frozen 0; have t1 := d4.cell 1; have tf1 := d4.frozen 1; have t2 := d4.cell 2; have tf2 := d4.frozen 2; have t3 := d4.cell 3; have tf3 := d4.frozen 3; have t4 := d4.cell 4; have tf4 := d4.frozen 4; simp at t0 t1 t2 t3 t4
            have n0 := dn.cell 0; have nf0 := dn.frozen 0; have n1 := dn.cell 1; have nf1 := dn.frozen 1; simp at n0 n1
            have hl2 := d2.lt
            have hmul := mul_bounds (show 0 ≤ ps[node].length by have := hpk.1; omega) hpk.2.1 e2 e3
            obtain ⟨hm0, hm1⟩ := hmul
            obtain ⟨i0, i1, i2, i3, i4, i5⟩ := hcc
            cases rb
            · have hstep := Lib.hid (boreStep_no (rec := atL ps loads bores need) (i := k) (c := cc) HQ.out HV.out HSK.out HR.out (by rintro ⟨h, _⟩; cases h))
              go_wp2_with fail
              refine ⟨⟨k + 1, cc, bores[k].size, by omega, by go_num, Lib.hid ?_, ⟨i0, i1, i2, i3, i4, i5⟩, d0, d1, d2, d4, hT2, dg⟩, by simp [intOf]; omega⟩
              rw [hbf.out, hdrop.out, hstep.out]
            · by_cases hneg : cc.index < 0
              · have hstep := Lib.hid (boreStep_yes (rec := atL ps loads bores need) (i := k) (c := cc) HQ.out HV.out HSK.out HR.out ⟨rfl, Or.inl hneg⟩)
                go_wp2_with fail
                have f2 := ((((((d2).set_ 0 (.int .i64 (k : Int)))).set_ 1 (.int .i64 (rc + ps[node].length * bores[k].price)))).set_ 2 (.int .i64 vv))
                simp only [List.setIfInBounds_toArray, List.set_cons_zero, List.set_cons_succ] at f2
                refine ⟨⟨k + 1, ⟨(k : Int), rc + ps[node].length * bores[k].price, vv⟩, bores[k].size, by omega, by go_num, Lib.hid ?_, ⟨by simp only; omega, by simp only; omega, by simp only; omega, by simp only; omega, hvv.1, hvv.2⟩, ((((((d0).far (p := ⟨W.heap.size + 1 + 1, 0, none⟩) (by first | omega | (simp; done) | (simp; omega) | (simp [World.setCell]; omega)) (.int .i64 (k : Int)))).far (p := ⟨W.heap.size + 1 + 1, 1, none⟩) (by first | omega | (simp; done) | (simp; omega) | (simp [World.setCell]; omega)) (.int .i64 (rc + ps[node].length * bores[k].price)))).far (p := ⟨W.heap.size + 1 + 1, 2, none⟩) (by first | omega | (simp; done) | (simp; omega) | (simp [World.setCell]; omega)) (.int .i64 vv)), ((((((d1).far (p := ⟨W.heap.size + 1 + 1, 0, none⟩) (by first | omega | (simp; done) | (simp; omega) | (simp [World.setCell]; omega)) (.int .i64 (k : Int)))).far (p := ⟨W.heap.size + 1 + 1, 1, none⟩) (by first | omega | (simp; done) | (simp; omega) | (simp [World.setCell]; omega)) (.int .i64 (rc + ps[node].length * bores[k].price)))).far (p := ⟨W.heap.size + 1 + 1, 2, none⟩) (by first | omega | (simp; done) | (simp; omega) | (simp [World.setCell]; omega)) (.int .i64 vv)), f2, ((((((d4).far (p := ⟨W.heap.size + 1 + 1, 0, none⟩) (by first | omega | (simp; done) | (simp; omega) | (simp [World.setCell]; omega)) (.int .i64 (k : Int)))).far (p := ⟨W.heap.size + 1 + 1, 1, none⟩) (by first | omega | (simp; done) | (simp; omega) | (simp [World.setCell]; omega)) (.int .i64 (rc + ps[node].length * bores[k].price)))).far (p := ⟨W.heap.size + 1 + 1, 2, none⟩) (by first | omega | (simp; done) | (simp; omega) | (simp [World.setCell]; omega)) (.int .i64 vv)), ((((((hT2).setCell (a := ⟨W.heap.size + 1 + 1, 0, none⟩) (by first | omega | (simp; done) | (simp; omega) | (simp [World.setCell]; omega)) (.int .i64 (k : Int)))).setCell (a := ⟨W.heap.size + 1 + 1, 1, none⟩) (by first | omega | (simp; done) | (simp; omega) | (simp [World.setCell]; omega)) (.int .i64 (rc + ps[node].length * bores[k].price)))).setCell (a := ⟨W.heap.size + 1 + 1, 2, none⟩) (by first | omega | (simp; done) | (simp; omega) | (simp [World.setCell]; omega)) (.int .i64 vv)), (grown_set (grown_set (grown_set dg (p := ⟨W.heap.size + 1 + 1, 0, none⟩) (by first | omega | (simp; done) | (simp; omega) | (simp [World.setCell]; omega)) (.int .i64 (k : Int))) (p := ⟨W.heap.size + 1 + 1, 1, none⟩) (by first | omega | (simp; done) | (simp; omega) | (simp [World.setCell]; omega)) (.int .i64 (rc + ps[node].length * bores[k].price))) (p := ⟨W.heap.size + 1 + 1, 2, none⟩) (by first | omega | (simp; done) | (simp; omega) | (simp [World.setCell]; omega)) (.int .i64 vv))⟩, by simp [intOf]; omega⟩
                rw [hbf.out, hdrop.out, hstep.out]
              · by_cases hch : rc + ps[node].length * bores[k].price < cc.cost
                · have hstep := Lib.hid (boreStep_yes (rec := atL ps loads bores need) (i := k) (c := cc) HQ.out HV.out HSK.out HR.out ⟨rfl, Or.inr hch⟩)
                  go_wp2_with fail
                  have f2 := ((((((d2).set_ 0 (.int .i64 (k : Int)))).set_ 1 (.int .i64 (rc + ps[node].length * bores[k].price)))).set_ 2 (.int .i64 vv))
                  simp only [List.setIfInBounds_toArray, List.set_cons_zero, List.set_cons_succ] at f2
                  refine ⟨⟨k + 1, ⟨(k : Int), rc + ps[node].length * bores[k].price, vv⟩, bores[k].size, by omega, by go_num, Lib.hid ?_, ⟨by simp only; omega, by simp only; omega, by simp only; omega, by simp only; omega, hvv.1, hvv.2⟩, ((((((d0).far (p := ⟨W.heap.size + 1 + 1, 0, none⟩) (by first | omega | (simp; done) | (simp; omega) | (simp [World.setCell]; omega)) (.int .i64 (k : Int)))).far (p := ⟨W.heap.size + 1 + 1, 1, none⟩) (by first | omega | (simp; done) | (simp; omega) | (simp [World.setCell]; omega)) (.int .i64 (rc + ps[node].length * bores[k].price)))).far (p := ⟨W.heap.size + 1 + 1, 2, none⟩) (by first | omega | (simp; done) | (simp; omega) | (simp [World.setCell]; omega)) (.int .i64 vv)), ((((((d1).far (p := ⟨W.heap.size + 1 + 1, 0, none⟩) (by first | omega | (simp; done) | (simp; omega) | (simp [World.setCell]; omega)) (.int .i64 (k : Int)))).far (p := ⟨W.heap.size + 1 + 1, 1, none⟩) (by first | omega | (simp; done) | (simp; omega) | (simp [World.setCell]; omega)) (.int .i64 (rc + ps[node].length * bores[k].price)))).far (p := ⟨W.heap.size + 1 + 1, 2, none⟩) (by first | omega | (simp; done) | (simp; omega) | (simp [World.setCell]; omega)) (.int .i64 vv)), f2, ((((((d4).far (p := ⟨W.heap.size + 1 + 1, 0, none⟩) (by first | omega | (simp; done) | (simp; omega) | (simp [World.setCell]; omega)) (.int .i64 (k : Int)))).far (p := ⟨W.heap.size + 1 + 1, 1, none⟩) (by first | omega | (simp; done) | (simp; omega) | (simp [World.setCell]; omega)) (.int .i64 (rc + ps[node].length * bores[k].price)))).far (p := ⟨W.heap.size + 1 + 1, 2, none⟩) (by first | omega | (simp; done) | (simp; omega) | (simp [World.setCell]; omega)) (.int .i64 vv)), ((((((hT2).setCell (a := ⟨W.heap.size + 1 + 1, 0, none⟩) (by first | omega | (simp; done) | (simp; omega) | (simp [World.setCell]; omega)) (.int .i64 (k : Int)))).setCell (a := ⟨W.heap.size + 1 + 1, 1, none⟩) (by first | omega | (simp; done) | (simp; omega) | (simp [World.setCell]; omega)) (.int .i64 (rc + ps[node].length * bores[k].price)))).setCell (a := ⟨W.heap.size + 1 + 1, 2, none⟩) (by first | omega | (simp; done) | (simp; omega) | (simp [World.setCell]; omega)) (.int .i64 vv)), (grown_set (grown_set (grown_set dg (p := ⟨W.heap.size + 1 + 1, 0, none⟩) (by first | omega | (simp; done) | (simp; omega) | (simp [World.setCell]; omega)) (.int .i64 (k : Int))) (p := ⟨W.heap.size + 1 + 1, 1, none⟩) (by first | omega | (simp; done) | (simp; omega) | (simp [World.setCell]; omega)) (.int .i64 (rc + ps[node].length * bores[k].price))) (p := ⟨W.heap.size + 1 + 1, 2, none⟩) (by first | omega | (simp; done) | (simp; omega) | (simp [World.setCell]; omega)) (.int .i64 vv))⟩, by simp [intOf]; omega⟩
                  rw [hbf.out, hdrop.out, hstep.out]
                · have hstep := Lib.hid (boreStep_no (rec := atL ps loads bores need) (i := k) (c := cc) HQ.out HV.out HSK.out HR.out (by rintro ⟨_, h | h⟩; exact hneg h; exact hch h))
                  go_wp2_with fail
                  refine ⟨⟨k + 1, cc, bores[k].size, by omega, by go_num, Lib.hid ?_, ⟨i0, i1, i2, i3, i4, i5⟩, d0, d1, d2, d4, hT2, dg⟩, by simp [intOf]; omega⟩
                  rw [hbf.out, hdrop.out, hstep.out]
      · obtain rfl : k = bores.length := by omega
        have z0 := b2.cell 0; have zf0 := b2.frozen 0; have z1 := b2.cell 1; have zf1 := b2.frozen 1; have z2 := b2.cell 2; have zf2 := b2.frozen 2; simp at z0 z1 z2
        have hzz := hg.size
        go_wp2_with fail
        have hfin := hbf.out
        rw [List.drop_length] at hfin
        have hcc2 : cc = atL ps loads bores need node vac := by rw [atL_eq hok.t _ _ _ _ _ hn, hfin]; rfl
        refine leaves_cons (f := 95) (args := #[.pointer (some ⟨W.heap.size + 1 + 1, 0, none⟩), .pointer (some ⟨W.heap.size, 0, none⟩), .pointer (some ⟨W.heap.size + 1, 0, none⟩)]) (by simp) (by simp [go_sem]) ?_
        have b3 := ((b2.set_ 0 (.int .i64 cc.index)).set_ 1 (.int .i64 cc.cost)).set_ 2 (.int .i64 cc.vac)
        have b03 := ((b0.far (p := ⟨W.heap.size + 1 + 1, 0, none⟩) (by first | omega | (simp; done) | (simp; omega) | (simp [World.setCell]; omega)) (.int .i64 cc.index)).far (p := ⟨W.heap.size + 1 + 1, 1, none⟩) (by first | omega | (simp; done) | (simp; omega) | (simp [World.setCell]; omega)) (.int .i64 cc.cost)).far (p := ⟨W.heap.size + 1 + 1, 2, none⟩) (by first | omega | (simp; done) | (simp; omega) | (simp [World.setCell]; omega)) (.int .i64 cc.vac)
        have b13 := ((b1.far (p := ⟨W.heap.size + 1 + 1, 0, none⟩) (by first | omega | (simp; done) | (simp; omega) | (simp [World.setCell]; omega)) (.int .i64 cc.index)).far (p := ⟨W.heap.size + 1 + 1, 1, none⟩) (by first | omega | (simp; done) | (simp; omega) | (simp [World.setCell]; omega)) (.int .i64 cc.cost)).far (p := ⟨W.heap.size + 1 + 1, 2, none⟩) (by first | omega | (simp; done) | (simp; omega) | (simp [World.setCell]; omega)) (.int .i64 cc.vac)
        have bx3 := ((hXw.far (p := ⟨W.heap.size + 1 + 1, 0, none⟩) (by first | omega | (simp; done) | (simp; omega) | (simp [World.setCell]; omega)) (.int .i64 cc.index)).far (p := ⟨W.heap.size + 1 + 1, 1, none⟩) (by first | omega | (simp; done) | (simp; omega) | (simp [World.setCell]; omega)) (.int .i64 cc.cost)).far (p := ⟨W.heap.size + 1 + 1, 2, none⟩) (by first | omega | (simp; done) | (simp; omega) | (simp [World.setCell]; omega)) (.int .i64 cc.vac)
        have hT3 := ((hTw.setCell (a := ⟨W.heap.size + 1 + 1, 0, none⟩) (by first | omega | (simp; done) | (simp; omega) | (simp [World.setCell]; omega)) (.int .i64 cc.index)).setCell (a := ⟨W.heap.size + 1 + 1, 1, none⟩) (by first | omega | (simp; done) | (simp; omega) | (simp [World.setCell]; omega)) (.int .i64 cc.cost)).setCell (a := ⟨W.heap.size + 1 + 1, 2, none⟩) (by first | omega | (simp; done) | (simp; omega) | (simp [World.setCell]; omega)) (.int .i64 cc.vac)
        have hg3 := grown_set (grown_set (grown_set hg (p := ⟨W.heap.size + 1 + 1, 0, none⟩) (by first | omega | (simp; done) | (simp; omega) | (simp [World.setCell]; omega)) (.int .i64 cc.index)) (p := ⟨W.heap.size + 1 + 1, 1, none⟩) (by first | omega | (simp; done) | (simp; omega) | (simp [World.setCell]; omega)) (.int .i64 cc.cost)) (p := ⟨W.heap.size + 1 + 1, 2, none⟩) (by first | omega | (simp; done) | (simp; omega) | (simp [World.setCell]; omega)) (.int .i64 cc.vac)
        generalize ((wr.setCell ⟨W.heap.size + 1 + 1, 0, none⟩ (.int .i64 cc.index)).setCell ⟨W.heap.size + 1 + 1, 1, none⟩ (.int .i64 cc.cost)).setCell ⟨W.heap.size + 1 + 1, 2, none⟩ (.int .i64 cc.vac) = w3 at *
        simp only [List.setIfInBounds_toArray, List.set_cons_zero, List.set_cons_succ] at b3
        rw [hcc2] at b3
        refine (at1_ ps loads bores need pump bx bm (W.heap.size + 1 + 1) W.heap.size (W.heap.size + 1) node vac .returning w3 hT3 hok.n hn v0 v1 (b3.cell 0) (b3.cell 1) (b3.cell 2) (b03.cell 0) (b13.cell 0) (b13.cell 1) (bx3.cell 6)).mono ?_
        rintro e u' w4 ⟨rfl, rfl, hT4, hg4⟩
        have b4 : Blk w4 (W.heap.size + 1 + 1) _ _ := (hg4.block _ b3.lt (by simp; omega)).trans b3
        have q0 := b4.cell 0; have qf0 := b4.frozen 0; have q1 := b4.cell 1; have qf1 := b4.frozen 1; have q2 := b4.cell 2; have qf2 := b4.frozen 2; simp at q0 q1 q2
        exact ⟨choV (atL ps loads bores need node vac), by simp [results, Try.results63, go_sem, q0, q1, q2], rfl, hT4, hg3.trans hg4⟩
  · go_wp2_with fail
    have he := hcv trivial
    exact ⟨choV (atL ps loads bores need node vac), by simp [results, Try.results63, go_sem], rfl, ((((hT.alloc _).alloc _).alloc _).alloc _).drew, below_grown (by repeat (first | exact Below.refl _ _ | exact (Below.refl _ _) | assumption | (refine Below.setCell ?_ (by first | omega | (simp; done) | (simp; omega) | (simp [World.setCell]; done) | (simp [World.setCell]; omega)) _) | (refine Below.alloc ?_ (by first | omega | (simp; done) | (simp; omega) | (simp [World.setCell]; done) | (simp [World.setCell]; omega)) _) | (refine Below.drewN_ ?_ _) | (refine Below.drew ?_))) _⟩
/-- The planner's choices and sums, everywhere. -/
theorem plan_rec (N bm : Nat) (W0 : World) (ps : List Pipe) (loads : List Int) (bores : List Bor) (need pump : Int) (bx bc : Nat) (A L B : Option Addr) (c cl cb : Nat) (hS : PlS N bm W0 ps loads bores need pump bx bc A L B c cl cb) (hok : PlOk ps loads bores need pump) :
    ∀ (d node : Nat), node < ps.length → ps.length - node ≤ d → (∀ v, 0 ≤ v → v ≤ 10000 → AllR N bm W0 ps loads bores need bx node v) ∧ (0 < node → ∀ v, 0 ≤ v → v ≤ 10000 → AtR N bm W0 ps loads bores need bx node v) := by
  intro d
  induction d with
  | zero => intro node h1 h2; omega
  | succ d ih =>
    intro node h1 h2
    have hall : ∀ v, 0 ≤ v → v ≤ 10000 → AllR N bm W0 ps loads bores need bx node v := fun v a b =>
      all_ N bm W0 ps loads bores need pump bx bc node v A L B c cl cb hS hok h1 a b (fun k hk => by
        have hg := kids_gt hok.t hk
        exact (ih k hg.2 (by omega)).2 (by omega) v a b)
    exact ⟨hall, fun h0 v a b => at_ N bm W0 ps loads bores need pump bx bc node v A L B c cl cb hS hok h0 h1 a b hall⟩
end Go.Proofs.Ytepibjfmeibgcaa
/- What line.Plan returns. -/
namespace Go.Proofs.Ytepibjfmeibgcaa
open Go.RowKit Go.Shelf
open Go.Maps (Keyed)
/-- The bores, their cost and the error. -/
def PlanR (base : Nat) (e : Ending) (w' : World) (xs : List Int) (cost err : Int) : Prop :=
  ∃ v, e = .returned (.tuple #[v, .int .i64 cost, .int .i64 err]) ∧ w'.ownsRow base 3 1 v xs.length (xs.map I)
theorem planR_nil {base : Nat} {w : World} (cost err : Int) : PlanR base (.returned (.tuple #[.slice none 0 0, .int .i64 cost, .int .i64 err])) w [] cost err := ⟨_, rfl, rfl, .inl ⟨rfl, rfl⟩⟩
set_option maxHeartbeats 800000 in
set_option maxRecDepth 100000 in
theorem plan_err (n : Net) (A B D : Option Addr) (c lf cb nb cd : Nat) (need : Int) (l1 v1 l2 v2 : List Int) (m : Nat) (err : Int) (w : World) (he : err ≠ 0)
    (h : ∀ o, Calls Try.prog 57 #[.agg #[.int .i64 n.pump, .slice A n.pipes.length c], .slice B lf cb, .slice none 0 0] (w.alloc o) fun e w' => BothR (w.alloc o).heap.size e w' m l1 v1 l2 v2 err ∧ Below (w.alloc o).heap.size (w.alloc o) w') :
    Calls Try.prog 16 #[.agg #[.int .i64 n.pump, .slice A n.pipes.length c], .slice B lf cb, .slice D nb cd, .int .i64 need] w fun e w' => PlanR w.heap.size e w' [] 0 err ∧ Below w.heap.size w w' := by
  have H := Lib.hid h
  have hb : (err != 0) = true := by simp [he]
  clear h
  go_enter Try.func16, Try.ntmps16
  go_wp2_with (go_at_call 57; refine (H.out _).mono ?_; rintro e w1 ⟨⟨A1, A2, A3, A4, rfl, a1, a2, a3, a4⟩, hb⟩; have hB1 := Below.step (B := w.heap.size) (a := w) (by repeat (first | exact Below.refl _ _ | exact (Below.refl _ _) | assumption | (refine Below.setCell ?_ (by first | omega | (simp; done) | (simp; omega) | (simp [World.setCell]; done) | (simp [World.setCell]; omega)) _) | (refine Below.alloc ?_ (by first | omega | (simp; done) | (simp; omega) | (simp [World.setCell]; done) | (simp [World.setCell]; omega)) _) | (refine Below.drewN_ ?_ _) | (refine Below.drew ?_))) hb (by first | omega | (simp; done) | (simp; omega) | (simp [World.setCell]; done) | (simp [World.setCell]; omega)); have hz1 := hb.size; simp only [World.size_alloc] at hz1; obtain ⟨la0, la1, la2, la3, la4, la5⟩ := lt6 (show w.heap.size < w1.heap.size by omega))
  go_ret3
  exact ⟨planR_nil _ _, (by repeat (first | exact Below.refl _ _ | exact (Below.refl _ _) | assumption | (refine Below.setCell ?_ (by first | omega | (simp; done) | (simp; omega) | (simp [World.setCell]; done) | (simp [World.setCell]; omega)) _) | (refine Below.alloc ?_ (by first | omega | (simp; done) | (simp; omega) | (simp [World.setCell]; done) | (simp [World.setCell]; omega)) _) | (refine Below.drewN_ ?_ _) | (refine Below.drew ?_)))⟩
set_option maxHeartbeats 800000 in
set_option maxRecDepth 100000 in
theorem plan_long (n : Net) (A B D : Option Addr) (c lf cb nb cd : Nat) (need : Int) (l1 v1 l2 v2 : List Int) (m : Nat) (w : World) (he : 6 < nb) (hnb : nb ≤ maxLen)
    (h : ∀ o, Calls Try.prog 57 #[.agg #[.int .i64 n.pump, .slice A n.pipes.length c], .slice B lf cb, .slice none 0 0] (w.alloc o) fun e w' => BothR (w.alloc o).heap.size e w' m l1 v1 l2 v2 0 ∧ Below (w.alloc o).heap.size (w.alloc o) w') :
    Calls Try.prog 16 #[.agg #[.int .i64 n.pump, .slice A n.pipes.length c], .slice B lf cb, .slice D nb cd, .int .i64 need] w fun e w' => PlanR w.heap.size e w' [] 0 5 ∧ Below w.heap.size w w' := by
  have H := Lib.hid h
  clear h
  unfold maxLen at hnb
  go_enter Try.func16, Try.ntmps16
  go_wp2_with (go_at_call 57; refine (H.out _).mono ?_; rintro e w1 ⟨⟨A1, A2, A3, A4, rfl, a1, a2, a3, a4⟩, hb⟩; have hB1 := Below.step (B := w.heap.size) (a := w) (by repeat (first | exact Below.refl _ _ | exact (Below.refl _ _) | assumption | (refine Below.setCell ?_ (by first | omega | (simp; done) | (simp; omega) | (simp [World.setCell]; done) | (simp [World.setCell]; omega)) _) | (refine Below.alloc ?_ (by first | omega | (simp; done) | (simp; omega) | (simp [World.setCell]; done) | (simp [World.setCell]; omega)) _) | (refine Below.drewN_ ?_ _) | (refine Below.drew ?_))) hb (by first | omega | (simp; done) | (simp; omega) | (simp [World.setCell]; done) | (simp [World.setCell]; omega)); have hz1 := hb.size; simp only [World.size_alloc] at hz1; obtain ⟨la0, la1, la2, la3, la4, la5⟩ := lt6 (show w.heap.size < w1.heap.size by omega))
  go_ret3
  exact ⟨planR_nil _ _, (by repeat (first | exact Below.refl _ _ | exact (Below.refl _ _) | assumption | (refine Below.setCell ?_ (by first | omega | (simp; done) | (simp; omega) | (simp [World.setCell]; done) | (simp [World.setCell]; omega)) _) | (refine Below.alloc ?_ (by first | omega | (simp; done) | (simp; omega) | (simp [World.setCell]; done) | (simp [World.setCell]; omega)) _) | (refine Below.drewN_ ?_ _) | (refine Below.drew ?_)))⟩
set_option maxHeartbeats 800000 in
set_option maxRecDepth 100000 in
theorem plan_bad (n : Net) (A B D : Option Addr) (c lf cb cd lo hi : Nat) (need : Int) (l1 v1 l2 v2 : List Int) (bores : List Bor) (m : Nat) (w : World) (hR : RdO w lo hi D bores) (hhi : hi ≤ w.heap.size) (he : bores.length ≤ 6) (hbad : bores = [] ∨ boresB bores = false)
    (h : ∀ o, Calls Try.prog 57 #[.agg #[.int .i64 n.pump, .slice A n.pipes.length c], .slice B lf cb, .slice none 0 0] (w.alloc o) fun e w' => BothR (w.alloc o).heap.size e w' m l1 v1 l2 v2 0 ∧ Below (w.alloc o).heap.size (w.alloc o) w') :
    Calls Try.prog 16 #[.agg #[.int .i64 n.pump, .slice A n.pipes.length c], .slice B lf cb, .slice D bores.length cd, .int .i64 need] w fun e w' => PlanR w.heap.size e w' [] 0 2 ∧ Below w.heap.size w w' := by
  have H := Lib.hid h
  clear h
  by_cases h0 : bores.length = 0
  · rw [h0]
    go_enter Try.func16, Try.ntmps16
    go_wp2_with (go_at_call 57; refine (H.out _).mono ?_; rintro e w1 ⟨⟨A1, A2, A3, A4, rfl, a1, a2, a3, a4⟩, hb⟩; have hB1 := Below.step (B := w.heap.size) (a := w) (by repeat (first | exact Below.refl _ _ | exact (Below.refl _ _) | assumption | (refine Below.setCell ?_ (by first | omega | (simp; done) | (simp; omega) | (simp [World.setCell]; done) | (simp [World.setCell]; omega)) _) | (refine Below.alloc ?_ (by first | omega | (simp; done) | (simp; omega) | (simp [World.setCell]; done) | (simp [World.setCell]; omega)) _) | (refine Below.drewN_ ?_ _) | (refine Below.drew ?_))) hb (by first | omega | (simp; done) | (simp; omega) | (simp [World.setCell]; done) | (simp [World.setCell]; omega)); have hz1 := hb.size; simp only [World.size_alloc] at hz1; obtain ⟨la0, la1, la2, la3, la4, la5⟩ := lt6 (show w.heap.size < w1.heap.size by omega))
    go_ret3
    exact ⟨planR_nil _ _, (by repeat (first | exact Below.refl _ _ | exact (Below.refl _ _) | assumption | (refine Below.setCell ?_ (by first | omega | (simp; done) | (simp; omega) | (simp [World.setCell]; done) | (simp [World.setCell]; omega)) _) | (refine Below.alloc ?_ (by first | omega | (simp; done) | (simp; omega) | (simp [World.setCell]; done) | (simp [World.setCell]; omega)) _) | (refine Below.drewN_ ?_ _) | (refine Below.drew ?_)))⟩
  · have hb2 := Lib.hid (show boresB bores = false by rcases hbad with rfl | h; exact absurd rfl h0; exact h)
    have h1 : ((bores.length : Int) == 0) = false := by simp; exact fun h => h0 (by simp [h])
    have h2 : 0 < bores.length := by omega
    clear hbad h0
    go_enter Try.func16, Try.ntmps16
    go_wp2_with (first
      | (go_at_call 57; refine (H.out _).mono ?_; rintro e w1 ⟨⟨A1, A2, A3, A4, rfl, a1, a2, a3, a4⟩, hb⟩; have hB1 := Below.step (B := w.heap.size) (a := w) (by repeat (first | exact Below.refl _ _ | exact (Below.refl _ _) | assumption | (refine Below.setCell ?_ (by first | omega | (simp; done) | (simp; omega) | (simp [World.setCell]; done) | (simp [World.setCell]; omega)) _) | (refine Below.alloc ?_ (by first | omega | (simp; done) | (simp; omega) | (simp [World.setCell]; done) | (simp [World.setCell]; omega)) _) | (refine Below.drewN_ ?_ _) | (refine Below.drew ?_))) hb (by first | omega | (simp; done) | (simp; omega) | (simp [World.setCell]; done) | (simp [World.setCell]; omega)); have hz1 := hb.size; simp only [World.size_alloc] at hz1; obtain ⟨la0, la1, la2, la3, la4, la5⟩ := lt6 (show w.heap.size < w1.heap.size by omega))
      | (go_at_call 58; refine (containsB_ D cd lo hi bores _ (((hR.below hB1 hhi).alloc (by omega) _).alloc (by simp; omega) _) (by simp; omega) (by unfold maxLen; omega)).mono ?_; rintro e w2 ⟨rfl, hb2'⟩; rw [hb2.out]; have hB2 := Below.step (B := w.heap.size) (a := w) (by repeat (first | exact Below.refl _ _ | exact (Below.refl _ _) | assumption | (refine Below.setCell ?_ (by first | omega | (simp; done) | (simp; omega) | (simp [World.setCell]; done) | (simp [World.setCell]; omega)) _) | (refine Below.alloc ?_ (by first | omega | (simp; done) | (simp; omega) | (simp [World.setCell]; done) | (simp [World.setCell]; omega)) _) | (refine Below.drewN_ ?_ _) | (refine Below.drew ?_))) hb2' (by first | omega | (simp; done) | (simp; omega) | (simp [World.setCell]; done) | (simp [World.setCell]; omega))))
    go_ret3
    exact ⟨planR_nil _ _, (by repeat (first | exact Below.refl _ _ | exact (Below.refl _ _) | assumption | (refine Below.setCell ?_ (by first | omega | (simp; done) | (simp; omega) | (simp [World.setCell]; done) | (simp [World.setCell]; omega)) _) | (refine Below.alloc ?_ (by first | omega | (simp; done) | (simp; omega) | (simp [World.setCell]; done) | (simp [World.setCell]; omega)) _) | (refine Below.drewN_ ?_ _) | (refine Below.drew ?_)))⟩
end Go.Proofs.Ytepibjfmeibgcaa
/- What line.Plan returns where nothing is wrong. -/
namespace Go.Proofs.Ytepibjfmeibgcaa
open Go.RowKit Go.Shelf
open Go.Maps (Keyed)
set_option linter.unusedVariables false
set_option maxHeartbeats 800000 in
set_option maxRecDepth 100000 in
theorem plan_need (n : Net) (A B D : Option Addr) (c lf cb cd lo hi : Nat) (need : Int) (l1 v1 l2 v2 : List Int) (bores : List Bor) (m : Nat) (w : World) (hR : RdO w lo hi D bores) (hhi : hi ≤ w.heap.size) (he : bores.length ≤ 6) (h0 : 0 < bores.length) (hb : boresB bores = true) (hneed : inB 0 10000 need = false)
    (h : ∀ o, Calls Try.prog 57 #[.agg #[.int .i64 n.pump, .slice A n.pipes.length c], .slice B lf cb, .slice none 0 0] (w.alloc o) fun e w' => BothR (w.alloc o).heap.size e w' m l1 v1 l2 v2 0 ∧ Below (w.alloc o).heap.size (w.alloc o) w') :
    Calls Try.prog 16 #[.agg #[.int .i64 n.pump, .slice A n.pipes.length c], .slice B lf cb, .slice D bores.length cd, .int .i64 need] w fun e w' => PlanR w.heap.size e w' [] 0 3 ∧ Below w.heap.size w w' := by
  have H := Lib.hid h
  have HN := Lib.hid hneed
  have hb2 := Lib.hid hb
  have h1 : ((bores.length : Int) == 0) = false := by simp; exact fun h => by simp [h] at h0
  clear h hneed hb
  go_enter Try.func16, Try.ntmps16
  go_wp2_with (first
      | (go_at_call 57; refine (H.out _).mono ?_; rintro e w1 ⟨⟨A1, A2, A3, A4, rfl, a1, a2, a3, a4⟩, hb⟩; have hB1 := Below.step (B := w.heap.size) (a := w) (by repeat (first | exact Below.refl _ _ | exact (Below.refl _ _) | assumption | (refine Below.setCell ?_ (by first | omega | (simp; done) | (simp; omega) | (simp [World.setCell]; done) | (simp [World.setCell]; omega)) _) | (refine Below.alloc ?_ (by first | omega | (simp; done) | (simp; omega) | (simp [World.setCell]; done) | (simp [World.setCell]; omega)) _) | (refine Below.drewN_ ?_ _) | (refine Below.drew ?_))) hb (by first | omega | (simp; done) | (simp; omega) | (simp [World.setCell]; done) | (simp [World.setCell]; omega)); have hz1 := hb.size; simp only [World.size_alloc] at hz1; obtain ⟨la0, la1, la2, la3, la4, la5⟩ := lt6 (show w.heap.size < w1.heap.size by omega))
      | (go_at_call 58; refine (containsB_ D cd lo hi bores _ (((hR.below hB1 hhi).alloc (by omega) _).alloc (by simp; omega) _) (by simp; omega) (by unfold maxLen; omega)).mono ?_; rintro e w2 ⟨rfl, hb2'⟩; rw [hb2.out]; have hB2 := Below.step (B := w.heap.size) (a := w) (by repeat (first | exact Below.refl _ _ | exact (Below.refl _ _) | assumption | (refine Below.setCell ?_ (by first | omega | (simp; done) | (simp; omega) | (simp [World.setCell]; done) | (simp [World.setCell]; omega)) _) | (refine Below.alloc ?_ (by first | omega | (simp; done) | (simp; omega) | (simp [World.setCell]; done) | (simp [World.setCell]; omega)) _) | (refine Below.drewN_ ?_ _) | (refine Below.drew ?_))) hb2' (by first | omega | (simp; done) | (simp; omega) | (simp [World.setCell]; done) | (simp [World.setCell]; omega)); have hz2 := hb2'.size; simp only [World.size_alloc] at hz2)
      | (go_at_call 61; refine (within_one 0 10000 need _ _ _ (by go_simp) (by go_simp)).mono ?_; rintro e w' ⟨rfl, o1, o2, rfl⟩; rw [HN.out]))
  go_ret3
  exact ⟨planR_nil _ _, (by repeat (first | exact Below.refl _ _ | exact (Below.refl _ _) | assumption | (refine Below.setCell ?_ (by first | omega | (simp; done) | (simp; omega) | (simp [World.setCell]; done) | (simp [World.setCell]; omega)) _) | (refine Below.alloc ?_ (by first | omega | (simp; done) | (simp; omega) | (simp [World.setCell]; done) | (simp [World.setCell]; omega)) _) | (refine Below.drewN_ ?_ _) | (refine Below.drew ?_)))⟩
theorem infoRow : (Try.prog.info? 31).map (fun i => (i.zero, i.size, i.bytes)) = some (some (.slice none 0 0), 1, 24) := by kernel_rfl
theorem grown_setrow {W V : World} {r : Nat} (h : W.grownBy V (some r)) {p : Addr} (hp : p.block = r) (u : Value) : W.grownBy (V.setCell p u) (some r) :=
  ⟨h.os, h.tape, h.output, by have := h.size; simpa [World.setCell] using this, fun k hk hr => (Below.heap_setCell _ _ _ _ (fun e => hr (by rw [e, hp]))).trans (h.block k hk hr)⟩
theorem BlkI.grow {w w' : World} {g : Nat} {xs : List Int} {r : Option Nat} (h : BlkI w g xs) (hg : w.grownBy w' r) (hne : some g ≠ r) : BlkI w' g xs := by
  have hl := h.lt
  obtain ⟨cur, h, ht⟩ := h
  exact ⟨cur, (hg.block _ hl hne).trans h, ht⟩
theorem map_I_flat (xs : List Int) : xs.map I = xs.flatMap encI := by
  induction xs with
  | nil => rfl
  | cons x xs ih => rw [List.map_cons, ih]; rfl
/-- The choices read from the pump on: the vacuums and the bores. -/
def plF (rec : Nat → Int → Cho) : List Pipe → List Int → List Int → List Int × List Int
  | [], vs, bs => (vs, bs)
  | p :: ps, vs, bs => plF rec ps (vs ++ [(rec vs.length (vs.getD p.parent.toNat 0)).vac]) (bs ++ [(rec vs.length (vs.getD p.parent.toNat 0)).index])
theorem plF_snoc (rec : Nat → Int → Cho) (p : Pipe) : ∀ (ps : List Pipe) (vs bs : List Int), plF rec (ps ++ [p]) vs bs =
    ((plF rec ps vs bs).1 ++ [(rec (plF rec ps vs bs).1.length ((plF rec ps vs bs).1.getD p.parent.toNat 0)).vac], (plF rec ps vs bs).2 ++ [(rec (plF rec ps vs bs).1.length ((plF rec ps vs bs).1.getD p.parent.toNat 0)).index]) := by
  intro ps
  induction ps with
  | nil => intro vs bs; rfl
  | cons q ps ih => intro vs bs; simp only [List.cons_append, plF]; exact ih _ _
theorem plF_len (rec : Nat → Int → Cho) : ∀ (ps : List Pipe) (vs bs : List Int), (plF rec ps vs bs).1.length = vs.length + ps.length ∧ (plF rec ps vs bs).2.length = bs.length + ps.length := by
  intro ps
  induction ps with
  | nil => intro vs bs; exact ⟨rfl, rfl⟩
  | cons q ps ih => intro vs bs; simp only [plF, ih, List.length_append, List.length_cons, List.length_nil]; omega
def planL (ps : List Pipe) (loads : List Int) (bores : List Bor) (need pump : Int) : List Int := (plF (atL ps loads bores need) (ps.drop 1) [pump] []).2
/-- What Plan comes to where nothing is wrong. -/
def planF (ps : List Pipe) (loads : List Int) (bores : List Bor) (need pump : Int) : List Int × Int × Int :=
  if (allF (atL ps loads bores need) pump (kids ps 0) 0).2 then (planL ps loads bores need pump, (allF (atL ps loads bores need) pump (kids ps 0) 0).1, 0) else ([], 0, 7)
/-- The nodes before m whose parent is a node. -/
def kidsTo (ps : List Pipe) (m q : Nat) : List Int := ((List.range m).filter fun (j : Nat) => decide (0 < j ∧ par ps j = q)).map Int.ofNat
theorem kidsTo_all (ps : List Pipe) (q : Nat) : kidsTo ps ps.length q = (kids ps q).map Int.ofNat := rfl
theorem kidsTo_one (ps : List Pipe) : kidsTo ps 1 = fun _ => [] := by funext q; simp [kidsTo, List.range_succ]
theorem kidsTo_succ (ps : List Pipe) (k p : Nat) (hp : par ps ((k + 1 : Nat) : Int) = (p : Int)) : kidsTo ps (k + 1 + 1) = fun i => if i = p then kidsTo ps (k + 1) p ++ [((k : Int) + 1)] else kidsTo ps (k + 1) i := by
  funext q
  unfold kidsTo
  rw [List.range_succ, List.filter_append, List.map_append]
  by_cases h : q = p
  · subst h
    rw [if_pos rfl]
    simp [List.filter_cons]
    rw [if_pos (by simpa using hp)]
    simp
  · rw [if_neg h]
    have : ¬ par ps ((k + 1 : Nat) : Int) = (q : Int) := by rw [hp]; omega
    simp [List.filter_cons]
    simp at this
    simp [this]
theorem kidsTo_len (ps : List Pipe) (m q : Nat) : (kidsTo ps m q).length ≤ m := by
  unfold kidsTo
  have := List.length_filter_le (fun (j : Nat) => decide (0 < j ∧ par ps j = q)) (List.range m)
  rw [List.length_range] at this
  rw [List.length_map]; exact this
set_option maxHeartbeats 2000000 in
set_option maxRecDepth 100000 in
theorem plan_main (n : Net) (A B D : Option Addr) (c lf cb cd lo hi lop hip : Nat) (need : Int) (l1 v1 l2 v2 : List Int) (bores : List Bor) (w : World) (hP : RdP w lop hip A n.pipes) (hhp : hip ≤ w.heap.size) (hpc : n.pipes.length ≤ c) (hR : RdO w lo hi D bores) (hhi : hi ≤ w.heap.size) (h0 : 0 < bores.length) (hn1 : 1 ≤ n.pipes.length) (hpump : 0 ≤ n.pump ∧ n.pump ≤ 10000)
    (hok : PlOk n.pipes l2 bores need n.pump)
    (h : ∀ o, Calls Try.prog 57 #[.agg #[.int .i64 n.pump, .slice A n.pipes.length c], .slice B lf cb, .slice none 0 0] (w.alloc o) fun e w' => BothR (w.alloc o).heap.size e w' n.pipes.length l1 v1 l2 v2 0 ∧ Below (w.alloc o).heap.size (w.alloc o) w') :
    Calls Try.prog 16 #[.agg #[.int .i64 n.pump, .slice A n.pipes.length c], .slice B lf cb, .slice D bores.length cd, .int .i64 need] w fun e w' => PlanR w.heap.size e w' (planF n.pipes l2 bores need n.pump).1 (planF n.pipes l2 bores need n.pump).2.1 (planF n.pipes l2 bores need n.pump).2.2 ∧ Below w.heap.size w w' := by
  have H := Lib.hid h
  have HN := Lib.hid (show inB 0 10000 need = true from inB_mk hok.need)
  have hb2 := Lib.hid hok.b
  have he := hok.bn
  have h1 : ((bores.length : Int) == 0) = false := by simp; exact fun h => by simp [h] at h0
  clear h
  go_enter Try.func16, Try.ntmps16
  go_upto_region 10 with (first
      | (go_at_call 57; refine (H.out _).mono ?_; rintro e w1 ⟨⟨A1, A2, A3, A4, rfl, a1, a2, a3, a4⟩, hb⟩; have hB1 := Below.step (B := w.heap.size) (a := w) (by repeat (first | exact Below.refl _ _ | exact (Below.refl _ _) | assumption | (refine Below.setCell ?_ (by first | omega | (simp; done) | (simp; omega) | (simp [World.setCell]; done) | (simp [World.setCell]; omega)) _) | (refine Below.alloc ?_ (by first | omega | (simp; done) | (simp; omega) | (simp [World.setCell]; done) | (simp [World.setCell]; omega)) _) | (refine Below.drewN_ ?_ _) | (refine Below.drew ?_))) hb (by first | omega | (simp; done) | (simp; omega) | (simp [World.setCell]; done) | (simp [World.setCell]; omega)); have hz1 := hb.size; simp only [World.size_alloc] at hz1; obtain ⟨la0, la1, la2, la3, la4, la5⟩ := lt6 (show w.heap.size < w1.heap.size by omega))
      | (go_at_call 58; refine (containsB_ D cd lo hi bores _ (((hR.below hB1 hhi).alloc (by omega) _).alloc (by simp; omega) _) (by simp; omega) (by unfold maxLen; omega)).mono ?_; rintro e w2 ⟨rfl, hb2'⟩; rw [hb2.out]; have hB2 := Below.step (B := w.heap.size) (a := w) (by repeat (first | exact Below.refl _ _ | exact (Below.refl _ _) | assumption | (refine Below.setCell ?_ (by first | omega | (simp; done) | (simp; omega) | (simp [World.setCell]; done) | (simp [World.setCell]; omega)) _) | (refine Below.alloc ?_ (by first | omega | (simp; done) | (simp; omega) | (simp [World.setCell]; done) | (simp [World.setCell]; omega)) _) | (refine Below.drewN_ ?_ _) | (refine Below.drew ?_))) hb2' (by first | omega | (simp; done) | (simp; omega) | (simp [World.setCell]; done) | (simp [World.setCell]; omega)); have hz2 := hb2'.size; simp only [World.size_alloc] at hz2)
      | (go_at_call 61; refine (within_one 0 10000 need _ _ _ (by go_simp) (by go_simp)).mono ?_; rintro e w' ⟨rfl, o1, o2, rfl⟩; rw [HN.out]))
  have hE1 : Below w1.heap.size w1 (((w2.alloc (.cells #[.int .i64 need] 3)).alloc o1).alloc o2) := (((((((Below.refl _ w1).alloc (Nat.le_refl _) _).alloc (by simp) _).trans (hb2'.mono (by simp; omega))).alloc (by omega) _).alloc (by simp; omega) _).alloc (by simp; omega) _)
  have hNet : Blk (((w2.alloc (.cells #[.int .i64 need] 3)).alloc o1).alloc o2) w.heap.size 24 #[.int .i64 n.pump, .slice A n.pipes.length c] := (((Blk.new w _ _).below hb (by simp)).below hE1 (by omega))
  have hM3 : Blk (((w2.alloc (.cells #[.int .i64 need] 3)).alloc o1).alloc o2) (w1.heap.size + 1) 103 #[.slice A3 n.pipes.length n.pipes.length, .slice A4 n.pipes.length n.pipes.length] := ((((blk_new' (w1.alloc _) _ _ _ (by simp)).below hb2' (by simp)).alloc _).alloc _).alloc _
  have hl2 := a3.below hE1 (Nat.le_refl _)
  have hEB : Below w.heap.size w (((w2.alloc (.cells #[.int .i64 need] 3)).alloc o1).alloc o2) := hB1.trans (hE1.mono (by omega))
  have hES : w1.heap.size + 1 < (((w2.alloc (.cells #[.int .i64 need] 3)).alloc o1).alloc o2).heap.size := by simp; omega
  clear a1 a2 a3 a4 hb2' hB2 hE1 hb hz2 la0 la1 la2 la3 la4 la5
  generalize ((w2.alloc (.cells #[.int .i64 need] 3)).alloc o1).alloc o2 = V0 at *
  have n0 := hNet.cell 0; have nf0 := hNet.frozen 0; have n1 := hNet.cell 1; have nf1 := hNet.frozen 1; simp at n0 n1
  have s0 := hM3.cell 0; have sf0 := hM3.frozen 0; have s1 := hM3.cell 1; have sf1 := hM3.frozen 1; simp at s0 s1
  obtain ⟨i0, ei0, ez0, ez1, ez2⟩ := info_parts infoRow
  have hmk := run_make_cell (P := Try.prog) Try.underlying112 ei0 ez0 ez1 (by omega) rfl n.pipes.length (by have := hok.n; omega)
  have hmm := @run_makeMap Try.prog
  clear ei0 ez0 ez1 ez2
  have hnl := hNet.lt
  go_cut [13] from 49 to 61 (fun v13 wx => ∃ bc bm bx : Nat, v13 = .pointer (some ⟨bx, 0, none⟩) ∧ Blk wx bx 115 #[.int .i64 n.pump, .slice A n.pipes.length c, .slice A3 n.pipes.length n.pipes.length, .slice (some ⟨bc, 0, none⟩) n.pipes.length n.pipes.length, .slice D bores.length cd, .int .i64 need, .map (some bm)] ∧
      Blk wx bc 31 (List.replicate n.pipes.length (.slice none 0 0)).toArray ∧ PlT n.pipes l2 bores need wx bm ∧ bc ≠ bm ∧ bx ≠ bm ∧ bc ≠ bx ∧ V0.heap.size ≤ bc ∧ V0.heap.size ≤ bm ∧ V0.heap.size ≤ bx ∧ Below V0.heap.size V0 wx)
  case first =>
    go_region_held3 (fun w' => w'.cell? ⟨w.heap.size, 0, none⟩ = some (.int .i64 n.pump) ∧ w'.cell? ⟨w.heap.size, 1, none⟩ = some (.slice A n.pipes.length c) ∧ w'.cell? ⟨w1.heap.size + 1, 0, none⟩ = some (.slice A3 n.pipes.length n.pipes.length)) (first | exact ⟨n0, n1, s0⟩ | exact ⟨(Below.cell (B := V0.heap.size) (w := V0) (by repeat (first | exact Below.refl _ _ | exact (Below.refl _ _) | assumption | (refine Below.setCell ?_ (by first | omega | (simp; done) | (simp; omega) | (simp [World.setCell]; done) | (simp [World.setCell]; omega)) _) | (refine Below.alloc ?_ (by first | omega | (simp; done) | (simp; omega) | (simp [World.setCell]; done) | (simp [World.setCell]; omega)) _) | (refine Below.drewN_ ?_ _) | (refine Below.drew ?_))) (by omega)).trans n0, (Below.cell (B := V0.heap.size) (w := V0) (by repeat (first | exact Below.refl _ _ | exact (Below.refl _ _) | assumption | (refine Below.setCell ?_ (by first | omega | (simp; done) | (simp; omega) | (simp [World.setCell]; done) | (simp [World.setCell]; omega)) _) | (refine Below.alloc ?_ (by first | omega | (simp; done) | (simp; omega) | (simp [World.setCell]; done) | (simp [World.setCell]; omega)) _) | (refine Below.drewN_ ?_ _) | (refine Below.drew ?_))) (by omega)).trans n1, (Below.cell (B := V0.heap.size) (w := V0) (by repeat (first | exact Below.refl _ _ | exact (Below.refl _ _) | assumption | (refine Below.setCell ?_ (by first | omega | (simp; done) | (simp; omega) | (simp [World.setCell]; done) | (simp [World.setCell]; omega)) _) | (refine Below.alloc ?_ (by first | omega | (simp; done) | (simp; omega) | (simp [World.setCell]; done) | (simp [World.setCell]; omega)) _) | (refine Below.drewN_ ?_ _) | (refine Below.drew ?_))) (by omega)).trans s0⟩) (fail)
    all_goals (go_wp2_with fail; go_meet)
    all_goals rw [← List.toArray_replicate]
    all_goals first
      | exact ⟨V0.heap.size, V0.heap.size + 1, V0.heap.size + 1 + 1, rfl, (by repeat (first | (with_reducible refine Blk.drew ?_) | ((with_reducible refine blk_new' _ _ _ _ ?_); (simp; done)) | (with_reducible refine Blk.alloc ?_ _))), (by repeat (first | (with_reducible refine Blk.drew ?_) | ((with_reducible refine blk_new' _ _ _ _ ?_); (simp; done)) | (with_reducible refine Blk.alloc ?_ _))), ((tab_new' _ _ _ _ _ (by simp)).alloc _).drew, by omega, by omega, by omega, by omega, by omega, by omega, (by repeat (first | exact Below.refl _ _ | exact (Below.refl _ _) | assumption | (refine Below.setCell ?_ (by first | omega | (simp; done) | (simp; omega) | (simp [World.setCell]; done) | (simp [World.setCell]; omega)) _) | (refine Below.alloc ?_ (by first | omega | (simp; done) | (simp; omega) | (simp [World.setCell]; done) | (simp [World.setCell]; omega)) _) | (refine Below.drewN_ ?_ _) | (refine Below.drew ?_)))⟩
      | exact ⟨V0.heap.size + 1, V0.heap.size, V0.heap.size + 1 + 1, rfl, (by repeat (first | (with_reducible refine Blk.drew ?_) | ((with_reducible refine blk_new' _ _ _ _ ?_); (simp; done)) | (with_reducible refine Blk.alloc ?_ _))), (by repeat (first | (with_reducible refine Blk.drew ?_) | ((with_reducible refine blk_new' _ _ _ _ ?_); (simp; done)) | (with_reducible refine Blk.alloc ?_ _))), (((tab_new' _ _ _ _ _ rfl).alloc _).alloc _).drew, by omega, by omega, by omega, by omega, by omega, by omega, (by repeat (first | exact Below.refl _ _ | exact (Below.refl _ _) | assumption | (refine Below.setCell ?_ (by first | omega | (simp; done) | (simp; omega) | (simp [World.setCell]; done) | (simp [World.setCell]; omega)) _) | (refine Below.alloc ?_ (by first | omega | (simp; done) | (simp; omega) | (simp [World.setCell]; done) | (simp [World.setCell]; omega)) _) | (refine Below.drewN_ ?_ _) | (refine Below.drew ?_)))⟩
  case rest =>
    obtain ⟨bc, bm, bx, rfl, hX, hC, hT, e1, e2, e3, z1, z2, z3, hBc⟩ := hcut
    have hp1 := (hP.below hEB hhp).below hBc (by have := hEB.size; omega)
    have hNetc := hNet.below hBc hnl
    clear n0 n1 s0 s1 nf0 nf1 sf0 sf1
    have n0 := hNetc.cell 0; have nf0 := hNetc.frozen 0; have n1 := hNetc.cell 1; have nf1 := hNetc.frozen 1; simp at n0 n1
    have hnc := hNetc.lt
    have hmx := hX.lt
    have hmc := hC.lt
    have hmt := hT.lt
    have HR0 : KR 31 3 wc.heap.size wc bc n.pipes.length (fun _ => []) := KR.new hC
    have hpl := hok.n
    obtain ⟨i5, ei5, ey0, ey1, ey2⟩ := info_parts infoPipe
    have ei5' := ei5
    have ey1' := ey1
    obtain ⟨A5, hA5, hsl⟩ := run_from1 (P := Try.prog) Try.underlying22 ei5 A n.pipes.length c hn1
    rw [ey1] at hA5
    have hR5 := hp1.from1 hpc hA5
    obtain ⟨i3, ei3, ez0, ez1, ez2⟩ := info_parts infoInt
    clear hA5 ei5 ey0 ey1 ey2
    go_wp2_with fail
    go_loopw [66] (fun i wr => ∃ k : Nat, k ≤ n.pipes.length - 1 ∧ i = .int .i64 k ∧ KR 31 3 wc.heap.size wr bc n.pipes.length (kidsTo n.pipes (k + 1)) ∧ wc.grownBy wr (some bc)) (fun i _ => n.pipes.length - 1 - (intOf i).toNat)
    case atStart => exact ⟨0, by omega, rfl, by rw [kidsTo_one]; exact HR0, World.grownBy.refl _ _⟩
    case round =>
      obtain ⟨k, hk, rfl, hKR, hg⟩ := hrel
      have hzz := hg.size
      by_cases hlt : k < n.pipes.length - 1
      · have hlt2 : k + 1 < n.pipes.length := by omega
        have hlt3 : (k : Int) < ((n.pipes.length - 1 : Nat) : Int) := by omega
        have hK := Kp.grown (N := wc.heap.size) (bm := bc) (W0 := wc) ⟨Nat.le_refl _, fun _ _ _ => rfl⟩ hg
        have hX1 := hK.blk hX hmx (by omega)
        obtain ⟨b, off, rfl, _, hbb, c0, c1, c2, c3, c4⟩ := RdP.at_ (hK.rd hR5 ⟨by have := hEB.size; have := hBc.size; omega, .inl (by have := hEB.size; omega)⟩) (show k < (n.pipes.drop 1).length by rw [List.length_drop]; omega)
        rw [show (n.pipes.drop 1)[k]'(by rw [List.length_drop]; omega) = n.pipes[k + 1] by rw [List.getElem_drop]; congr 1; omega] at c0 c1 c2 c3 c4
        obtain ⟨q, hq, hqk⟩ := hid_par (ps := n.pipes) (x := k + 1) (p := n.pipes[k + 1]) (pAt_eq hlt2) hok.t (by omega) hlt2
        have hpar : par n.pipes ((k + 1 : Nat) : Int) = (q : Int) := by rw [← hq, ← pAt_eq hlt2]; unfold par pAt; rw [Int.toNat_natCast]
        have hstep := Lib.hid (kidsTo_succ n.pipes k q hpar)
        rw [hq] at c0
        obtain ⟨v, hv, hrow⟩ := hKR.at_ (show q < n.pipes.length by omega)
        have hfz := hKR.frozen q
        have hlen := kidsTo_len n.pipes (k + 1) q
        clear hq hpar
        generalize n.pipes[k + 1] = pp at *
        have hq3 : (q : Int) < (n.pipes.length : Int) := by omega
        have x3 := hX1.cell 3
        simp at x3
        have hnb := hKR.lt
        have hvx : v.ownBlock ≠ some bx := fun e => by have := (owns_lt hrow e).1; omega
        have hvb : v.ownBlock ≠ some bc ∧ v.ownBlock ≠ some wr.heap.size := ⟨fun e => by have := (owns_lt hrow e).1; omega, fun e => by have := (owns_lt hrow e).2; omega⟩
        obtain ⟨lb0, lb1, lb2, lb3, lb4, lb5⟩ := lt6 (show bc < wr.heap.size by omega)
        have hlx : bx < wr.heap.size := by omega
        obtain ⟨lx0, lx1, lx2, lx3, lx4, lx5⟩ := lt6 (show bx < wr.heap.size by omega)
        go_wp2_with fail
        have u3 : (wr.alloc (.cells #[.int .i64 (q : Int), .int .i64 pp.length, .int .i64 pp.bore, .int .i64 pp.drop, .int .i64 pp.taps] 54)).cell? ⟨bx, 3, none⟩ = _ := (World.cell?_alloc_lt _ _ _ hlx).trans x3
        have uv : (wr.alloc (.cells #[.int .i64 (q : Int), .int .i64 pp.length, .int .i64 pp.bore, .int .i64 pp.drop, .int .i64 pp.taps] 54)).cell? ⟨bc, q, none⟩ = _ := (World.cell?_alloc_lt _ _ _ hnb).trans hv
        have uf : (wr.alloc (.cells #[.int .i64 (q : Int), .int .i64 pp.length, .int .i64 pp.bore, .int .i64 pp.drop, .int .i64 pp.taps] 54)).frozen? ⟨bc, q, none⟩ = false := (World.frozen?_of_block (a := ⟨bc, q, none⟩) (Below.heap_alloc _ _ _ hnb)).trans hfz
        have up : (wr.alloc (.cells #[.int .i64 (q : Int), .int .i64 pp.length, .int .i64 pp.bore, .int .i64 pp.drop, .int .i64 pp.taps] 54)).cell? ⟨wr.heap.size, 0, none⟩ = some (.int .i64 (q : Int)) := (Blk.new wr 54 #[.int .i64 (q : Int), .int .i64 pp.length, .int .i64 pp.bore, .int .i64 pp.drop, .int .i64 pp.taps]).cell 0
        have urow := hrow.alloc (.cells #[.int .i64 (q : Int), .int .i64 pp.length, .int .i64 pp.bore, .int .i64 pp.drop, .int .i64 pp.taps] 54)
        have uKR := hKR.grown (World.grownBy_alloc wr (.cells #[.int .i64 (q : Int), .int .i64 pp.length, .int .i64 pp.bore, .int .i64 pp.drop, .int .i64 pp.taps] 54) none)
        have ug := grown_alloc hg (.cells #[.int .i64 (q : Int), .int .i64 pp.length, .int .i64 pp.bore, .int .i64 pp.drop, .int .i64 pp.taps] 54)
        have un : wr.heap.size < (wr.alloc (.cells #[.int .i64 (q : Int), .int .i64 pp.length, .int .i64 pp.bore, .int .i64 pp.drop, .int .i64 pp.taps] 54)).heap.size := by simp
        have ux : bx < (wr.alloc (.cells #[.int .i64 (q : Int), .int .i64 pp.length, .int .i64 pp.bore, .int .i64 pp.drop, .int .i64 pp.taps] 54)).heap.size := by simp; omega
        generalize wr.alloc (.cells #[.int .i64 (q : Int), .int .i64 pp.length, .int .i64 pp.bore, .int .i64 pp.drop, .int .i64 pp.taps] 54) = U at *
        generalize wr.heap.size = nb at *
        clear lb0 lb1 lb2 lb3 lb4 lb5 lx0 lx1 lx2 lx3 lx4 lx5 x3 hv hfz hrow hX1 hKR c1 c2 c3 c4 c0
        have hub := uKR.lt
        obtain ⟨lb0, lb1, lb2, lb3, lb4, lb5⟩ := lt6 (show bc < U.heap.size by omega)
        obtain ⟨lx0, lx1, lx2, lx3, lx4, lx5⟩ := lt6 (show bx < U.heap.size by omega)
        obtain ⟨ln0, ln1, ln2, ln3, ln4, ln5⟩ := lt6 (show nb < U.heap.size by omega)
        have HW := Lib.hid (show IntKind.i64.wrap ((k : Int) + 1) = (k : Int) + 1 from IntWalk.i64_in _ (by omega))
        (refine wp_region_ht 18 (fun V => V.cell? ⟨bx, 3, none⟩ = some (.slice (some ⟨bc, 0, none⟩) n.pipes.length n.pipes.length) ∧ V.cell? ⟨nb, 0, none⟩ = some (.int .i64 (q : Int)) ∧ V.cell? ⟨bc, q, none⟩ = some v) (by kernel_rfl) (by kernel_rfl) (⟨u3, up, uv⟩) (fun hHeld => ?_); simp only [List.take_succ_cons, List.take_zero, List.drop_succ_cons, List.drop_zero, List.length_cons, List.length_nil, Nat.reduceAdd])
        (refine wpAnyH_take (i := 0) (oi := _) (v := _) rfl (by kernel_rfl) (by kernel_rfl) (by kernel_rfl) (fun _ _ _ h => h) (Or.inl ⟨by rfl, by ((intro w hSw; (try dsimp only at hSw)); first | (go_simp; done) | (go_simp; with_reducible rfl))⟩) (by assumption) ?_; (try simp only [Act.put]); (try simp only [List.setIfInBounds_toArray]); (try simp only [List.set_cons_succ]); (try simp only [List.set_cons_zero])); (refine wpAnyH_take (i := 1) (oi := _) (v := _) rfl (by kernel_rfl) (by kernel_rfl) (by kernel_rfl) (fun _ _ _ h => h) (Or.inl ⟨by rfl, by ((intro w hSw; (try dsimp only at hSw)); first | (go_simp; done) | (go_simp; with_reducible rfl))⟩) (by assumption) ?_; (try simp only [Act.put]); (try simp only [List.setIfInBounds_toArray]); (try simp only [List.set_cons_succ]); (try simp only [List.set_cons_zero])); (refine wpAnyH_take (i := 2) (oi := _) (v := _) rfl (by kernel_rfl) (by kernel_rfl) (by kernel_rfl) (fun _ _ _ h => h) (Or.inl ⟨by rfl, by ((intro w hSw; (try dsimp only at hSw)); first | (go_simp; done) | (go_simp; with_reducible rfl))⟩) (by assumption) ?_; (try simp only [Act.put]); (try simp only [List.setIfInBounds_toArray]); (try simp only [List.set_cons_succ]); (try simp only [List.set_cons_zero])); (refine wpAnyH_take (i := 3) (oi := _) (v := _) rfl (by kernel_rfl) (by kernel_rfl) (by kernel_rfl) (fun _ _ _ h => h) (Or.inl ⟨by rfl, by ((intro w hSw; (try dsimp only at hSw)); first | (go_simp; done) | (go_simp; with_reducible rfl))⟩) (by assumption) ?_; (try simp only [Act.put]); (try simp only [List.setIfInBounds_toArray]); (try simp only [List.set_cons_succ]); (try simp only [List.set_cons_zero])); (refine wpAnyH_take (i := 4) (oi := _) (v := _) rfl (by kernel_rfl) (by kernel_rfl) (by kernel_rfl) (fun _ _ _ h => h) (Or.inl ⟨by rfl, by ((intro w hSw; (try dsimp only at hSw)); first | (go_simp; done) | (go_simp; with_reducible rfl))⟩) (by assumption) ?_; (try simp only [Act.put]); (try simp only [List.setIfInBounds_toArray]); (try simp only [List.set_cons_succ]); (try simp only [List.set_cons_zero])); (refine wpAnyH_take (i := 5) (oi := _) (v := _) rfl (by kernel_rfl) (by kernel_rfl) (by kernel_rfl) (fun _ _ _ h => h) (Or.inl ⟨by rfl, by ((intro w hSw; (try dsimp only at hSw)); first | (go_simp; done) | (go_simp; with_reducible rfl))⟩) (by assumption) ?_; (try simp only [Act.put]); (try simp only [List.setIfInBounds_toArray]); (try simp only [List.set_cons_succ]); (try simp only [List.set_cons_zero])); (refine wpAnyH_take (i := 6) (oi := _) (v := _) rfl (by kernel_rfl) (by kernel_rfl) (by kernel_rfl) (fun _ _ _ h => h) (Or.inl ⟨by rfl, by ((intro w hSw; (try dsimp only at hSw)); first | (go_simp; done) | (go_simp; with_reducible rfl))⟩) (by assumption) ?_; (try simp only [Act.put]); (try simp only [List.setIfInBounds_toArray]); (try simp only [List.set_cons_succ]); (try simp only [List.set_cons_zero])); (refine wpAnyH_take (i := 7) (oi := _) (v := _) rfl (by kernel_rfl) (by kernel_rfl) (by kernel_rfl) (fun _ _ _ h => h) (Or.inl ⟨by rfl, by ((intro w hSw; (try dsimp only at hSw)); first | (go_simp; done) | (go_simp; with_reducible rfl))⟩) (by assumption) ?_; (try simp only [Act.put]); (try simp only [List.setIfInBounds_toArray]); (try simp only [List.set_cons_succ]); (try simp only [List.set_cons_zero])); (refine wpAnyH_take (i := 8) (oi := _) (v := _) rfl (by kernel_rfl) (by kernel_rfl) (by kernel_rfl) (fun _ _ _ h => h) (Or.inl ⟨by rfl, by ((intro w hSw; (try dsimp only at hSw)); first | (go_simp; done) | (go_simp; with_reducible rfl))⟩) (by assumption) ?_; (try simp only [Act.put]); (try simp only [List.setIfInBounds_toArray]); (try simp only [List.set_cons_succ]); (try simp only [List.set_cons_zero])); (refine wpAnyH_take (i := 9) (oi := _) (v := _) rfl (by kernel_rfl) (by kernel_rfl) (by kernel_rfl) (fun _ _ _ h => h) (Or.inl ⟨by rfl, by ((intro w hSw; (try dsimp only at hSw)); first | (go_simp; done) | (go_simp; with_reducible rfl))⟩) (by assumption) ?_; (try simp only [Act.put]); (try simp only [List.setIfInBounds_toArray]); (try simp only [List.set_cons_succ]); (try simp only [List.set_cons_zero])); (refine wpAnyH_take (i := 10) (oi := _) (v := _) rfl (by kernel_rfl) (by kernel_rfl) (by kernel_rfl) (fun _ _ _ h => h) (Or.inl ⟨by rfl, by ((intro w hSw; (try dsimp only at hSw)); first | (go_simp; done) | (go_simp; with_reducible rfl))⟩) (by assumption) ?_; (try simp only [Act.put]); (try simp only [List.setIfInBounds_toArray]); (try simp only [List.set_cons_succ]); (try simp only [List.set_cons_zero])); (refine wpAnyH_take (i := 11) (oi := _) (v := _) rfl (by kernel_rfl) (by kernel_rfl) (by kernel_rfl) (fun _ _ _ h => h) (Or.inl ⟨by rfl, by ((intro w hSw; (try dsimp only at hSw)); first | (go_simp; done) | (go_simp; with_reducible rfl))⟩) (by assumption) ?_; (try simp only [Act.put]); (try simp only [List.setIfInBounds_toArray]); (try simp only [List.set_cons_succ]); (try simp only [List.set_cons_zero])); (refine wpAnyH_take (i := 12) (oi := _) (v := _) rfl (by kernel_rfl) (by kernel_rfl) (by kernel_rfl) (fun _ _ _ h => h) (Or.inl ⟨by rfl, by ((intro w hSw; (try dsimp only at hSw)); first | (go_simp; done) | (go_simp; with_reducible rfl))⟩) (by assumption) ?_; (try simp only [Act.put]); (try simp only [List.setIfInBounds_toArray]); (try simp only [List.set_cons_succ]); (try simp only [List.set_cons_zero])); (refine wpAnyH_take (i := 13) (oi := _) (v := _) rfl (by kernel_rfl) (by kernel_rfl) (by kernel_rfl) (fun _ _ _ h => h) (Or.inl ⟨by rfl, by ((intro w hSw; (try dsimp only at hSw)); first | (go_simp; done) | (go_simp; with_reducible rfl))⟩) (by assumption) ?_; (try simp only [Act.put]); (try simp only [List.setIfInBounds_toArray]); (try simp only [List.set_cons_succ]); (try simp only [List.set_cons_zero])); (refine wpAnyH_take (i := 14) (oi := _) (v := _) rfl (by kernel_rfl) (by kernel_rfl) (by kernel_rfl) (fun _ _ _ h => h) (Or.inl ⟨by rfl, by ((intro w hSw; (try dsimp only at hSw)); first | (go_simp; done) | (go_simp; with_reducible rfl))⟩) (by assumption) ?_; (try simp only [Act.put]); (try simp only [List.setIfInBounds_toArray]); (try simp only [List.set_cons_succ]); (try simp only [List.set_cons_zero])); (refine wpAnyH_take (i := 15) (oi := _) (v := _) rfl (by kernel_rfl) (by kernel_rfl) (by kernel_rfl) (fun _ _ _ h => h) (Or.inl ⟨by rfl, by ((intro w hSw; (try dsimp only at hSw)); first | (go_simp; done) | (go_simp; with_reducible rfl))⟩) (by assumption) ?_; (try simp only [Act.put]); (try simp only [List.setIfInBounds_toArray]); (try simp only [List.set_cons_succ]); (try simp only [List.set_cons_zero]))
        (refine wpAnyH_ready (rs := [16]) (by kernel_rfl) (by simp) ?_; refine AllReadyH.cons (o := _) rfl (fun K hK => ?_) AllReadyH.nil; (go_simp); refine hK.out _ _ (⟨(World.cell?_of_block (w := U) (a := ⟨bx, 3, none⟩) (Below.heap_alloc U _ bx ux)).trans u3, (World.cell?_of_block (w := U) (a := ⟨nb, 0, none⟩) (Below.heap_alloc U _ nb un)).trans up, (World.cell?_of_block (w := U) (a := ⟨bc, q, none⟩) (Below.heap_alloc U _ bc hub)).trans uv⟩) (fun hHeld => ?_); clear hK K; (try simp only [Act.put]); (try simp only [List.setIfInBounds_toArray]); (try simp only [List.set_cons_succ]); (try simp only [List.set_cons_zero]))
        (refine wpAnyH_ready (rs := [17]) (by kernel_rfl) (by simp) ?_; refine AllReadyH.cons (o := _) rfl (fun K hK => ?_) AllReadyH.nil; (refine step_append_cell rfl (.tmp 84) (.tmp 87) _ rfl wc.heap.size 3 i3 _ 8 Try.underlying31 ei3 ez0 ez1 ez2 rfl v _ _ rfl (ownsRow_drew (urow.alloc _)) U.heap.size _ (.int .i64 ((k : Int) + 1)) rfl (by simp; exact HW.out) rfl (by unfold maxLen; omega) (by omega) (by simp; omega) ?_; intro v' w' ho hgr hat; obtain ⟨vb, vc, rfl, hvc⟩ := ownsRow_val ho; have hwf : w'.frozen? ⟨bc, q, none⟩ = false := (hgr.frozen_far ⟨bc, q, none⟩ (by first | omega | (simp; done) | (simp; omega) | (simp [World.setCell]; omega)) (Ne.symm hvb.1)).trans ((World.frozen?_of_block (w := U) (a := ⟨bc, q, none⟩) (Below.heap_alloc U _ bc hub)).trans uf); have hwc : w'.cell? ⟨bc, q, none⟩ = some v := (hgr.cell_far ⟨bc, q, none⟩ (by first | omega | (simp; done) | (simp; omega) | (simp [World.setCell]; omega)) (Ne.symm hvb.1)).trans ((World.cell?_of_block (w := U) (a := ⟨bc, q, none⟩) (Below.heap_alloc U _ bc hub)).trans uv); have hwp : w'.cell? ⟨nb, 0, none⟩ = some (.int .i64 (q : Int)) := (hgr.cell_far ⟨nb, 0, none⟩ (by first | omega | (simp; done) | (simp; omega) | (simp [World.setCell]; omega)) (Ne.symm hvb.2)).trans ((World.cell?_of_block (w := U) (a := ⟨nb, 0, none⟩) (Below.heap_alloc U _ nb un)).trans up); have hwx : w'.cell? ⟨bx, 3, none⟩ = _ := (hgr.cell_far ⟨bx, 3, none⟩ (by first | omega | (simp; done) | (simp; omega) | (simp [World.setCell]; omega)) (Ne.symm hvx)).trans ((World.cell?_of_block (w := U) (a := ⟨bx, 3, none⟩) (Below.heap_alloc U _ bx ux)).trans u3)); refine hK.out _ _ (⟨hwx, hwp, hwc⟩) (fun hHeld => ?_); clear hK K; (try simp only [Act.put]); (try simp only [List.setIfInBounds_toArray]); (try simp only [List.set_cons_succ]); (try simp only [List.set_cons_zero]))
        refine wpAnyH_done (by kernel_rfl) ?_ _
        have hgs : k + 1 + 1 ≤ n.pipes.length := hlt2
        have hend := (uKR.grown (grown_drew (World.grownBy_alloc U (.cells #[.int .i64 (IntKind.i64.wrap ((k : Int) + 1))] 3) none))).push hmc (show q < n.pipes.length by omega) ((World.cell?_of_block (w := U) (a := ⟨bc, q, none⟩) (Below.heap_alloc U _ bc hub)).trans uv) ho hgr hat
        have hgw : wc.grownBy (w'.setCell ⟨bc, q, none⟩ (.slice vb ((kidsTo n.pipes (k + 1) q).length + 1) vc)) (some bc) :=
          grown_setrow ((ug.andThen (grown_drew (World.grownBy_alloc U (.cells #[.int .i64 (IntKind.i64.wrap ((k : Int) + 1))] 3) none)) (by simp)).andThen hgr (fun j e => .inl (owns_lt urow e).1)) rfl _
        rw [← hstep.out] at hend
        show wpList _ _ _ _ _ _
        go_wp2_with fail
        exact ⟨⟨k + 1, by omega, by go_num, hend, hgw⟩, by simp [intOf]; omega⟩
      · obtain rfl : k = n.pipes.length - 1 := by omega
        obtain ⟨wo, rfl⟩ : ∃ wo : World, wo = wr := ⟨_, rfl⟩
        have hK := Kp.grown (N := wc.heap.size) (bm := bc) (W0 := wc) ⟨Nat.le_refl _, fun _ _ _ => rfl⟩ hg
        have hX1 := hK.blk hX hmx (by omega)
        have hw1 := hEB.size
        have hw2 := hBc.size
        have hfp : Far wc.heap.size bc lop hip := ⟨by omega, .inl (by omega)⟩
        have hpr := hK.rd hp1 hfp
        have hlr := hK.rd (hl2.below hBc (by omega)) ⟨by omega, .inl (by omega)⟩
        have hfb : Far wc.heap.size bc lo hi := ⟨by omega, .inl (by omega)⟩
        have hbr := hK.rd ((hR.below hEB hhi).below hBc (by omega)) hfb
        have hTr : PlT n.pipes l2 bores need wo bm := hT.kept hg (by simp; omega)
        have hll := hok.ll
        have hkk : n.pipes.length - 1 + 1 = n.pipes.length := by omega
        rw [hkk] at hKR
        have hNr := hK.blk hNetc hnc (by omega)
        have hS : PlS wo.heap.size bm wo n.pipes l2 bores need n.pump bx bc A A3 D c n.pipes.length cd := by
          refine ⟨by rw [hll]; exact hX1, by omega, e2, ⟨lop, hip, hpr, by omega, .inl (by omega)⟩, ⟨_, _, hlr, by omega, .inl (by omega)⟩, ⟨lo, hi, hbr, by omega, .inl (by omega)⟩, fun i hi => ?_, by omega, e1⟩
          obtain ⟨v, hv, hrow⟩ := hKR.at_ hi
          rw [map_I_flat] at hrow
          obtain ⟨A', c2, rfl, hcc, hrd⟩ := ownsRow_rd encI_len (by decide) hrow rfl
          refine ⟨A', c2, wc.heap.size, wo.heap.size, ?_, hrd, Nat.le_refl _, .inr hmt⟩
          rw [hv, kidsTo_all, List.length_map]
        have hrec := plan_rec wo.heap.size bm wo n.pipes l2 bores need n.pump bx bc A A3 D c n.pipes.length cd hS hok
        have hall := Lib.hid ((hrec n.pipes.length 0 (by omega) (by omega)).1 n.pump hpump.1 hpump.2)
        have hat := Lib.hid (fun (node : Nat) (h0 : 0 < node) (h1 : node < n.pipes.length) => (hrec n.pipes.length node h1 (by omega)).2 h0)
        clear hrec hX1 hK hKR n0 n1 nf0 nf1 hll hkk hS
        have n0 := hNr.cell 0; have nf0 := hNr.frozen 0; have n1 := hNr.cell 1; have nf1 := hNr.frozen 1; simp at n0 n1
        have hpf := Lib.hid (show planF n.pipes l2 bores need n.pump = if (allF (atL n.pipes l2 bores need) n.pump (kids n.pipes 0) 0).2 then (planL n.pipes l2 bores need n.pump, (allF (atL n.pipes l2 bores need) n.pump (kids n.pipes 0) 0).1, 0) else ([], 0, 7) from rfl)
        have hBr : Below w.heap.size w wo := hEB.trans ((hBc.trans ⟨hg.os, hg.tape, hg.output, hg.size, fun k hk => hg.block k (by omega) (by simp; omega)⟩).mono hw1)
        go_wp2_with fail
        refine (hall.out wo ⟨Nat.le_refl _, fun _ _ _ => rfl⟩ hTr).mono ?_
        obtain ⟨rc, rb, hr⟩ : ∃ rc rb, allF (atL n.pipes l2 bores need) n.pump (kids n.pipes 0) 0 = (rc, rb) := ⟨_, _, rfl⟩
        rw [hr] at hpf ⊢
        clear hr
        rintro e w3 ⟨rfl, hT3, hg3⟩
        have hN3 : Blk w3 _ _ _ := (hg3.block _ hNr.lt (by simp; omega)).trans hNr
        have hz3 := hg3.size
        have hBw : Below w.heap.size w w3 := hBr.trans ⟨hg3.os, hg3.tape, hg3.output, hg3.size, fun k hk => hg3.block k (by omega) (by simp; omega)⟩
        clear n0 n1 nf0 nf1
        have n0 := hN3.cell 0; have nf0 := hN3.frozen 0; have n1 := hN3.cell 1; have nf1 := hN3.frozen 1; simp at n0 n1
        have hn3 := hN3.lt
        cases rb
        · go_wp2_with fail
          go_ret3
          have := hpf.out
          simp at this
          rw [this]
          exact ⟨planR_nil _ _, hBw⟩
        · have hmk := run_make_ints (P := Try.prog) Try.underlying31 ei3 ez0 ez1 ez2 n.pipes.length (by omega)
          have h00 : (Array.replicate n.pipes.length (I 0))[0]? = some (I 0) := by rw [Array.getElem?_replicate]; rw [if_pos (by omega)]
          go_wp2_with fail
          have hrowi : Blk (w3.alloc (.cells ((Array.replicate n.pipes.length (I 0)).setIfInBounds 0 (.int .i64 n.pump)) 3)) w3.heap.size 3 ((row n.pipes.length 0 [n.pump]).map I).toArray := by
            have e : ((row n.pipes.length 0 [n.pump]).map I).toArray = (Array.replicate n.pipes.length (I 0)).setIfInBounds 0 (.int .i64 n.pump) := by
              have := row_set (n := n.pipes.length) (d := (0 : Int)) (x := n.pump) (l := []) (by simp; omega)
              rw [row_nil] at this
              simp only [List.length_nil, List.nil_append] at this
              rw [← this]
              apply Array.ext'
              simp
            rw [e]; exact Blk.new _ _ _
          have hT4 := hT3.alloc (.cells ((Array.replicate n.pipes.length (I 0)).setIfInBounds 0 (.int .i64 n.pump)) 3)
          have hg4 := grown_alloc hg3 (.cells ((Array.replicate n.pipes.length (I 0)).setIfInBounds 0 (.int .i64 n.pump)) 3)
          have hz4 : (w3.alloc (.cells ((Array.replicate n.pipes.length (I 0)).setIfInBounds 0 (.int .i64 n.pump)) 3)).heap.size = w3.heap.size + 1 := by simp
          generalize w3.alloc (.cells ((Array.replicate n.pipes.length (I 0)).setIfInBounds 0 (.int .i64 n.pump)) 3) = w4 at *
          generalize hgv : w3.heap.size = gv at *
          have HZ4 := Lib.hid hz4
          clear hz4 hgv h00 hmk
          go_loopw [8, 112] (fun v8 i wr => ∃ (k : Nat) (vs bs : List Int), k ≤ n.pipes.length - 1 ∧ i = .int .i64 k ∧ Hid (plF (atL n.pipes l2 bores need) ((n.pipes.drop 1).take k) [n.pump] [] = (vs, bs)) ∧ (∀ x ∈ vs, 0 ≤ x ∧ x ≤ 10000) ∧ BlkI wr gv (row n.pipes.length 0 vs) ∧ wr.ownsRow (gv + 1) 3 1 v8 k (bs.map I) ∧ PlT n.pipes l2 bores need wr bm ∧ wo.grownBy wr (some bm) ∧ gv + 1 ≤ wr.heap.size) (fun _ i _ => n.pipes.length - 1 - (intOf i).toNat)
          case atStart =>
            exact ⟨0, [n.pump], [], by omega, rfl, Lib.hid (by simp [plF]), by simp; exact hpump, BlkI.of hrowi, ⟨rfl, .inl ⟨rfl, rfl⟩⟩, hT4, hg4, by have := HZ4.out; omega⟩
          case round =>
            obtain ⟨k, vs, bs, hk, rfl, hpl2, hvb, hV, hrow, hTq, hgq, hzq⟩ := hrel
            by_cases hlt : k < n.pipes.length - 1
            · have hlt2 : k + 1 < n.pipes.length := by omega
              have hlt3 : (k : Int) < ((n.pipes.length - 1 : Nat) : Int) := by omega
              have hKr := Kp.grown (N := wc.heap.size) (bm := bc) (W0 := wc) ⟨Nat.le_refl _, fun _ _ _ => rfl⟩ hg
              have hKq := Kp.grown (N := wo.heap.size) (bm := bm) (W0 := wo) ⟨Nat.le_refl _, fun _ _ _ => rfl⟩ hgq
              obtain ⟨b, off, rfl, _, hbb, c0, c1, c2, c3, c4⟩ := RdP.at_ (hKq.rd (hKr.rd hR5 hfp) ⟨by omega, .inl (by omega)⟩) (show k < (n.pipes.drop 1).length by rw [List.length_drop]; omega)
              rw [show (n.pipes.drop 1)[k]'(by rw [List.length_drop]; omega) = n.pipes[k + 1] by rw [List.getElem_drop]; congr 1; omega] at c0 c1 c2 c3 c4
              obtain ⟨q, hq, hqk⟩ := hid_par (ps := n.pipes) (x := k + 1) (p := n.pipes[k + 1]) (pAt_eq hlt2) hok.t (by omega) hlt2
              have hlv := plF_len (atL n.pipes l2 bores need) ((n.pipes.drop 1).take k) [n.pump] []
              rw [hpl2.out] at hlv
              simp only [List.length_cons, List.length_nil, List.length_take, List.length_drop] at hlv
              obtain ⟨hlv1, hlv2⟩ := hlv
              have hvq : vs[q]? = some (vs.getD q 0) := by rw [List.getD_eq_getElem?_getD, List.getElem?_eq_getElem (by omega)]; rfl
              have hvq2 := hvb _ (List.mem_of_getElem? hvq)
              have hcv := hV.at_ (i := q) (x := vs.getD q 0) (by rw [row_get (by omega)]; exact hvq)
              have hst := plF_snoc (atL n.pipes l2 bores need) n.pipes[k + 1] ((n.pipes.drop 1).take k) [n.pump] []
              rw [hpl2.out] at hst
              simp only [hq, Int.toNat_natCast] at hst
              rw [show vs.length = k + 1 by omega] at hst
              have hst2 : (n.pipes.drop 1).take k ++ [n.pipes[k + 1]] = (n.pipes.drop 1).take (k + 1) := by
                rw [List.take_succ_eq_append_getElem (show k < (n.pipes.drop 1).length by rw [List.length_drop]; omega)]
                congr 2
                rw [List.getElem_drop]; congr 1; omega
              rw [hst2] at hst
              have hcall := hat.out (k + 1) (by omega) hlt2 (vs.getD q 0) hvq2.1 hvq2.2
              have hbd := atL_bd hok (show 0 < k + 1 by omega) hlt2 hvq2.1 hvq2.2
              rw [hq] at c0
              clear hq hst2 hpl2
              generalize vs.getD q 0 = vq at *
              unfold AtR at hcall
              have e1k : ((k + 1 : Nat) : Int) = (k : Int) + 1 := by omega
              simp only [keyV, e1k] at hcall
              clear e1k
              generalize atL n.pipes l2 bores need (k + 1) vq = cc at *
              have HST := Lib.hid hst
              have HCALL := Lib.hid hcall
              clear hst hcall hvq
              generalize n.pipes[k + 1] = pp at *
              have hq3 : (q : Int) < (n.pipes.length : Int) := by omega
              have hgvl := hV.lt
              obtain ⟨lg0, lg1, lg2, lg3, lg4, lg5⟩ := lt6 (show gv < wr.heap.size by omega)
              go_wp2_with fail
              refine (HCALL.out _ (hKq.grown (World.grownBy_alloc _ _ _)) (hTq.alloc _)).mono ?_
              rintro e w5 ⟨rfl, hT5, hg5⟩
              have hz5 := hg5.size
              simp only [World.size_alloc] at hz5
              go_wp2_with fail
              have hgva : gv ≠ bm := by omega
              have uV := (((hV.alloc (.cells #[.int .i64 (q : Int), .int .i64 pp.length, .int .i64 pp.bore, .int .i64 pp.drop, .int .i64 pp.taps] 54)).grow hg5 (by simp; exact hgva)).alloc (.cells #[.int .i64 cc.index, .int .i64 cc.cost, .int .i64 cc.vac] 118))
              have urow := (((hrow.alloc (.cells #[.int .i64 (q : Int), .int .i64 pp.length, .int .i64 pp.bore, .int .i64 pp.drop, .int .i64 pp.taps] 54)).kept hg5 (.inr (fun e => by have := (owns_lt hrow e).1; omega))).alloc (.cells #[.int .i64 cc.index, .int .i64 cc.cost, .int .i64 cc.vac] 118))
              have uT := hT5.alloc (.cells #[.int .i64 cc.index, .int .i64 cc.cost, .int .i64 cc.vac] 118)
              have ug := grown_alloc ((grown_alloc hgq (.cells #[.int .i64 (q : Int), .int .i64 pp.length, .int .i64 pp.bore, .int .i64 pp.drop, .int .i64 pp.taps] 54)).trans hg5) (.cells #[.int .i64 cc.index, .int .i64 cc.cost, .int .i64 cc.vac] 118)
              have u0 : (w5.alloc (.cells #[.int .i64 cc.index, .int .i64 cc.cost, .int .i64 cc.vac] 118)).cell? ⟨w5.heap.size, 0, none⟩ = some (.int .i64 cc.index) := (Blk.new w5 118 #[.int .i64 cc.index, .int .i64 cc.cost, .int .i64 cc.vac]).cell 0
              have u2 : (w5.alloc (.cells #[.int .i64 cc.index, .int .i64 cc.cost, .int .i64 cc.vac] 118)).cell? ⟨w5.heap.size, 2, none⟩ = some (.int .i64 cc.vac) := (Blk.new w5 118 #[.int .i64 cc.index, .int .i64 cc.cost, .int .i64 cc.vac]).cell 2
              have un : w5.heap.size < (w5.alloc (.cells #[.int .i64 cc.index, .int .i64 cc.cost, .int .i64 cc.vac] 118)).heap.size := by simp
              have hvn : u8.ownBlock ≠ some w5.heap.size := fun e => by have := (owns_lt hrow e).2; omega
              have hvg : u8.ownBlock ≠ some gv := fun e => by have := (owns_lt hrow e).1; omega
              have hvm : u8.ownBlock ≠ some bm := fun e => by have := (owns_lt hrow e).1; omega
              have hnb : gv + 1 ≤ w5.heap.size := by omega
              generalize w5.alloc (.cells #[.int .i64 cc.index, .int .i64 cc.cost, .int .i64 cc.vac] 118) = U at *
              generalize w5.heap.size = nb at *
              clear lg0 lg1 lg2 lg3 lg4 lg5 c0 c1 c2 c3 c4 hcv hV hrow hTq hgq hT5 hKq
              have hlr1 : ((row n.pipes.length 0 vs))[k + 1]? = some 0 := by have := row_next (n := n.pipes.length) (d := (0 : Int)) (l := vs) (by omega); rw [hlv1] at this; rw [show 1 + min k (n.pipes.length - 1) = k + 1 by omega] at this; exact this
              obtain ⟨ln0, ln1, ln2, ln3, ln4, ln5⟩ := lt6 (show nb < U.heap.size by omega)
              (refine wp_region_ht 11 (fun V => V.cell? ⟨nb, 0, none⟩ = some (.int .i64 cc.index) ∧ V.cell? ⟨nb, 2, none⟩ = some (.int .i64 cc.vac)) (by kernel_rfl) (by kernel_rfl) (⟨u0, u2⟩) (fun hHeld => ?_); simp only [List.take_succ_cons, List.take_zero, List.drop_succ_cons, List.drop_zero, List.length_cons, List.length_nil, Nat.reduceAdd])
              (refine wpAnyH_take (i := 0) (oi := _) (v := _) rfl (by kernel_rfl) (by kernel_rfl) (by kernel_rfl) (fun _ _ _ h => h) (Or.inl ⟨by rfl, by ((intro w hSw; (try dsimp only at hSw)); first | (go_simp; done) | (go_simp; with_reducible rfl))⟩) (by assumption) ?_; (try simp only [Act.put]); (try simp only [List.setIfInBounds_toArray]); (try simp only [List.set_cons_succ]); (try simp only [List.set_cons_zero])); (refine wpAnyH_take (i := 1) (oi := _) (v := _) rfl (by kernel_rfl) (by kernel_rfl) (by kernel_rfl) (fun _ _ _ h => h) (Or.inl ⟨by rfl, by ((intro w hSw; (try dsimp only at hSw)); first | (go_simp; done) | (go_simp; with_reducible rfl))⟩) (by assumption) ?_; (try simp only [Act.put]); (try simp only [List.setIfInBounds_toArray]); (try simp only [List.set_cons_succ]); (try simp only [List.set_cons_zero])); (refine wpAnyH_take (i := 2) (oi := _) (v := _) rfl (by kernel_rfl) (by kernel_rfl) (by kernel_rfl) (fun _ _ _ h => h) (Or.inl ⟨by rfl, by ((intro w hSw; (try dsimp only at hSw)); first | (go_simp; done) | (go_simp; with_reducible rfl))⟩) (by assumption) ?_; (try simp only [Act.put]); (try simp only [List.setIfInBounds_toArray]); (try simp only [List.set_cons_succ]); (try simp only [List.set_cons_zero])); (refine wpAnyH_take (i := 3) (oi := _) (v := _) rfl (by kernel_rfl) (by kernel_rfl) (by kernel_rfl) (fun _ _ _ h => h) (Or.inl ⟨by rfl, by ((intro w hSw; (try dsimp only at hSw)); first | (go_simp; done) | (go_simp; with_reducible rfl))⟩) (by assumption) ?_; (try simp only [Act.put]); (try simp only [List.setIfInBounds_toArray]); (try simp only [List.set_cons_succ]); (try simp only [List.set_cons_zero])); (refine wpAnyH_take (i := 4) (oi := _) (v := _) rfl (by kernel_rfl) (by kernel_rfl) (by kernel_rfl) (fun _ _ _ h => h) (Or.inl ⟨by rfl, by ((intro w hSw; (try dsimp only at hSw)); first | (go_simp; done) | (go_simp; with_reducible rfl))⟩) (by assumption) ?_; (try simp only [Act.put]); (try simp only [List.setIfInBounds_toArray]); (try simp only [List.set_cons_succ]); (try simp only [List.set_cons_zero])); (refine wpAnyH_take (i := 5) (oi := _) (v := _) rfl (by kernel_rfl) (by kernel_rfl) (by kernel_rfl) (fun _ _ _ h => h) (Or.inl ⟨by rfl, by ((intro w hSw; (try dsimp only at hSw)); first | (go_simp; done) | (go_simp; with_reducible rfl))⟩) (by assumption) ?_; (try simp only [Act.put]); (try simp only [List.setIfInBounds_toArray]); (try simp only [List.set_cons_succ]); (try simp only [List.set_cons_zero]))
              (refine wpAnyH_take (i := 8) (oi := _) (v := _) rfl (by kernel_rfl) (by kernel_rfl) (by kernel_rfl) (fun _ _ _ h => h) (Or.inl ⟨by rfl, by ((intro w hSw; (try dsimp only at hSw)); first | (go_simp; done) | (go_simp; with_reducible rfl))⟩) (by assumption) ?_; (try simp only [Act.put]); (try simp only [List.setIfInBounds_toArray]); (try simp only [List.set_cons_succ]); (try simp only [List.set_cons_zero])); (refine wpAnyH_take (i := 9) (oi := _) (v := _) rfl (by kernel_rfl) (by kernel_rfl) (by kernel_rfl) (fun _ _ _ h => h) (Or.inl ⟨by rfl, by ((intro w hSw; (try dsimp only at hSw)); first | (go_simp; done) | (go_simp; with_reducible rfl))⟩) (by assumption) ?_; (try simp only [Act.put]); (try simp only [List.setIfInBounds_toArray]); (try simp only [List.set_cons_succ]); (try simp only [List.set_cons_zero]))
              (refine wpAnyH_ready (rs := [6]) (by kernel_rfl) (by simp) ?_; refine AllReadyH.cons (o := _) rfl (fun K hK => ?_) AllReadyH.nil; (go_simp); refine hK.out _ _ (⟨(World.cell?_of_block (w := U) (a := ⟨nb, 0, none⟩) (Below.heap_alloc U _ nb un)).trans u0, (World.cell?_of_block (w := U) (a := ⟨nb, 2, none⟩) (Below.heap_alloc U _ nb un)).trans u2⟩) (fun hHeld => ?_); clear hK K; (try simp only [Act.put]); (try simp only [List.setIfInBounds_toArray]); (try simp only [List.set_cons_succ]); (try simp only [List.set_cons_zero]))
              (refine wpAnyH_ready (rs := [7]) (by kernel_rfl) (by simp) ?_; refine AllReadyH.cons (o := _) rfl (fun K hK => ?_) AllReadyH.nil; (refine step_append_cell rfl (.tmp 130) (.tmp 133) _ rfl (gv + 1) 3 i3 _ 8 Try.underlying31 ei3 ez0 ez1 ez2 rfl u8 _ _ rfl (ownsRow_drew (urow.alloc _)) U.heap.size _ (.int .i64 cc.index) rfl (by simp) rfl (by unfold maxLen; omega) (by omega) (by simp; omega) ?_; intro v' w' ho hgr hat'; have hwg : BlkI w' gv (row n.pipes.length 0 vs) := ((uV.alloc (.cells #[.int .i64 cc.index] 3)).drew).grow hgr (Ne.symm hvg); have hw0 : w'.cell? ⟨nb, 0, none⟩ = some (.int .i64 cc.index) := (hgr.cell_far ⟨nb, 0, none⟩ (by first | omega | (simp; done) | (simp; omega) | (simp [World.setCell]; omega)) (Ne.symm hvn)).trans ((World.cell?_of_block (w := U) (a := ⟨nb, 0, none⟩) (Below.heap_alloc U _ nb un)).trans u0); have hw2' : w'.cell? ⟨nb, 2, none⟩ = some (.int .i64 cc.vac) := (hgr.cell_far ⟨nb, 2, none⟩ (by first | omega | (simp; done) | (simp; omega) | (simp [World.setCell]; omega)) (Ne.symm hvn)).trans ((World.cell?_of_block (w := U) (a := ⟨nb, 2, none⟩) (Below.heap_alloc U _ nb un)).trans u2)); refine hK.out _ _ (⟨hw0, hw2'⟩) (fun hHeld => ?_); clear hK K; (try simp only [Act.put]); (try simp only [List.setIfInBounds_toArray]); (try simp only [List.set_cons_succ]); (try simp only [List.set_cons_zero]))
              (refine wpAnyH_ready (rs := [10]) (by kernel_rfl) (by simp) ?_; refine AllReadyH.cons (o := _) rfl (fun K hK => ?_) AllReadyH.nil; (go_simp); refine hK.out _ _ (⟨hw0, hw2'⟩) (fun hHeld => ?_); clear hK K; (try simp only [Act.put]); (try simp only [List.setIfInBounds_toArray]); (try simp only [List.set_cons_succ]); (try simp only [List.set_cons_zero]))
              refine wpAnyH_done (by kernel_rfl) ?_ _
              show wpList _ _ _ _ _ _
              have hfz := hwg.frozen (k + 1)
              have hcg := hwg.at_ hlr1
              go_wp2_with fail
              have hzr : U.heap.size + 1 ≤ w'.heap.size := by have h1 := hgr.size; have h2 : (U.alloc (.cells #[.int .i64 cc.index] 3)).heap.size = U.heap.size + 1 := World.size_alloc _ _; exact h2 ▸ h1
              have hrw := row_set (n := n.pipes.length) (d := (0 : Int)) (x := cc.vac) (l := vs) (by omega)
              rw [show vs.length = k + 1 by omega] at hrw
              have hset := hwg.set_ (k + 1) cc.vac
              rw [hrw] at hset
              refine ⟨⟨k + 1, vs ++ [cc.vac], bs ++ [cc.index], by omega, by go_num, HST, fun x hx => ?_, hset, ?_, ?_, ?_, ?_⟩, by simp [intOf]; omega⟩
              · rw [List.mem_append] at hx
                rcases hx with hx | hx
                · exact hvb x hx
                · simp only [List.mem_singleton] at hx; subst hx; exact ⟨hbd.2.2.2.2.1, hbd.2.2.2.2.2⟩
              · have := ownsRow_setCell_below ho (a := ⟨gv, k + 1, none⟩) (by simp) (.int .i64 cc.vac)
                simpa using this
              · exact (((uT.alloc (.cells #[.int .i64 cc.index] 3)).drew.kept hgr (Ne.symm hvm))).setCell (a := ⟨gv, k + 1, none⟩) (by simp; omega) _
              · exact grown_set ((ug.andThen (grown_drew (World.grownBy_alloc U (.cells #[.int .i64 cc.index] 3) none)) (by simp)).andThen hgr (fun j e => .inl (by have := (owns_lt urow e).1; omega))) (by simp; omega) _
              · simp [World.setCell]; omega
            · obtain rfl : k = n.pipes.length - 1 := by omega
              go_wp2_with fail
              go_ret3
              have h8 := hpf.out
              simp only [if_true] at h8
              have h9 := hpl2.out
              rw [List.take_of_length_le (by simp)] at h9
              have h10 := plF_len (atL n.pipes l2 bores need) (n.pipes.drop 1) [n.pump] []
              rw [h9] at h10
              rw [h8]
              simp only [planL, h9]
              refine ⟨⟨_, rfl, ?_⟩, ?_⟩
              · rw [h10.2]; simp; exact ownsRow_base' hrow (by omega)
              · exact hBr.trans ⟨hgq.os, hgq.tape, hgq.output, hgq.size, fun k hk => hgq.block k (by omega) (by simp; omega)⟩
end Go.Proofs.Ytepibjfmeibgcaa
