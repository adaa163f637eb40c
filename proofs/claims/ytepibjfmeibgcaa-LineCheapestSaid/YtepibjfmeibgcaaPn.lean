/- What Plan returns, whatever it is given; the document's helpers, brought over. -/
import Derived.Test.YtepibjfmeibgcaaB7
import Derived.Test.YtepibjfmeibgcaaM2
import Derived.Test.YtepibjfmeibgcaaPz
import Derived.Test.YtepibjfmeibgcaaSc
import Derived.Test.YtepibjfmeibgcaaRo
import Derived.Test.YtepibjfmeibgcaaProg
import Derived.Test.YtepibjfmeibgcaaTp
namespace Go.Proofs.Ytepibjfmeibgcaa
open Go.RowKit
set_option linter.unusedVariables false
def eO (b : Bor) : List DV := [.i b.size, .i b.price]
theorem plain_eO (x : Bor) (j : Nat) (hj : j < 2) : ∃ v, (eO x).getD j default = .v v := by
  match j, hj with
  | 0, _ => exact ⟨_, rfl⟩
  | 1, _ => exact ⟨_, rfl⟩
theorem heO (x : Bor) : eO x = (encO x).map DV.v := rfl
theorem mO {ids : List Nat} {cs : List (Option Cn)} {ν : Nat → Value} {sup : Nat → Nat → Prop} {w : World} (m : MW (cnOf ids cs) ν sup w) {i : Nat} {xs : List Bor} (h : cnOf ids cs i = some (.ro 2 xs.length (Lst eO xs))) : ∃ A c, ν i = .slice A xs.length c ∧ xs.length ≤ c ∧ RdO w 0 w.heap.size A xs := rd_of_ro heO (fun _ => rfl) rfl (m.cont i _ h) (fun b hb => m.supLt i _ h b hb)
/-- What flows at most through each pipe. -/
def loadT (n : Net) (flows : List Rng) : List Int := (List.range n.pipes.length).map fun j => ldV n.pipes (highF flows) [] j
theorem loadT_len (n : Net) (flows : List Rng) : (loadT n flows).length = n.pipes.length := by unfold loadT; simp
theorem loadT_at (n : Net) (flows : List Rng) {j : Nat} (h : j < n.pipes.length) : (loadT n flows).getD j 0 = ldV n.pipes (highF flows) [] j := by
  unfold loadT
  rw [List.getD_eq_getElem?_getD, List.getElem?_map, List.getElem?_range h]; rfl
theorem loadT_eq {n : Net} (ht : Tree n.pipes) (flows : List Rng) : loadsL n.pipes (highF flows) [] = loadT n flows := by
  have h1 := loadsL_len ht (highF flows) []
  refine List.ext_getElem (by rw [h1, loadT_len]) fun j a b => ?_
  have e1 := loadsL_at ht (highF flows) [] (j := j) (by omega)
  have e2 := loadT_at n flows (j := j) (by omega)
  rw [List.getD_eq_getElem?_getD, List.getElem?_eq_getElem (by omega)] at e1 e2
  exact e1.trans e2.symm
/-- What planning comes to. -/
def planA (n : Net) (flows : List Rng) (bores : List Bor) (need : Int) : List Int × Int × Int :=
  if flowE n flows [] = 0 then (if chV bores need = 0 then planF n.pipes (loadT n flows) bores need n.pump else ([], 0, chV bores need)) else ([], 0, flowE n flows [])
theorem planA_flow {n : Net} {flows : List Rng} {bores : List Bor} {need : Int} (h : flowE n flows [] ≠ 0) : planA n flows bores need = ([], 0, flowE n flows []) := if_neg h
theorem planA_ch {n : Net} {flows : List Rng} {bores : List Bor} {need : Int} (h : flowE n flows [] = 0) (h2 : chV bores need ≠ 0) : planA n flows bores need = ([], 0, chV bores need) := (if_pos h).trans (if_neg h2)
theorem planA_ok {n : Net} {flows : List Rng} {bores : List Bor} {need : Int} (h : flowE n flows [] = 0) (h2 : chV bores need = 0) : planA n flows bores need = planF n.pipes (loadT n flows) bores need n.pump := (if_pos h).trans (if_pos h2)
theorem flowE_zero {n : Net} {flows : List Rng} {zs : List Int} (h : flowE n flows zs = 0) : netB n = true ∧ chkF n.pipes.length flows zs = 0 := by
  unfold flowE at h
  cases hb : netB n with
  | false => rw [hb] at h; simp at h
  | true => rw [hb] at h; exact ⟨rfl, h⟩
theorem chV_zero {l : List Bor} {need : Int} (h : chV l need = 0) : l.length ≤ 6 ∧ boresB l = true ∧ 0 < l.length ∧ 0 ≤ need ∧ need ≤ 10000 := by
  unfold chV at h
  split at h
  · cases h
  · split at h
    · split at h
      · cases h
      · split at h
        · rename_i h1 h2 h3 h4
          have := inB_true h4
          exact ⟨by omega, h2, by omega, this.1, this.2⟩
        · cases h
    · cases h
theorem plan_ok {n : Net} {flows : List Rng} {bores : List Bor} {need : Int} (h : flowE n flows [] = 0) (h2 : chV bores need = 0) : PlOk n.pipes (loadT n flows) bores need n.pump ∧ (0 ≤ n.pump ∧ n.pump ≤ 10000) := by
  obtain ⟨hok, hk⟩ := flowE_zero h
  obtain ⟨hl, hf⟩ := chkF_zero hk
  obtain ⟨c1, c2, c3, c4, c5⟩ := chV_zero h2
  have hg := netB_good hok
  have hlen := netB_len hok
  have f2 : ∀ k, k < n.pipes.length → 0 ≤ highF flows k ∧ highF flows k ≤ 1000000000 := fun k hk => by have := flow_at hf (show k < flows.length by omega); omega
  refine ⟨⟨netB_tree hok, hlen.2, loadT_len n flows, fun j => ?_, hg.2, c2, c1, ⟨c4, c5⟩⟩, hg.1⟩
  by_cases hj : j < n.pipes.length
  · rw [loadT_at n flows hj]
    exact ldV_bd [] (netB_tree hok) hlen.2 f2 hj
  · rw [List.getD_eq_getElem?_getD, List.getElem?_eq_none (by rw [loadT_len]; omega)]
    simp
theorem Plan_fr (n : Net) (flows : List Rng) (bores : List Bor) (need : Int) (hn : n.pipes.length ≤ maxLen) (hfl : flows.length ≤ maxLen) (hbl : bores.length ≤ maxLen) :
    CallFr Try.prog 16 [.agg [.i n.pump, .ls 1], .ls 2, .ls 3, .i need] [1, 2, 3] [some (.ro 5 n.pipes.length (Lst eP n.pipes)), some (.ro 2 flows.length (Lst eR flows)), some (.ro 2 bores.length (Lst eO bores))]
      (.tup [.one (.ls 4), .one (.i (planA n flows bores need).2.1), .one (.i (planA n flows bores need).2.2)]) [(4, some (.vec 3 1 (planA n flows bores need).1.length (Lst eI (planA n flows bores need).1)))] :=
  callFr_vec (by rfl) (by omega) fun ν sup w m => by
    obtain ⟨A, c, e, h1, h2⟩ := mP m (i := 1) rfl
    obtain ⟨B, d, e2, h3, h4⟩ := mR m (i := 2) rfl
    obtain ⟨D, g, e3, h5, h6⟩ := mO m (i := 3) rfl
    simp only [List.map_cons, List.map_nil, SV.val, PV.val, LV.val, e, e2, e3]
    have fin : ∀ {e : Ending} {w' : World}, PlanR w.heap.size e w' (planA n flows bores need).1 (planA n flows bores need).2.1 (planA n flows bores need).2.2 ∧ Below w.heap.size w w' → (∃ v flat, e = .returned (.tuple #[(upd ν 4 v) 4, .int .i64 (planA n flows bores need).2.1, .int .i64 (planA n flows bores need).2.2]) ∧ w'.ownsRow w.heap.size 3 1 v (planA n flows bores need).1.length flat ∧ FlatOk flat (planA n flows bores need).1.length 1 (Lst eI (planA n flows bores need).1)) ∧ Below w.heap.size w w' := fun ⟨⟨v, q1, q2⟩, q3⟩ => by
      refine ⟨⟨v, _, ?_, by rw [map_I_flat] at q2; exact q2, fI _⟩, q3⟩
      rw [q1, upd_self]
    by_cases hE : flowE n flows [] = 0
    · obtain ⟨hok, hk⟩ := flowE_zero hE
      obtain ⟨hl, hf⟩ := chkF_zero hk
      have hb : ∀ o, Calls Try.prog 57 #[.agg #[.int .i64 n.pump, .slice A n.pipes.length c], .slice B flows.length d, .slice none 0 0] (w.alloc o) fun e w' => BothR (w.alloc o).heap.size e w' n.pipes.length (loadsL n.pipes (lowF flows) []) (vacsL n.pump n.pipes (lowF flows) []) (loadsL n.pipes (highF flows) []) (vacsL n.pump n.pipes (highF flows) []) 0 ∧ Below (w.alloc o).heap.size (w.alloc o) w' :=
        fun o => both_ok n A B none c d 0 flows [] _ 0 _ 0 _ 0 0 (h2.alloc (Nat.le_refl _) o) (by simp) h1 (h4.alloc (Nat.le_refl _) o) (by simp) hfl Rd.nil (Nat.zero_le _) (Nat.le_refl _) (Nat.zero_le _) hok hk hl hf
      by_cases hC : chV bores need = 0
      · obtain ⟨c1, c2, c3, c4, c5⟩ := chV_zero hC
        have hp := plan_ok hE hC
        have hpl := hp.1
        rw [planA_ok hE hC, ← loadT_eq (netB_tree hok)] at *
        exact (plan_main n A B D c flows.length d g 0 _ 0 _ need _ _ _ _ bores w h2 (Nat.le_refl _) h1 h6 (Nat.le_refl _) c3 (netB_len hok).1 hp.2 hpl hb).mono fun e w' h => fin h
      · rw [planA_ch hE hC] at *
        refine Calls.mono (R := fun e w' => PlanR w.heap.size e w' [] 0 (chV bores need) ∧ Below w.heap.size w w') ?_ fun e w' h => fin h
        unfold chV at hC ⊢
        by_cases k1 : 6 < bores.length
        · rw [if_pos k1]; exact plan_long n A B D c flows.length d bores.length g need _ _ _ _ _ w k1 hbl hb
        · rw [if_neg k1] at hC ⊢
          by_cases k2 : boresB bores = true
          · rw [if_pos k2] at hC ⊢
            by_cases k3 : bores.length = 0
            · rw [if_pos k3]; exact plan_bad n A B D c flows.length d g 0 _ need _ _ _ _ bores _ w h6 (Nat.le_refl _) (by omega) (.inl (List.length_eq_zero_iff.1 k3)) hb
            · rw [if_neg k3] at hC ⊢
              by_cases k4 : inB 0 10000 need = true
              · rw [if_pos k4] at hC; exact absurd rfl hC
              · rw [if_neg k4]; exact plan_need n A B D c flows.length d g 0 _ need _ _ _ _ bores _ w h6 (Nat.le_refl _) (by omega) (by omega) k2 (by simpa using k4) hb
          · rw [if_neg k2]; exact plan_bad n A B D c flows.length d g 0 _ need _ _ _ _ bores _ w h6 (Nat.le_refl _) (by omega) (.inr (by simpa using k2)) hb
    · rw [planA_flow hE] at *
      refine (plan_err n A B D c flows.length d bores.length g need [] [] [] [] 0 (flowE n flows []) w hE (fun o => ?_)).mono fun e w' h => fin h
      unfold flowE at hE ⊢
      cases hok : netB n with
      | false => exact both_arg n A B none c d 0 flows.length [] _ 0 _ (h2.alloc (Nat.le_refl _) o) (by simp) h1 hn hok
      | true =>
        rw [hok] at hE
        exact both_chk n A B none c d 0 flows [] _ 0 _ 0 _ 0 0 (h2.alloc (Nat.le_refl _) o) (by simp) h1 (h4.alloc (Nat.le_refl _) o) (by simp) hfl Rd.nil (Nat.zero_le _) (Nat.le_refl _) (Nat.zero_le _) hok (by simpa using hE)
theorem refChoices_fr (l : List Bor) (need : Int) (hn : l.length ≤ maxLen) : CallFr Try.prog 64 [.ls 1, .i need] [1] [some (.ro 2 l.length (Lst eO l))] (.i (chV l need)) [] :=
  callFr_val fun ν sup w m => by
    obtain ⟨A, c, e, h1, h2⟩ := mO m (i := 1) rfl
    simp only [List.map_cons, List.map_nil, SV.val, PV.val, LV.val, e]
    exact (refChoices_ l need A c 0 _ w h2 hn).mono fun e w' ⟨q1, q2⟩ => ⟨q1, q2 ▸ Below.refl _ _⟩
theorem refLoad_nil (n : Net) (fl : List Int) (f : Nat → Int) (hn : n.pipes.length ≤ 60) (ht : Tree n.pipes) (hf : ∀ j, j < n.pipes.length → 0 ≤ f j ∧ f j ≤ 1000000000) (hfl : fl.length = n.pipes.length) (hfv : ∀ j (h : j < fl.length), fl[j] = f j) (node : Nat) (hk : node < n.pipes.length) :
    CallFr Try.prog 79 [.agg [.i n.pump, .ls 1], .ls 2, .v (.slice none 0 0), .i ((node : Nat) : Int)] [1, 2] [some (.ro 5 n.pipes.length (Lst eP n.pipes)), some (.ro 1 fl.length (Lst eI fl))] (.i (ldV n.pipes f [] node)) [] :=
  callFr_val fun ν sup w m => by
    obtain ⟨A, c, e, h1, h2⟩ := mP m (i := 1) rfl
    obtain ⟨B, d, e2, h3, h4⟩ := mI m (i := 2) rfl
    simp only [List.map_cons, List.map_nil, SV.val, PV.val, LV.val, e, e2]
    exact refLoad_ n fl [] f A B none c d 0 0 _ 0 _ 0 0 hn ht hf hfl hfv (Nat.zero_le _) n.pipes.length node w h2 (Nat.le_refl _) h4 (Nat.le_refl _) Rd.nil (Nat.zero_le _) hk (by omega)
theorem refLoss_fr (p : Pipe) (flow : Int) (hp : PipeOk p) (h0 : 0 ≤ flow) (h1 : flow ≤ 60000000000) : CallFr Try.prog 39 [.agg [.i p.parent, .i p.length, .i p.bore, .i p.drop, .i p.taps], .i flow] [] [] (.i (lossZ p flow)) [] :=
  callFr_val fun ν sup w m => by
    simp only [List.map_cons, List.map_nil, SV.val, PV.val, LV.val]
    exact refLoss_ p flow w hp h0 h1
end Go.Proofs.Ytepibjfmeibgcaa
/- The document's planner: the keys of its table, and what its entries are. -/
namespace Go.Proofs.Ytepibjfmeibgcaa
open Go.RowKit
open Go.Maps (Keyed)
set_option linter.unusedVariables false
set_option maxRecDepth 100000 in
theorem wide_two : (match Try.prog.underlying 155 with | some (.array _ _) | some (.struct _) => true | _ => false) = true := by rw [Try.underlying155]
theorem row_two : (155 : TypeId) < Try.prog.types.size := of_decide_eq_true (by kernel_rfl)
set_option maxRecDepth 100000 in
theorem key_two : Keyed Try.prog 155 := Keyed.of_law (deep_law_laid laidOut_ (m := 2) (by omega) row_two (by kernel_rfl) wide_two)
theorem cells_two : Try.prog.cellsOf 155 = 2 := by kernel_rfl
theorem keyOf_arr {P : Program} {k ti : TypeId} (hu : P.underlying k = some (.array 2 ti)) (hk : P.keyType k = true) (hc : P.cellsOf k = 2) (hci : P.cellsOf ti = 1) (hui : P.underlying ti = some (.int .i64)) (hs : 0 < P.types.size) (a b : Int) (h1 : (Lit.int .i64 a).wf = true) (h2 : (Lit.int .i64 b).wf = true) :
    ∃ kl, keyOf P k (.agg #[.int .i64 a, .int .i64 b]) = some kl := by
  obtain ⟨m, hm⟩ : ∃ m, P.types.size = m + 1 := ⟨P.types.size - 1, by omega⟩
  exact ⟨.string (keyBytes [.int .i64 a, .int .i64 b]), by simp [keyOf, hu, hk, Value.formed, hc, Value.cells, hm, Program.keyLits, hci, hui, h1, h2, List.range, List.range.loop]⟩
theorem keyType_two : Try.prog.keyType 155 = true := by kernel_rfl
theorem key_of2 (node vac : Int) (h1 : (Lit.int .i64 node).wf = true) (h2 : (Lit.int .i64 vac).wf = true) : ∃ kl, keyOf Try.prog 155 (keyV node vac) = some kl :=
  keyOf_arr Try.underlying155 keyType_two cells_two cells_int Try.underlying3 (Nat.lt_of_le_of_lt (Nat.zero_le _) row_two) node vac h1 h2
/-- The entries of the table are the least costs. -/
def CostGood (ps : List Pipe) (loads : List Int) (bores : List Bor) (need : Int) (key val : Value) : Prop :=
  ∃ (node : Nat) (vac : Int), node < ps.length ∧ 0 ≤ vac ∧ vac ≤ 10000 ∧ key = keyV node vac ∧ val = .int .i64 (refC (atL ps loads bores need node vac))
theorem costGood_key {ps : List Pipe} {loads : List Int} {bores : List Bor} {need : Int} (hn : ps.length ≤ 60) (x u : Value) (h : CostGood ps loads bores need x u) : x ∈ allKeys := by
  obtain ⟨node, vac, h1, h2, h3, rfl, _⟩ := h
  unfold allKeys
  rw [List.mem_flatMap]
  refine ⟨node, List.mem_range.2 (by omega), List.mem_map.2 ⟨vac.toNat, List.mem_range.2 (by omega), ?_⟩⟩
  rw [show ((vac.toNat : Nat) : Int) = vac by omega]
theorem costGood_at {ps : List Pipe} {loads : List Int} {bores : List Bor} {need : Int} {node : Nat} {vac : Int} {u : Value} (h : CostGood ps loads bores need (keyV node vac) u) : u = .int .i64 (refC (atL ps loads bores need node vac)) := by
  obtain ⟨n, v, _, _, _, hk, rfl⟩ := h
  simp [keyV] at hk
  obtain ⟨h1, rfl⟩ := hk
  rw [show n = node by omega]
/-- What the planner's table is known to be. -/
abbrev CostM (ps : List Pipe) (loads : List Int) (bores : List Bor) (need : Int) : Obj → Prop := MapG Try.prog 155 (CostGood ps loads bores need)
section
variable {ps : List Pipe} {loads : List Int} {bores : List Bor} {need : Int} {node : Nat} {vac : Int} (hn : ps.length ≤ 60) (hk : node < ps.length) (v0 : 0 ≤ vac) (v1 : vac ≤ 10000)
include hn hk v0 v1
theorem cost_look {m x : Operand} {ty : TypeId} {id : Nat} (es : { es // GoodEs Try.prog 155 (CostGood ps loads bores need) es }) :
    ∃ (z : Int) (is : Bool), (is = true → z = refC (atL ps loads bores need node vac)) ∧ ActOK Try.prog (.lookup 124 m x true) ty [.ls id, .agg [.i node, .i vac]] [id] [some (.mp (MapE Try.prog 155 es.1))] (.tup [.one (.i z), .one (.v (.bool is))]) [] := by
  obtain ⟨kl, hkl⟩ := key_of2 (node : Int) vac (i64_wf (by omega) (by omega)) (i64_wf (by omega) (by omega))
  obtain ⟨v, is, h1, h2, h3⟩ := act_lookG (m := m) (x := x) (ty := ty) (id := id) key_two Try.underlying124 (z := .int .i64 0) (fun W => by kernel_rfl) (key := .agg [.i node, .i vac]) (kv := keyV node vac) (fun ν => rfl) hkl es
  cases is with
  | true =>
    have := costGood_at (h1 rfl)
    subst this
    exact ⟨_, true, fun _ => rfl, h3 rfl⟩
  | false =>
    have := h2 rfl
    subst this
    exact ⟨0, false, fun h => Bool.noConfusion h, h3 rfl⟩
theorem cost_put {m x y : Operand} {ty : TypeId} {id : Nat} {z : Int} (hz : z = refC (atL ps loads bores need node vac)) :
    ActOK Try.prog (.mapUpdate 124 m x y) ty [.ls id, .agg [.i node, .i vac], .i z] [id] [some (.mp (CostM ps loads bores need))] (.v undef) [(id, some (.mp (CostM ps loads bores need)))] := by
  obtain ⟨kl, hkl⟩ := key_of2 (node : Int) vac (i64_wf (by omega) (by omega)) (i64_wf (by omega) (by omega))
  exact act_putG key_two Try.underlying124 allKeys (costGood_key hn) allKeys_len (kv := keyV node vac) (fun ν => rfl) hkl (u := .int .i64 z) (fun ν => rfl) ⟨node, vac, hk, v0, v1, rfl, by rw [hz]⟩
end
def leftZ (p : Pipe) (b : Bor) (need vac load : Int) : Int := if 0 < p.taps ∧ vacB p b vac load < need then -1 else vacB p b vac load
end Go.Proofs.Ytepibjfmeibgcaa
/- The document's planner, walked. -/
namespace Go.Proofs.Ytepibjfmeibgcaa
open Go.RowKit
set_option linter.unusedVariables false
def left_frK1 (n : Net) (need : Int) : Cn := .rblk [.i n.pump, .ls 1, .ls 2, .ls 3, .i need, .ls 4]
def left_frK2 (n : Net) : Cn := .ro 5 n.pipes.length (Lst eP n.pipes)
def left_frK3 (loads : List Int) : Cn := .ro 1 loads.length (Lst eI loads)
def left_frK4 (bores : List Bor) : Cn := .ro 2 bores.length (Lst eO bores)
def left_frK5 (n : Net) (node : Nat) : Cn := .blk 54 [.i ((ix n.pipes node).parent), .i ((ix n.pipes node).length), .i ((ix n.pipes node).bore), .i ((ix n.pipes node).drop), .i ((ix n.pipes node).taps)]
def left_frK6 (n : Net) (node : Nat) (bores : List Bor) (k : Nat) : Cn := .blk 54 [.i ((ix n.pipes node).parent), .i ((ix n.pipes node).length), .i ((ix bores k).size), .i ((ix n.pipes node).drop), .i ((ix n.pipes node).taps)]
set_option maxRecDepth 100000 in
theorem left_fr (n : Net) (loads : List Int) (bores : List Bor) (need : Int) (H : PlOk n.pipes loads bores need n.pump) (node : Nat) (n0 : 0 < node) (n1 : node < n.pipes.length) (vac : Int) (v0 : 0 ≤ vac) (v1 : vac ≤ 10000) (k : Nat) (hk : k < bores.length) : CallFr Try.prog 67 [.l (.ref 5 0), .i ((node : Nat) : Int), .i vac, .i ((k : Nat) : Int)] [5, 1, 2, 3] [some (.rblk [.i n.pump, .ls 1, .ls 2, .ls 3, .i need, .ls 4]), some (.ro 5 n.pipes.length (Lst eP n.pipes)), some (.ro 1 loads.length (Lst eI loads)), some (.ro 2 bores.length (Lst eO bores))] (.i (leftZ (ix n.pipes node) (ix bores k) need vac (ix loads node))) [] := by
 have hn60 := H.n
 have hll := H.ll
 have hbn := H.bn
 have hneed := H.need
 obtain ⟨p1, p2, p3, p4, p5, p6⟩ := H.p node n0 n1
 have hb := bore_at H.b hk
 have hl := H.l node
 have hpo : PipeOk (⟨(ix n.pipes node).parent, (ix n.pipes node).length, (ix bores k).size, (ix n.pipes node).drop, (ix n.pipes node).taps⟩ : Pipe) := ⟨p1, p2, hb.1, hb.2.1, p5, p6⟩
 have hld : 0 ≤ (ix loads node) ∧ (ix loads node) ≤ 60000000000 := hl
 have hvb := vacB_bd H n0 n1 hk v0 v1
 have hvb2 : 0 ≤ (vacB (ix n.pipes node) (ix bores k) vac (ix loads node)) ∧ (vacB (ix n.pipes node) (ix bores k) vac (ix loads node)) ≤ 10000 := hvb
 have hls := lossZ_bd hpo hld.1 hld.2
 refine callFr_of (fn := Try.f67) (by kernel_rfl) rfl (by kernel_rfl) (by kernel_rfl) fun E => ?_
 refine aw_ent (T := ⟨52, [5, 1, 2, 3], [(0, .l (.ref 5 0)), (1, .i ((node : Nat) : Int)), (2, .i vac), (3, .i ((k : Nat) : Int))], [(5, some (left_frK1 n need)), (1, some (left_frK2 n)), (2, some (left_frK3 loads)), (3, some (left_frK4 bores))]⟩) (Ent.refl _) ?_
 refine aw_seq ?_
 refine aw_r []
  ⟨52, [5, 1, 2, 3], [(0, .l (.ref 5 0)), (1, .i ((node : Nat) : Int)), (2, .i vac), (3, .i ((k : Nat) : Int))], [(1, some (left_frK2 n)), (2, some (left_frK3 loads)), (3, some (left_frK4 bores)), (5, some (left_frK1 n need))]⟩
  [] (by kernel_rfl) trivial ?_
 refine aw_seq ?_
 refine aw_r [(6, .idx node), (8, .new 1009)]
  ⟨52, [5, 1, 2, 3], [(0, .l (.ref 5 0)), (1, .i ((node : Nat) : Int)), (2, .i vac), (3, .i ((k : Nat) : Int)), (9, .l (.ref 1009 0))], [(1, some (left_frK2 n)), (2, some (left_frK3 loads)), (3, some (left_frK4 bores)), (5, some (left_frK1 n need)), (1009, some (left_frK5 n node))]⟩
  [((node : Nat) : Int) = ((node : Nat) : Int), node < n.pipes.length, node < n.pipes.length] (by kernel_rfl) (al2 (by omega) (al2 (by omega) (al1 (by omega)))) ?_
 refine aw_seq ?_
 refine aw_r [(5, .idx k)]
  ⟨52, [5, 1, 2, 3], [(0, .l (.ref 5 0)), (1, .i ((node : Nat) : Int)), (2, .i vac), (9, .l (.ref 1009 0))], [(1, some (left_frK2 n)), (2, some (left_frK3 loads)), (3, some (left_frK4 bores)), (5, some (left_frK1 n need)), (1009, some (left_frK6 n node bores k))]⟩
  [((k : Nat) : Int) = ((k : Nat) : Int), k < bores.length, k < bores.length, k < bores.length] (by kernel_rfl) (al2 (by omega) (al2 (by omega) (al2 (by omega) (al1 (by omega))))) ?_
 refine aw_seq ?_
 refine aw_d [(7, .idx node), (9, .call [] (.i (lossZ (⟨(ix n.pipes node).parent, (ix n.pipes node).length, (ix bores k).size, (ix n.pipes node).drop, (ix n.pipes node).taps⟩ : Pipe) (ix loads node))) [])]
  ⟨52, [5, 1, 2, 3], [(0, .l (.ref 5 0)), (9, .l (.ref 1009 0)), (10, .i (max 0 (vac - (lossZ (⟨(ix n.pipes node).parent, (ix n.pipes node).length, (ix bores k).size, (ix n.pipes node).drop, (ix n.pipes node).taps⟩ : Pipe) (ix loads node)))))], [(1, some (left_frK2 n)), (2, some (left_frK3 loads)), (3, some (left_frK4 bores)), (5, some (left_frK1 n need)), (1009, some (left_frK6 n node bores k))]⟩
  [((node : Nat) : Int) = ((node : Nat) : Int), node < loads.length, node < loads.length, CallOK Try.prog 39 [.agg [.i ((ix n.pipes node).parent), .i ((ix n.pipes node).length), .i ((ix bores k).size), .i ((ix n.pipes node).drop), .i ((ix n.pipes node).taps)], .i (ix loads node)] [] [] (.i (lossZ (⟨(ix n.pipes node).parent, (ix n.pipes node).length, (ix bores k).size, (ix n.pipes node).drop, (ix n.pipes node).taps⟩ : Pipe) (ix loads node))) [], -9223372036854775808 ≤ (vac - (lossZ (⟨(ix n.pipes node).parent, (ix n.pipes node).length, (ix bores k).size, (ix n.pipes node).drop, (ix n.pipes node).taps⟩ : Pipe) (ix loads node))) ∧ (vac - (lossZ (⟨(ix n.pipes node).parent, (ix n.pipes node).length, (ix bores k).size, (ix n.pipes node).drop, (ix n.pipes node).taps⟩ : Pipe) (ix loads node))) < 9223372036854775808] (by kernel_rfl) (by kernel_rfl) (al2 (by omega) (al2 (by omega) (al2 (by omega) (al2 (CallFr.to (refLoss_fr (⟨(ix n.pipes node).parent, (ix n.pipes node).length, (ix bores k).size, (ix n.pipes node).drop, (ix n.pipes node).taps⟩ : Pipe) (ix loads node) (by assumption) (by omega) (by omega)) [] (by kernel_rfl) (by kernel_rfl) (by kernel_rfl) (by kernel_rfl) (by kernel_rfl) dem_nil) (al1 (by first | omega | rfl | assumption)))))) ?_
 refine aw_seq ?_
 refine aw_seq ?_
 rcases Bool.eq_false_or_eq_true (decide (0 < (ix n.pipes node).taps)) with h1 | h1
 ·
  rcases Bool.eq_false_or_eq_true (decide ((vacB (ix n.pipes node) (ix bores k) vac (ix loads node)) < need)) with h2 | h2
  ·
   refine aw_ent (T := ⟨52, [5, 1, 2, 3], [(0, .l (.ref 5 0)), (9, .l (.ref 1009 0)), (10, .i (vacB (ix n.pipes node) (ix bores k) vac (ix loads node)))], [(1, some (left_frK2 n)), (2, some (left_frK3 loads)), (3, some (left_frK4 bores)), (5, some (left_frK1 n need)), (1009, some (left_frK6 n node bores k))]⟩)
       (Ent.ren [] rfl rfl (by kernel_rfl) ⟨rfl, rfl, (slot_i rfl (by first | rfl | omega | assumption | (rfl))), trivial⟩ (cro rfl (cro rfl (cro rfl (crr rfl rfl (cbl rfl rfl trivial))))) (by kernel_rfl)) ?_
   refine aw_r [(3, .dec true)]
    ⟨52, [5, 1, 2, 3], [(10, .i (vacB (ix n.pipes node) (ix bores k) vac (ix loads node))), (50, .b (decide ((vacB (ix n.pipes node) (ix bores k) vac (ix loads node)) < need)))], []⟩
    [decide (0 < (ix n.pipes node).taps) = true] (by kernel_rfl) (al1 h1) ?_
   refine aw_cond (b := decide ((vacB (ix n.pipes node) (ix bores k) vac (ix loads node)) < need)) rfl (fun _ => ?_) (fun h => Bool.noConfusion (h2.symm.trans h))
   refine aw_seq ?_
   refine aw_r []
    ⟨52, [5, 1, 2, 3], [(8, .i (-1))], []⟩
    [] (by kernel_rfl) trivial ?_
   exact aw_ret (ret_then ⟨.inr rfl, end_ok ⟨52, [5, 1, 2, 3], [(8, .i (leftZ (ix n.pipes node) (ix bores k) need vac (ix loads node)))], []⟩
       (Ent.ren [] rfl rfl (by kernel_rfl) ⟨(slot_i rfl (by first | rfl | omega | assumption | (exact (if_pos ⟨dtr (by assumption), dtr (by assumption)⟩).symm) | (exact (if_neg (fun h => absurd h.1 (of_decide_eq_false (by assumption)))).symm) | (exact (if_neg (fun h => absurd h.2 (of_decide_eq_false (by assumption)))).symm))), trivial⟩ trivial (by kernel_rfl)) rfl (by kernel_rfl) wr_nil (by kernel_rfl)⟩)
  ·
   refine aw_ent (T := ⟨52, [5, 1, 2, 3], [(0, .l (.ref 5 0)), (9, .l (.ref 1009 0)), (10, .i (vacB (ix n.pipes node) (ix bores k) vac (ix loads node)))], [(1, some (left_frK2 n)), (2, some (left_frK3 loads)), (3, some (left_frK4 bores)), (5, some (left_frK1 n need)), (1009, some (left_frK6 n node bores k))]⟩)
       (Ent.ren [] rfl rfl (by kernel_rfl) ⟨rfl, rfl, (slot_i rfl (by first | rfl | omega | assumption | (rfl))), trivial⟩ (cro rfl (cro rfl (cro rfl (crr rfl rfl (cbl rfl rfl trivial))))) (by kernel_rfl)) ?_
   refine aw_r [(3, .dec true)]
    ⟨52, [5, 1, 2, 3], [(10, .i (vacB (ix n.pipes node) (ix bores k) vac (ix loads node))), (50, .b (decide ((vacB (ix n.pipes node) (ix bores k) vac (ix loads node)) < need)))], []⟩
    [decide (0 < (ix n.pipes node).taps) = true] (by kernel_rfl) (al1 h1) ?_
   refine aw_cond (b := decide ((vacB (ix n.pipes node) (ix bores k) vac (ix loads node)) < need)) rfl (fun h => Bool.noConfusion (h2.symm.trans h)) (fun _ => ?_)
   refine aw_skip ?_
   refine aw_seq ?_
   refine aw_r []
    ⟨52, [5, 1, 2, 3], [(8, .i (vacB (ix n.pipes node) (ix bores k) vac (ix loads node)))], []⟩
    [] (by kernel_rfl) trivial ?_
   exact aw_ret ⟨.inr rfl, end_ok ⟨52, [5, 1, 2, 3], [(8, .i (leftZ (ix n.pipes node) (ix bores k) need vac (ix loads node)))], []⟩
       (Ent.ren [] rfl rfl (by kernel_rfl) ⟨(slot_i rfl (by first | rfl | omega | assumption | (exact (if_pos ⟨dtr (by assumption), dtr (by assumption)⟩).symm) | (exact (if_neg (fun h => absurd h.1 (of_decide_eq_false (by assumption)))).symm) | (exact (if_neg (fun h => absurd h.2 (of_decide_eq_false (by assumption)))).symm))), trivial⟩ trivial (by kernel_rfl)) rfl (by kernel_rfl) wr_nil (by kernel_rfl)⟩
 ·
  rcases Bool.eq_false_or_eq_true (decide ((vacB (ix n.pipes node) (ix bores k) vac (ix loads node)) < need)) with h3 | h3
  ·
   refine aw_ent (T := ⟨52, [5, 1, 2, 3], [(0, .l (.ref 5 0)), (9, .l (.ref 1009 0)), (10, .i (vacB (ix n.pipes node) (ix bores k) vac (ix loads node)))], [(1, some (left_frK2 n)), (2, some (left_frK3 loads)), (3, some (left_frK4 bores)), (5, some (left_frK1 n need)), (1009, some (left_frK6 n node bores k))]⟩)
       (Ent.ren [] rfl rfl (by kernel_rfl) ⟨rfl, rfl, (slot_i rfl (by first | rfl | omega | assumption | (rfl))), trivial⟩ (cro rfl (cro rfl (cro rfl (crr rfl rfl (cbl rfl rfl trivial))))) (by kernel_rfl)) ?_
   refine aw_r [(3, .dec false)]
    ⟨52, [5, 1, 2, 3], [(10, .i (vacB (ix n.pipes node) (ix bores k) vac (ix loads node))), (50, .b false)], []⟩
    [decide (0 < (ix n.pipes node).taps) = false] (by kernel_rfl) (al1 h1) ?_
   refine aw_false rfl ?_
   refine aw_skip ?_
   refine aw_seq ?_
   refine aw_r []
    ⟨52, [5, 1, 2, 3], [(8, .i (vacB (ix n.pipes node) (ix bores k) vac (ix loads node)))], []⟩
    [] (by kernel_rfl) trivial ?_
   exact aw_ret ⟨.inr rfl, end_ok ⟨52, [5, 1, 2, 3], [(8, .i (leftZ (ix n.pipes node) (ix bores k) need vac (ix loads node)))], []⟩
       (Ent.ren [] rfl rfl (by kernel_rfl) ⟨(slot_i rfl (by first | rfl | omega | assumption | (exact (if_pos ⟨dtr (by assumption), dtr (by assumption)⟩).symm) | (exact (if_neg (fun h => absurd h.1 (of_decide_eq_false (by assumption)))).symm) | (exact (if_neg (fun h => absurd h.2 (of_decide_eq_false (by assumption)))).symm))), trivial⟩ trivial (by kernel_rfl)) rfl (by kernel_rfl) wr_nil (by kernel_rfl)⟩
  ·
   refine aw_ent (T := ⟨52, [5, 1, 2, 3], [(0, .l (.ref 5 0)), (9, .l (.ref 1009 0)), (10, .i (vacB (ix n.pipes node) (ix bores k) vac (ix loads node)))], [(1, some (left_frK2 n)), (2, some (left_frK3 loads)), (3, some (left_frK4 bores)), (5, some (left_frK1 n need)), (1009, some (left_frK6 n node bores k))]⟩)
       (Ent.ren [] rfl rfl (by kernel_rfl) ⟨rfl, rfl, (slot_i rfl (by first | rfl | omega | assumption | (rfl))), trivial⟩ (cro rfl (cro rfl (cro rfl (crr rfl rfl (cbl rfl rfl trivial))))) (by kernel_rfl)) ?_
   refine aw_r [(3, .dec false)]
    ⟨52, [5, 1, 2, 3], [(10, .i (vacB (ix n.pipes node) (ix bores k) vac (ix loads node))), (50, .b false)], []⟩
    [decide (0 < (ix n.pipes node).taps) = false] (by kernel_rfl) (al1 h1) ?_
   refine aw_false rfl ?_
   refine aw_skip ?_
   refine aw_seq ?_
   refine aw_r []
    ⟨52, [5, 1, 2, 3], [(8, .i (vacB (ix n.pipes node) (ix bores k) vac (ix loads node)))], []⟩
    [] (by kernel_rfl) trivial ?_
   exact aw_ret ⟨.inr rfl, end_ok ⟨52, [5, 1, 2, 3], [(8, .i (leftZ (ix n.pipes node) (ix bores k) need vac (ix loads node)))], []⟩
       (Ent.ren [] rfl rfl (by kernel_rfl) ⟨(slot_i rfl (by first | rfl | omega | assumption | (exact (if_pos ⟨dtr (by assumption), dtr (by assumption)⟩).symm) | (exact (if_neg (fun h => absurd h.1 (of_decide_eq_false (by assumption)))).symm) | (exact (if_neg (fun h => absurd h.2 (of_decide_eq_false (by assumption)))).symm))), trivial⟩ trivial (by kernel_rfl)) rfl (by kernel_rfl) wr_nil (by kernel_rfl)⟩
def with_stepK1 (n : Net) (need : Int) : Cn := .rblk [.i n.pump, .ls 1, .ls 2, .ls 3, .i need, .ls 4]
def with_stepK2 (n : Net) : Cn := .ro 5 n.pipes.length (Lst eP n.pipes)
def with_stepK3 (loads : List Int) : Cn := .ro 1 loads.length (Lst eI loads)
def with_stepK4 (bores : List Bor) : Cn := .ro 2 bores.length (Lst eO bores)
def with_stepK5 (n : Net) (loads : List Int) (bores : List Bor) (need : Int) : Cn := .mp (CostM n.pipes loads bores need)
set_option maxRecDepth 100000 in
theorem with_step (n : Net) (loads : List Int) (bores : List Bor) (need : Int) (H : PlOk n.pipes loads bores need n.pump) (f : Nat) (ih : ∀ x v, 0 < x → x < n.pipes.length → n.pipes.length - x ≤ f → 0 ≤ v → v ≤ 10000 → CallFr Try.prog 65 [.l (.ref 5 0), .i ((x : Nat) : Int), .i v] [5, 1, 2, 3, 4] [some (.rblk [.i n.pump, .ls 1, .ls 2, .ls 3, .i need, .ls 4]), some (.ro 5 n.pipes.length (Lst eP n.pipes)), some (.ro 1 loads.length (Lst eI loads)), some (.ro 2 bores.length (Lst eO bores)), some (.mp (CostM n.pipes loads bores need))] (.i (refC (atL n.pipes loads bores need x v))) [(4, some (.mp (CostM n.pipes loads bores need)))]) (node : Nat) (n0 : 0 < node) (n1 : node < n.pipes.length) (hf : n.pipes.length - node ≤ f + 1) (vac : Int) (v0 : 0 ≤ vac) (v1 : vac ≤ 10000) (k : Nat) (hk : k < bores.length) : CallFr Try.prog 66 [.l (.ref 5 0), .i ((node : Nat) : Int), .i vac, .i ((k : Nat) : Int)] [5, 1, 2, 3, 4] [some (.rblk [.i n.pump, .ls 1, .ls 2, .ls 3, .i need, .ls 4]), some (.ro 5 n.pipes.length (Lst eP n.pipes)), some (.ro 1 loads.length (Lst eI loads)), some (.ro 2 bores.length (Lst eO bores)), some (.mp (CostM n.pipes loads bores need))] (.i (withV n.pipes loads need (atL n.pipes loads bores need) node vac (ix bores k))) [(4, some (.mp (CostM n.pipes loads bores need)))] := by
 have hn60 := H.n
 have hll := H.ll
 have hbn := H.bn
 have hneed := H.need
 have ht := H.t
 have hvb := vacB_bd H n0 n1 hk v0 v1
 have hvb2 : 0 ≤ (vacB (ix n.pipes node) (ix bores k) vac (ix loads node)) ∧ (vacB (ix n.pipes node) (ix bores k) vac (ix loads node)) ≤ 10000 := hvb
 have ho := own_bd H n0 n1 hk
 have ho2 : 0 ≤ ((ix n.pipes node).length * (ix bores k).price) ∧ ((ix n.pipes node).length * (ix bores k).price) ≤ 100000000 := ho
 have hwb := with_bd H n0 n1 hk v0 v1
 refine callFr_of (fn := Try.f66) (by kernel_rfl) rfl (by kernel_rfl) (by kernel_rfl) fun E => ?_
 refine aw_ent (T := ⟨68, [5, 1, 2, 3, 4], [(0, .l (.ref 5 0)), (1, .i ((node : Nat) : Int)), (2, .i vac), (3, .i ((k : Nat) : Int))], [(5, some (with_stepK1 n need)), (1, some (with_stepK2 n)), (2, some (with_stepK3 loads)), (3, some (with_stepK4 bores)), (4, some (with_stepK5 n loads bores need))]⟩) (Ent.refl _) ?_
 refine aw_seq ?_
 refine aw_r []
  ⟨68, [5, 1, 2, 3, 4], [(0, .l (.ref 5 0)), (1, .i ((node : Nat) : Int)), (2, .i vac), (3, .i ((k : Nat) : Int))], [(1, some (with_stepK2 n)), (2, some (with_stepK3 loads)), (3, some (with_stepK4 bores)), (4, some (with_stepK5 n loads bores need)), (5, some (with_stepK1 n need))]⟩
  [] (by kernel_rfl) trivial ?_
 refine aw_seq ?_
 refine aw_r [(4, .call [5, 1, 2, 3] (.i (leftZ (ix n.pipes node) (ix bores k) need vac (ix loads node))) [])]
  ⟨68, [5, 1, 2, 3, 4], [(0, .l (.ref 5 0)), (1, .i ((node : Nat) : Int)), (3, .i ((k : Nat) : Int)), (9, .i (leftZ (ix n.pipes node) (ix bores k) need vac (ix loads node)))], [(1, some (with_stepK2 n)), (2, some (with_stepK3 loads)), (3, some (with_stepK4 bores)), (4, some (with_stepK5 n loads bores need)), (5, some (with_stepK1 n need))]⟩
  [CallOK Try.prog 67 [.l (.ref 5 0), .i ((node : Nat) : Int), .i vac, .i ((k : Nat) : Int)] [5, 1, 2, 3] [some (with_stepK1 n need), some (with_stepK2 n), some (with_stepK3 loads), some (with_stepK4 bores)] (.i (leftZ (ix n.pipes node) (ix bores k) need vac (ix loads node))) []] (by kernel_rfl) (al1 (CallFr.to (left_fr n loads bores need H node (by omega) (by omega) vac (by omega) (by omega) k (by omega)) [(5, 5), (1, 1), (2, 2), (3, 3), (4, 4)] (by kernel_rfl) (by kernel_rfl) (by kernel_rfl) (by kernel_rfl) (by kernel_rfl) (dem_cons rfl (le_rblk rfl) (dem_cons rfl (le_ro rfl el_rfl) (dem_cons rfl (le_ro rfl el_rfl) (dem_cons rfl (le_ro rfl el_rfl) dem_nil)))))) ?_
 refine aw_seq ?_
 refine aw_seq ?_
 rcases Bool.eq_false_or_eq_true (decide ((leftZ (ix n.pipes node) (ix bores k) need vac (ix loads node)) < 0)) with h1 | h1
 ·
  have hx : 0 < (ix n.pipes node).taps ∧ (vacB (ix n.pipes node) (ix bores k) vac (ix loads node)) < need := by
    rcases Classical.em (0 < (ix n.pipes node).taps ∧ (vacB (ix n.pipes node) (ix bores k) vac (ix loads node)) < need) with h | h
    · exact h
    · have e : (leftZ (ix n.pipes node) (ix bores k) need vac (ix loads node)) = (vacB (ix n.pipes node) (ix bores k) vac (ix loads node)) := if_neg h
      have := dtr h1
      omega
  refine aw_r []
   ⟨68, [5, 1, 2, 3, 4], [(0, .l (.ref 5 0)), (1, .i ((node : Nat) : Int)), (3, .i ((k : Nat) : Int)), (9, .i (leftZ (ix n.pipes node) (ix bores k) need vac (ix loads node))), (18, .b (decide ((leftZ (ix n.pipes node) (ix bores k) need vac (ix loads node)) < 0)))], [(1, some (with_stepK2 n)), (2, some (with_stepK3 loads)), (3, some (with_stepK4 bores)), (4, some (with_stepK5 n loads bores need)), (5, some (with_stepK1 n need))]⟩
   [] (by kernel_rfl) trivial ?_
  refine aw_cond (b := decide ((leftZ (ix n.pipes node) (ix bores k) need vac (ix loads node)) < 0)) rfl (fun _ => ?_) (fun h => Bool.noConfusion (h1.symm.trans h))
  refine aw_seq ?_
  refine aw_r []
   ⟨68, [5, 1, 2, 3, 4], [(8, .i 1000000000000)], [(4, some (with_stepK5 n loads bores need))]⟩
   [] (by kernel_rfl) trivial ?_
  exact aw_ret (ret_then ⟨.inr rfl, end_ok ⟨68, [5, 1, 2, 3, 4], [(8, .i (withV n.pipes loads need (atL n.pipes loads bores need) node vac (ix bores k)))], [(4, some (with_stepK5 n loads bores need))]⟩
      (Ent.ren [] rfl rfl (by kernel_rfl) ⟨(slot_i rfl (by first | rfl | omega | assumption | (exact (if_pos hx).symm) | (rw [show i = n.pipes.length by omega]; exact (if_neg hx).symm))), trivial⟩ (cmp_ rfl (fun _ h => h) trivial) (by kernel_rfl)) rfl (by kernel_rfl) (wr_cons rfl plain_mp wr_nil) (by kernel_rfl)⟩)
 ·
  have hx : ¬ (0 < (ix n.pipes node).taps ∧ (vacB (ix n.pipes node) (ix bores k) vac (ix loads node)) < need) := fun h => by
    have e : (leftZ (ix n.pipes node) (ix bores k) need vac (ix loads node)) = -1 := if_pos h
    have := dlt h1
    omega
  have hlz : (leftZ (ix n.pipes node) (ix bores k) need vac (ix loads node)) = (vacB (ix n.pipes node) (ix bores k) vac (ix loads node)) := if_neg hx
  refine aw_r []
   ⟨68, [5, 1, 2, 3, 4], [(0, .l (.ref 5 0)), (1, .i ((node : Nat) : Int)), (3, .i ((k : Nat) : Int)), (9, .i (leftZ (ix n.pipes node) (ix bores k) need vac (ix loads node))), (18, .b (decide ((leftZ (ix n.pipes node) (ix bores k) need vac (ix loads node)) < 0)))], [(1, some (with_stepK2 n)), (2, some (with_stepK3 loads)), (3, some (with_stepK4 bores)), (4, some (with_stepK5 n loads bores need)), (5, some (with_stepK1 n need))]⟩
   [] (by kernel_rfl) trivial ?_
  refine aw_cond (b := decide ((leftZ (ix n.pipes node) (ix bores k) need vac (ix loads node)) < 0)) rfl (fun h => Bool.noConfusion (h1.symm.trans h)) (fun _ => ?_)
  refine aw_skip ?_
  refine aw_seq ?_
  refine aw_ent (T := ⟨68, [5, 1, 2, 3, 4], [(0, .l (.ref 5 0)), (1, .i ((node : Nat) : Int)), (3, .i ((k : Nat) : Int)), (9, .i (vacB (ix n.pipes node) (ix bores k) vac (ix loads node))), (18, .b (decide ((leftZ (ix n.pipes node) (ix bores k) need vac (ix loads node)) < 0)))], [(1, some (with_stepK2 n)), (2, some (with_stepK3 loads)), (3, some (with_stepK4 bores)), (4, some (with_stepK5 n loads bores need)), (5, some (with_stepK1 n need))]⟩)
      (Ent.ren [] rfl rfl (by kernel_rfl) ⟨rfl, rfl, rfl, (slot_i rfl (by first | rfl | omega | assumption | (exact hlz))), rfl, trivial⟩ (cro rfl (cro rfl (cro rfl (cmp_ rfl (fun _ h => h) (crr rfl rfl trivial))))) (by kernel_rfl)) ?_
  refine aw_d [(6, .idx node), (14, .idx k)]
   ⟨68, [5, 1, 2, 3, 4], [(0, .l (.ref 5 0)), (1, .i ((node : Nat) : Int)), (9, .i (vacB (ix n.pipes node) (ix bores k) vac (ix loads node))), (10, .i ((ix n.pipes node).length * (ix bores k).price))], [(1, some (with_stepK2 n)), (2, some (with_stepK3 loads)), (3, some (with_stepK4 bores)), (4, some (with_stepK5 n loads bores need)), (5, some (with_stepK1 n need))]⟩
   [((node : Nat) : Int) = ((node : Nat) : Int), node < n.pipes.length, node < n.pipes.length, node < n.pipes.length, ((k : Nat) : Int) = ((k : Nat) : Int), k < bores.length, k < bores.length, k < bores.length, -9223372036854775808 ≤ ((ix n.pipes node).length * (ix bores k).price) ∧ ((ix n.pipes node).length * (ix bores k).price) < 9223372036854775808] (by kernel_rfl) (by kernel_rfl) (al2 (by omega) (al2 (by omega) (al2 (by omega) (al2 (by omega) (al2 (by omega) (al2 (by omega) (al2 (by omega) (al2 (by omega) (al1 (by first | omega | rfl | assumption)))))))))) ?_
  refine aw_seq ?_
  refine aw_seq ?_
  refine aw_r [(1, .num (((node + 1) : Nat) : Int))]
   ⟨68, [5, 1, 2, 3, 4], [(0, .l (.ref 5 0)), (1, .i ((node : Nat) : Int)), (9, .i (vacB (ix n.pipes node) (ix bores k) vac (ix loads node))), (10, .i ((ix n.pipes node).length * (ix bores k).price)), (11, .i (((node + 1) : Nat) : Int))], [(1, some (with_stepK2 n)), (2, some (with_stepK3 loads)), (3, some (with_stepK4 bores)), (4, some (with_stepK5 n loads bores need)), (5, some (with_stepK1 n need))]⟩
   [(((node : Nat) : Int) + 1) = (((node + 1) : Nat) : Int), -9223372036854775808 ≤ (((node + 1) : Nat) : Int) ∧ (((node + 1) : Nat) : Int) < 9223372036854775808] (by kernel_rfl) (al2 (by first | omega | rfl | assumption) (al1 (by first | omega | rfl | assumption))) ?_
  refine aw_block ?_
  refine aw_loop (ι := Nat) (fun zz => ⟨68, [5, 1, 2, 3, 4], [(0, .l (.ref 5 0)), (1, .i ((node : Nat) : Int)), (9, .i (vacB (ix n.pipes node) (ix bores k) vac (ix loads node))), (10, .i (sumV n.pipes (atL n.pipes loads bores need) node (vacB (ix n.pipes node) (ix bores k) vac (ix loads node)) ((ix n.pipes node).length * (ix bores k).price) zz)), (11, .i ((zz : Nat) : Int))], [(1, some (with_stepK2 n)), (2, some (with_stepK3 loads)), (3, some (with_stepK4 bores)), (4, some (with_stepK5 n loads bores need)), (5, some (with_stepK1 n need))]⟩) (fun zz => (node < zz) ∧ (zz ≤ n.pipes.length)) (fun zz => n.pipes.length - zz) (node + 1) ⟨(by first | omega | rfl | assumption | (simp; done)), (by first | omega | rfl | assumption | (simp; done))⟩
      (Ent.ren [] rfl rfl (by kernel_rfl) ⟨rfl, rfl, rfl, (slot_i rfl (by first | rfl | omega | assumption | (exact (sumV_zero H n1 hvb2.1 hvb2.2 ho2.1 ho2.2).symm))), rfl, trivial⟩ (cro rfl (cro rfl (cro rfl (cmp_ rfl (fun _ h => h) (crr rfl rfl trivial))))) (by kernel_rfl)) fun zz hp => ?_
  obtain ⟨i, rfl⟩ : ∃ x, x = zz := ⟨_, rfl⟩
  obtain ⟨hi0, hi⟩ := hp
  have hsb := sumV_bd H n1 hvb2.1 hvb2.2 ho2.1 ho2.2 (m := i) hi
  show AW _ E _ _ ⟨68, [5, 1, 2, 3, 4], [(0, .l (.ref 5 0)), (1, .i ((node : Nat) : Int)), (9, .i (vacB (ix n.pipes node) (ix bores k) vac (ix loads node))), (10, .i (sumV n.pipes (atL n.pipes loads bores need) node (vacB (ix n.pipes node) (ix bores k) vac (ix loads node)) ((ix n.pipes node).length * (ix bores k).price) i)), (11, .i ((i : Nat) : Int))], [(1, some (with_stepK2 n)), (2, some (with_stepK3 loads)), (3, some (with_stepK4 bores)), (4, some (with_stepK5 n loads bores need)), (5, some (with_stepK1 n need))]⟩
  refine aw_seq ?_
  refine aw_seq ?_
  refine aw_r []
   ⟨68, [5, 1, 2, 3, 4], [(0, .l (.ref 5 0)), (1, .i ((node : Nat) : Int)), (9, .i (vacB (ix n.pipes node) (ix bores k) vac (ix loads node))), (10, .i (sumV n.pipes (atL n.pipes loads bores need) node (vacB (ix n.pipes node) (ix bores k) vac (ix loads node)) ((ix n.pipes node).length * (ix bores k).price) i)), (11, .i ((i : Nat) : Int)), (46, .b (decide (((i : Nat) : Int) < ((n.pipes.length : Nat) : Int))))], [(1, some (with_stepK2 n)), (2, some (with_stepK3 loads)), (3, some (with_stepK4 bores)), (4, some (with_stepK5 n loads bores need)), (5, some (with_stepK1 n need))]⟩
   [] (by kernel_rfl) trivial ?_
  refine aw_cond (b := decide (((i : Nat) : Int) < ((n.pipes.length : Nat) : Int))) rfl (fun h2 => ?_) (fun h2 => ?_)
  ·
   have h2p : ((i : Nat) : Int) < ((n.pipes.length : Nat) : Int) := dtr h2
   refine aw_skip ?_
   refine aw_seq ?_
   refine aw_block ?_
   refine aw_seq ?_
   refine aw_r [(6, .idx i)]
    ⟨68, [5, 1, 2, 3, 4], [(0, .l (.ref 5 0)), (1, .i ((node : Nat) : Int)), (9, .i (vacB (ix n.pipes node) (ix bores k) vac (ix loads node))), (10, .i (sumV n.pipes (atL n.pipes loads bores need) node (vacB (ix n.pipes node) (ix bores k) vac (ix loads node)) ((ix n.pipes node).length * (ix bores k).price) i)), (11, .i ((i : Nat) : Int)), (59, .b (decide ((ix n.pipes i).parent = ((node : Nat) : Int))))], [(1, some (with_stepK2 n)), (2, some (with_stepK3 loads)), (3, some (with_stepK4 bores)), (4, some (with_stepK5 n loads bores need)), (5, some (with_stepK1 n need))]⟩
    [((i : Nat) : Int) = ((i : Nat) : Int), i < n.pipes.length, i < n.pipes.length, i < n.pipes.length] (by kernel_rfl) (al2 (by omega) (al2 (by omega) (al2 (by omega) (al1 (by omega))))) ?_
   refine aw_cond (b := decide ((ix n.pipes i).parent = ((node : Nat) : Int))) rfl (fun h3 => ?_) (fun h3 => ?_)
   ·
    have h3p : (ix n.pipes i).parent = ((node : Nat) : Int) := dtr h3
    have hrb := refC_bd H hvb2.1 hvb2.2 (m := i) (by omega) (by omega)
    unfold never at hrb hsb
    have hpar : par n.pipes i = node := by rw [← ix_par]; assumption
    refine aw_r [(4, .call [5, 1, 2, 3, 4] (.i (refC (atL n.pipes loads bores need i (vacB (ix n.pipes node) (ix bores k) vac (ix loads node))))) [(4, some (with_stepK5 n loads bores need))])]
     ⟨68, [5, 1, 2, 3, 4], [(0, .l (.ref 5 0)), (1, .i ((node : Nat) : Int)), (9, .i (vacB (ix n.pipes node) (ix bores k) vac (ix loads node))), (10, .i (min 1000000000000 ((sumV n.pipes (atL n.pipes loads bores need) node (vacB (ix n.pipes node) (ix bores k) vac (ix loads node)) ((ix n.pipes node).length * (ix bores k).price) i) + (refC (atL n.pipes loads bores need i (vacB (ix n.pipes node) (ix bores k) vac (ix loads node))))))), (11, .i ((i : Nat) : Int))], [(1, some (with_stepK2 n)), (2, some (with_stepK3 loads)), (3, some (with_stepK4 bores)), (4, some (with_stepK5 n loads bores need)), (5, some (with_stepK1 n need))]⟩
     [CallOK Try.prog 65 [.l (.ref 5 0), .i ((i : Nat) : Int), .i (vacB (ix n.pipes node) (ix bores k) vac (ix loads node))] [5, 1, 2, 3, 4] [some (with_stepK1 n need), some (with_stepK2 n), some (with_stepK3 loads), some (with_stepK4 bores), some (with_stepK5 n loads bores need)] (.i (refC (atL n.pipes loads bores need i (vacB (ix n.pipes node) (ix bores k) vac (ix loads node))))) [(4, some (with_stepK5 n loads bores need))], -9223372036854775808 ≤ ((sumV n.pipes (atL n.pipes loads bores need) node (vacB (ix n.pipes node) (ix bores k) vac (ix loads node)) ((ix n.pipes node).length * (ix bores k).price) i) + (refC (atL n.pipes loads bores need i (vacB (ix n.pipes node) (ix bores k) vac (ix loads node))))) ∧ ((sumV n.pipes (atL n.pipes loads bores need) node (vacB (ix n.pipes node) (ix bores k) vac (ix loads node)) ((ix n.pipes node).length * (ix bores k).price) i) + (refC (atL n.pipes loads bores need i (vacB (ix n.pipes node) (ix bores k) vac (ix loads node))))) < 9223372036854775808] (by kernel_rfl) (al2 (CallFr.to (ih i (vacB (ix n.pipes node) (ix bores k) vac (ix loads node)) (by omega) (by omega) (by omega) (by omega) (by omega)) [(5, 5), (1, 1), (2, 2), (3, 3), (4, 4)] (by kernel_rfl) (by kernel_rfl) (by kernel_rfl) (by kernel_rfl) (by kernel_rfl) (dem_cons rfl (le_rblk rfl) (dem_cons rfl (le_ro rfl el_rfl) (dem_cons rfl (le_ro rfl el_rfl) (dem_cons rfl (le_ro rfl el_rfl) (dem_cons rfl (le_mp (fun _ h => h)) dem_nil)))))) (al1 (by first | omega | rfl | assumption))) ?_
    try have hpar : ¬ par n.pipes i = node := by rw [← ix_par]; assumption
    refine aw_r [(1, .num (((i + 1) : Nat) : Int))]
     ⟨68, [5, 1, 2, 3, 4], [(0, .l (.ref 5 0)), (1, .i ((node : Nat) : Int)), (9, .i (vacB (ix n.pipes node) (ix bores k) vac (ix loads node))), (10, .i (min 1000000000000 ((sumV n.pipes (atL n.pipes loads bores need) node (vacB (ix n.pipes node) (ix bores k) vac (ix loads node)) ((ix n.pipes node).length * (ix bores k).price) i) + (refC (atL n.pipes loads bores need i (vacB (ix n.pipes node) (ix bores k) vac (ix loads node))))))), (11, .i (((i + 1) : Nat) : Int))], [(1, some (with_stepK2 n)), (2, some (with_stepK3 loads)), (3, some (with_stepK4 bores)), (4, some (with_stepK5 n loads bores need)), (5, some (with_stepK1 n need))]⟩
     [(((i : Nat) : Int) + 1) = (((i + 1) : Nat) : Int), -9223372036854775808 ≤ (((i + 1) : Nat) : Int) ∧ (((i + 1) : Nat) : Int) < 9223372036854775808] (by kernel_rfl) (al2 (by first | omega | rfl | assumption) (al1 (by first | omega | rfl | assumption))) ?_
    exact ⟨i + 1, ⟨(by first | omega | rfl | assumption | (simp; done)), (by first | omega | rfl | assumption | (simp; done))⟩, (show n.pipes.length - (i + 1) < n.pipes.length - i by first | omega | rfl | assumption),
        (Ent.ren [] rfl rfl (by kernel_rfl) ⟨rfl, rfl, rfl, (slot_i rfl (by first | rfl | omega | assumption | (exact (sumV_yes H n1 hvb2.1 hvb2.2 ho2.1 ho2.2 (by omega) (by omega) hpar).symm) | (exact (sumV_no H n1 hvb2.1 hvb2.2 ho2.1 ho2.2 hpar).symm))), rfl, trivial⟩ (cro rfl (cro rfl (cro rfl (cmp_ rfl (fun _ h => h) (crr rfl rfl trivial))))) (by kernel_rfl))⟩
   ·
    have h3p : (ix n.pipes i).parent ≠ ((node : Nat) : Int) := deq h3
    refine aw_skip ?_
    try have hpar : ¬ par n.pipes i = node := by rw [← ix_par]; assumption
    refine aw_r [(1, .num (((i + 1) : Nat) : Int))]
     ⟨68, [5, 1, 2, 3, 4], [(0, .l (.ref 5 0)), (1, .i ((node : Nat) : Int)), (9, .i (vacB (ix n.pipes node) (ix bores k) vac (ix loads node))), (10, .i (sumV n.pipes (atL n.pipes loads bores need) node (vacB (ix n.pipes node) (ix bores k) vac (ix loads node)) ((ix n.pipes node).length * (ix bores k).price) i)), (11, .i (((i + 1) : Nat) : Int))], [(1, some (with_stepK2 n)), (2, some (with_stepK3 loads)), (3, some (with_stepK4 bores)), (4, some (with_stepK5 n loads bores need)), (5, some (with_stepK1 n need))]⟩
     [(((i : Nat) : Int) + 1) = (((i + 1) : Nat) : Int), -9223372036854775808 ≤ (((i + 1) : Nat) : Int) ∧ (((i + 1) : Nat) : Int) < 9223372036854775808] (by kernel_rfl) (al2 (by first | omega | rfl | assumption) (al1 (by first | omega | rfl | assumption))) ?_
    exact ⟨i + 1, ⟨(by first | omega | rfl | assumption | (simp; done)), (by first | omega | rfl | assumption | (simp; done))⟩, (show n.pipes.length - (i + 1) < n.pipes.length - i by first | omega | rfl | assumption),
        (Ent.ren [] rfl rfl (by kernel_rfl) ⟨rfl, rfl, rfl, (slot_i rfl (by first | rfl | omega | assumption | (exact (sumV_yes H n1 hvb2.1 hvb2.2 ho2.1 ho2.2 (by omega) (by omega) hpar).symm) | (exact (sumV_no H n1 hvb2.1 hvb2.2 ho2.1 ho2.2 hpar).symm))), rfl, trivial⟩ (cro rfl (cro rfl (cro rfl (cmp_ rfl (fun _ h => h) (crr rfl rfl trivial))))) (by kernel_rfl))⟩
  ·
   have h2p : ((n.pipes.length : Nat) : Int) ≤ ((i : Nat) : Int) := dlt h2
   refine aw_exit (exit_then (exit_then (exit_in ?_)))
   refine aw_seq ?_
   refine aw_r []
    ⟨68, [5, 1, 2, 3, 4], [(8, .i (sumV n.pipes (atL n.pipes loads bores need) node (vacB (ix n.pipes node) (ix bores k) vac (ix loads node)) ((ix n.pipes node).length * (ix bores k).price) i))], [(4, some (with_stepK5 n loads bores need))]⟩
    [] (by kernel_rfl) trivial ?_
   exact aw_ret ⟨.inr rfl, end_ok ⟨68, [5, 1, 2, 3, 4], [(8, .i (withV n.pipes loads need (atL n.pipes loads bores need) node vac (ix bores k)))], [(4, some (with_stepK5 n loads bores need))]⟩
       (Ent.ren [] rfl rfl (by kernel_rfl) ⟨(slot_i rfl (by first | rfl | omega | assumption | (exact (if_pos hx).symm) | (rw [show i = n.pipes.length by omega]; exact (if_neg hx).symm))), trivial⟩ (cmp_ rfl (fun _ h => h) trivial) (by kernel_rfl)) rfl (by kernel_rfl) (wr_cons rfl plain_mp wr_nil) (by kernel_rfl)⟩
def cost_stepK1 (n : Net) (need : Int) : Cn := .rblk [.i n.pump, .ls 1, .ls 2, .ls 3, .i need, .ls 4]
def cost_stepK2 (n : Net) : Cn := .ro 5 n.pipes.length (Lst eP n.pipes)
def cost_stepK3 (loads : List Int) : Cn := .ro 1 loads.length (Lst eI loads)
def cost_stepK4 (bores : List Bor) : Cn := .ro 2 bores.length (Lst eO bores)
def cost_stepK5 (n : Net) (loads : List Int) (bores : List Bor) (need : Int) : Cn := .mp (CostM n.pipes loads bores need)
def cost_stepK6 (node : Nat) (vac : Int) : Cn := .blk 155 [.i ((node : Nat) : Int), .i vac]
set_option maxRecDepth 100000 in
theorem cost_step (n : Net) (loads : List Int) (bores : List Bor) (need : Int) (H : PlOk n.pipes loads bores need n.pump) (f : Nat) (ih : ∀ x v k, 0 < x → x < n.pipes.length → n.pipes.length - x ≤ f → 0 ≤ v → v ≤ 10000 → k < bores.length → CallFr Try.prog 66 [.l (.ref 5 0), .i ((x : Nat) : Int), .i v, .i ((k : Nat) : Int)] [5, 1, 2, 3, 4] [some (.rblk [.i n.pump, .ls 1, .ls 2, .ls 3, .i need, .ls 4]), some (.ro 5 n.pipes.length (Lst eP n.pipes)), some (.ro 1 loads.length (Lst eI loads)), some (.ro 2 bores.length (Lst eO bores)), some (.mp (CostM n.pipes loads bores need))] (.i (withV n.pipes loads need (atL n.pipes loads bores need) x v (ix bores k))) [(4, some (.mp (CostM n.pipes loads bores need)))]) (node : Nat) (n0 : 0 < node) (n1 : node < n.pipes.length) (hf : n.pipes.length - node ≤ f) (vac : Int) (v0 : 0 ≤ vac) (v1 : vac ≤ 10000) : CallFr Try.prog 65 [.l (.ref 5 0), .i ((node : Nat) : Int), .i vac] [5, 1, 2, 3, 4] [some (.rblk [.i n.pump, .ls 1, .ls 2, .ls 3, .i need, .ls 4]), some (.ro 5 n.pipes.length (Lst eP n.pipes)), some (.ro 1 loads.length (Lst eI loads)), some (.ro 2 bores.length (Lst eO bores)), some (.mp (CostM n.pipes loads bores need))] (.i (refC ((atL n.pipes loads bores need) node vac))) [(4, some (.mp (CostM n.pipes loads bores need)))] := by
 have hn60 := H.n
 have hll := H.ll
 have hbn := H.bn
 have hneed := H.need
 refine callFr_of (fn := Try.f65) (by kernel_rfl) rfl (by kernel_rfl) (by kernel_rfl) fun E => ?_
 refine aw_ent (T := ⟨49, [5, 1, 2, 3, 4], [(0, .l (.ref 5 0)), (1, .i ((node : Nat) : Int)), (2, .i vac)], [(5, some (cost_stepK1 n need)), (1, some (cost_stepK2 n)), (2, some (cost_stepK3 loads)), (3, some (cost_stepK4 bores)), (4, some (cost_stepK5 n loads bores need))]⟩) (Ent.refl _) ?_
 refine aw_seq ?_
 refine aw_r []
  ⟨49, [5, 1, 2, 3, 4], [(0, .l (.ref 5 0)), (1, .i ((node : Nat) : Int)), (2, .i vac)], [(1, some (cost_stepK2 n)), (2, some (cost_stepK3 loads)), (3, some (cost_stepK4 bores)), (4, some (cost_stepK5 n loads bores need)), (5, some (cost_stepK1 n need))]⟩
  [] (by kernel_rfl) trivial ?_
 refine aw_seq ?_
 refine aw_r [(3, .new 1007)]
  ⟨49, [5, 1, 2, 3, 4], [(0, .l (.ref 5 0)), (1, .i ((node : Nat) : Int)), (2, .i vac), (7, .l (.ref 1007 0))], [(1, some (cost_stepK2 n)), (2, some (cost_stepK3 loads)), (3, some (cost_stepK4 bores)), (4, some (cost_stepK5 n loads bores need)), (5, some (cost_stepK1 n need)), (1007, some (cost_stepK6 node vac))]⟩
  [] (by kernel_rfl) trivial ?_
 refine aw_seq ?_
 refine aw_seq ?_
 refine aw_open 4 rfl fun es => ?_
 refine aw_ent (T := ⟨49, [5, 1, 2, 3, 4], [(0, .l (.ref 5 0)), (1, .i ((node : Nat) : Int)), (2, .i vac), (7, .l (.ref 1007 0))], [(1, some (cost_stepK2 n)), (2, some (cost_stepK3 loads)), (3, some (cost_stepK4 bores)), (4, some (.mp (MapE Try.prog 155 es.1))), (5, some (cost_stepK1 n need)), (1007, some (cost_stepK6 node vac))]⟩)
  (Ent.ren [] rfl rfl (by kernel_rfl) ⟨rfl, rfl, rfl, rfl, trivial⟩ (cro rfl (cro rfl (cro rfl (cmp_ rfl (fun _ h => h) (crr rfl rfl (cbl rfl rfl trivial)))))) (by kernel_rfl)) ?_
 obtain ⟨z0, is0, hz0, hlk⟩ := cost_look (need := need) (loads := loads) (bores := bores) hn60 n1 v0 v1 (m := (.tmp 19)) (x := (.tmp 20)) (ty := 56) (id := 4) es
 refine aw_d [(5, .act [4] (.tup [.one (.i z0), .one (.v (.bool is0))]) [])]
  ⟨49, [5, 1, 2, 3, 4], [(0, .l (.ref 5 0)), (1, .i ((node : Nat) : Int)), (2, .i vac), (7, .l (.ref 1007 0)), (8, .i z0), (9, .b is0)], [(1, some (cost_stepK2 n)), (2, some (cost_stepK3 loads)), (3, some (cost_stepK4 bores)), (4, some (.mp (MapE Try.prog 155 es.1))), (5, some (cost_stepK1 n need)), (1007, some (cost_stepK6 node vac))]⟩
  [ActOK Try.prog (.lookup 124 (.tmp 19) (.tmp 20) true) 56 [.ls 4, .agg [.i ((node : Nat) : Int), .i vac]] [4] [some (.mp (MapE Try.prog 155 es.1))] (.tup [.one (.i z0), .one (.v (.bool is0))]) []] (by kernel_rfl) (by kernel_rfl) (al1 hlk) ?_
 refine aw_seq ?_
 refine aw_r []
  ⟨49, [5, 1, 2, 3, 4], [(0, .l (.ref 5 0)), (1, .i ((node : Nat) : Int)), (2, .i vac), (7, .l (.ref 1007 0)), (8, .i z0), (24, .b is0)], [(1, some (cost_stepK2 n)), (2, some (cost_stepK3 loads)), (3, some (cost_stepK4 bores)), (4, some (.mp (MapE Try.prog 155 es.1))), (5, some (cost_stepK1 n need)), (1007, some (cost_stepK6 node vac))]⟩
  [] (by kernel_rfl) trivial ?_
 refine aw_cond (b := is0) rfl (fun h1 => ?_) (fun h1 => ?_)
 ·
  refine aw_seq ?_
  refine aw_r []
   ⟨49, [5, 1, 2, 3, 4], [(6, .i z0)], [(4, some (.mp (MapE Try.prog 155 es.1)))]⟩
   [] (by kernel_rfl) trivial ?_
  exact aw_ret (ret_then ⟨.inr rfl, end_ok ⟨49, [5, 1, 2, 3, 4], [(6, .i (refC ((atL n.pipes loads bores need) node vac)))], [(4, some (cost_stepK5 n loads bores need))]⟩
      (Ent.ren [] rfl rfl (by kernel_rfl) ⟨(slot_i rfl (by first | rfl | omega | assumption | (exact hz0 (by assumption)))), trivial⟩ (cmp_ rfl (fun _ h => ⟨es, h⟩) trivial) (by kernel_rfl)) rfl (by kernel_rfl) (wr_cons rfl plain_mp wr_nil) (by kernel_rfl)⟩)
 ·
  refine aw_skip ?_
  refine aw_seq ?_
  refine aw_ent (T := ⟨49, [5, 1, 2, 3, 4], [(0, .l (.ref 5 0)), (1, .i ((node : Nat) : Int)), (2, .i vac), (7, .l (.ref 1007 0)), (8, .i z0), (24, .b is0)], [(1, some (cost_stepK2 n)), (2, some (cost_stepK3 loads)), (3, some (cost_stepK4 bores)), (4, some (cost_stepK5 n loads bores need)), (5, some (cost_stepK1 n need)), (1007, some (cost_stepK6 node vac))]⟩)
      (Ent.ren [] rfl rfl (by kernel_rfl) ⟨rfl, rfl, rfl, rfl, rfl, rfl, trivial⟩ (cro rfl (cro rfl (cro rfl (cmp_ rfl (fun _ h => ⟨es, h⟩) (crr rfl rfl (cbl rfl rfl trivial)))))) (by kernel_rfl)) ?_
  refine aw_r []
   ⟨49, [5, 1, 2, 3, 4], [(0, .l (.ref 5 0)), (1, .i ((node : Nat) : Int)), (2, .i vac), (7, .l (.ref 1007 0)), (10, .i 1000000000000)], [(1, some (cost_stepK2 n)), (2, some (cost_stepK3 loads)), (3, some (cost_stepK4 bores)), (4, some (cost_stepK5 n loads bores need)), (5, some (cost_stepK1 n need)), (1007, some (cost_stepK6 node vac))]⟩
   [] (by kernel_rfl) trivial ?_
  refine aw_seq ?_
  refine aw_seq ?_
  refine aw_r []
   ⟨49, [5, 1, 2, 3, 4], [(0, .l (.ref 5 0)), (1, .i ((node : Nat) : Int)), (2, .i vac), (7, .l (.ref 1007 0)), (10, .i 1000000000000), (11, .i 0)], [(1, some (cost_stepK2 n)), (2, some (cost_stepK3 loads)), (3, some (cost_stepK4 bores)), (4, some (cost_stepK5 n loads bores need)), (5, some (cost_stepK1 n need)), (1007, some (cost_stepK6 node vac))]⟩
   [] (by kernel_rfl) trivial ?_
  refine aw_block ?_
  refine aw_loop (ι := Nat) (fun zz => ⟨49, [5, 1, 2, 3, 4], [(0, .l (.ref 5 0)), (1, .i ((node : Nat) : Int)), (2, .i vac), (7, .l (.ref 1007 0)), (10, .i (refC (bTo n.pipes loads bores need node vac zz))), (11, .i ((zz : Nat) : Int))], [(1, some (cost_stepK2 n)), (2, some (cost_stepK3 loads)), (3, some (cost_stepK4 bores)), (4, some (cost_stepK5 n loads bores need)), (5, some (cost_stepK1 n need)), (1007, some (cost_stepK6 node vac))]⟩) (fun zz => (zz ≤ bores.length)) (fun zz => bores.length - zz) 0 (by first | omega | rfl | assumption | (simp; done))
      (Ent.ren [] rfl rfl (by kernel_rfl) ⟨rfl, rfl, rfl, rfl, (slot_i rfl (by first | rfl | omega | assumption | (exact (refC_zero n.pipes loads bores need node vac).symm))), rfl, trivial⟩ (cro rfl (cro rfl (cro rfl (cmp_ rfl (fun _ h => h) (crr rfl rfl (cbl rfl rfl trivial)))))) (by kernel_rfl)) fun zz hp => ?_
  obtain ⟨k, rfl⟩ : ∃ x, x = zz := ⟨_, rfl⟩
  have hk := hp
  show AW _ E _ _ ⟨49, [5, 1, 2, 3, 4], [(0, .l (.ref 5 0)), (1, .i ((node : Nat) : Int)), (2, .i vac), (7, .l (.ref 1007 0)), (10, .i (refC (bTo n.pipes loads bores need node vac k))), (11, .i ((k : Nat) : Int))], [(1, some (cost_stepK2 n)), (2, some (cost_stepK3 loads)), (3, some (cost_stepK4 bores)), (4, some (cost_stepK5 n loads bores need)), (5, some (cost_stepK1 n need)), (1007, some (cost_stepK6 node vac))]⟩
  refine aw_seq ?_
  refine aw_seq ?_
  refine aw_r []
   ⟨49, [5, 1, 2, 3, 4], [(0, .l (.ref 5 0)), (1, .i ((node : Nat) : Int)), (2, .i vac), (7, .l (.ref 1007 0)), (10, .i (refC (bTo n.pipes loads bores need node vac k))), (11, .i ((k : Nat) : Int)), (32, .b (decide (((k : Nat) : Int) < ((bores.length : Nat) : Int))))], [(1, some (cost_stepK2 n)), (2, some (cost_stepK3 loads)), (3, some (cost_stepK4 bores)), (4, some (cost_stepK5 n loads bores need)), (5, some (cost_stepK1 n need)), (1007, some (cost_stepK6 node vac))]⟩
   [] (by kernel_rfl) trivial ?_
  refine aw_cond (b := decide (((k : Nat) : Int) < ((bores.length : Nat) : Int))) rfl (fun h2 => ?_) (fun h2 => ?_)
  ·
   have h2p : ((k : Nat) : Int) < ((bores.length : Nat) : Int) := dtr h2
   refine aw_skip ?_
   refine aw_seq ?_
   refine aw_block ?_
   refine aw_r [(5, .call [5, 1, 2, 3, 4] (.i (withV n.pipes loads need (atL n.pipes loads bores need) node vac (ix bores k))) [(4, some (cost_stepK5 n loads bores need))])]
    ⟨49, [5, 1, 2, 3, 4], [(0, .l (.ref 5 0)), (1, .i ((node : Nat) : Int)), (2, .i vac), (7, .l (.ref 1007 0)), (10, .i (min (refC (bTo n.pipes loads bores need node vac k)) (withV n.pipes loads need (atL n.pipes loads bores need) node vac (ix bores k)))), (11, .i ((k : Nat) : Int))], [(1, some (cost_stepK2 n)), (2, some (cost_stepK3 loads)), (3, some (cost_stepK4 bores)), (4, some (cost_stepK5 n loads bores need)), (5, some (cost_stepK1 n need)), (1007, some (cost_stepK6 node vac))]⟩
    [CallOK Try.prog 66 [.l (.ref 5 0), .i ((node : Nat) : Int), .i vac, .i ((k : Nat) : Int)] [5, 1, 2, 3, 4] [some (cost_stepK1 n need), some (cost_stepK2 n), some (cost_stepK3 loads), some (cost_stepK4 bores), some (cost_stepK5 n loads bores need)] (.i (withV n.pipes loads need (atL n.pipes loads bores need) node vac (ix bores k))) [(4, some (cost_stepK5 n loads bores need))]] (by kernel_rfl) (al1 (CallFr.to (ih node vac k (by omega) (by omega) (by omega) (by omega) (by omega) (by omega)) [(5, 5), (1, 1), (2, 2), (3, 3), (4, 4)] (by kernel_rfl) (by kernel_rfl) (by kernel_rfl) (by kernel_rfl) (by kernel_rfl) (dem_cons rfl (le_rblk rfl) (dem_cons rfl (le_ro rfl el_rfl) (dem_cons rfl (le_ro rfl el_rfl) (dem_cons rfl (le_ro rfl el_rfl) (dem_cons rfl (le_mp (fun _ h => h)) dem_nil))))))) ?_
   refine aw_r [(1, .num (((k + 1) : Nat) : Int))]
    ⟨49, [5, 1, 2, 3, 4], [(0, .l (.ref 5 0)), (1, .i ((node : Nat) : Int)), (2, .i vac), (7, .l (.ref 1007 0)), (10, .i (min (refC (bTo n.pipes loads bores need node vac k)) (withV n.pipes loads need (atL n.pipes loads bores need) node vac (ix bores k)))), (11, .i (((k + 1) : Nat) : Int))], [(1, some (cost_stepK2 n)), (2, some (cost_stepK3 loads)), (3, some (cost_stepK4 bores)), (4, some (cost_stepK5 n loads bores need)), (5, some (cost_stepK1 n need)), (1007, some (cost_stepK6 node vac))]⟩
    [(((k : Nat) : Int) + 1) = (((k + 1) : Nat) : Int), -9223372036854775808 ≤ (((k + 1) : Nat) : Int) ∧ (((k + 1) : Nat) : Int) < 9223372036854775808] (by kernel_rfl) (al2 (by first | omega | rfl | assumption) (al1 (by first | omega | rfl | assumption))) ?_
   exact ⟨k + 1, (by first | omega | rfl | assumption | (simp; done)), (show bores.length - (k + 1) < bores.length - k by first | omega | rfl | assumption),
       (Ent.ren [] rfl rfl (by kernel_rfl) ⟨rfl, rfl, rfl, rfl, (slot_i rfl (by first | rfl | omega | assumption | (exact (cost_succ H n0 n1 v0 v1 (by omega)).symm))), rfl, trivial⟩ (cro rfl (cro rfl (cro rfl (cmp_ rfl (fun _ h => h) (crr rfl rfl (cbl rfl rfl trivial)))))) (by kernel_rfl))⟩
  ·
   have h2p : ((bores.length : Nat) : Int) ≤ ((k : Nat) : Int) := dlt h2
   refine aw_exit (exit_then (exit_then (exit_in ?_)))
   refine aw_seq ?_
   refine aw_ent (T := ⟨49, [5, 1, 2, 3, 4], [(0, .l (.ref 5 0)), (1, .i ((node : Nat) : Int)), (2, .i vac), (7, .l (.ref 1007 0)), (10, .i (refC ((atL n.pipes loads bores need) node vac))), (11, .i ((k : Nat) : Int)), (32, .b (decide (((k : Nat) : Int) < ((bores.length : Nat) : Int))))], [(1, some (cost_stepK2 n)), (2, some (cost_stepK3 loads)), (3, some (cost_stepK4 bores)), (4, some (cost_stepK5 n loads bores need)), (5, some (cost_stepK1 n need)), (1007, some (cost_stepK6 node vac))]⟩)
       (Ent.ren [] rfl rfl (by kernel_rfl) ⟨rfl, rfl, rfl, rfl, (slot_i rfl (by first | rfl | omega | assumption | (rw [show k = bores.length by omega, bTo_all H.t loads bores need vac n1]))), rfl, rfl, trivial⟩ (cro rfl (cro rfl (cro rfl (cmp_ rfl (fun _ h => h) (crr rfl rfl (cbl rfl rfl trivial)))))) (by kernel_rfl)) ?_
   refine aw_d [(6, .act [4] (.v undef) [(4, some (cost_stepK5 n loads bores need))])]
    ⟨49, [5, 1, 2, 3, 4], [(10, .i (refC ((atL n.pipes loads bores need) node vac)))], [(4, some (cost_stepK5 n loads bores need))]⟩
    [ActOK Try.prog (.mapUpdate 124 (.tmp 45) (.tmp 46) (.tmp 47)) 0 [.ls 4, .agg [.i ((node : Nat) : Int), .i vac], .i (refC ((atL n.pipes loads bores need) node vac))] [4] [some (cost_stepK5 n loads bores need)] (.v undef) [(4, some (cost_stepK5 n loads bores need))]] (by kernel_rfl) (by kernel_rfl) (al1 (cost_put hn60 n1 v0 v1 rfl)) ?_
   refine aw_seq ?_
   refine aw_r []
    ⟨49, [5, 1, 2, 3, 4], [(6, .i (refC ((atL n.pipes loads bores need) node vac)))], [(4, some (cost_stepK5 n loads bores need))]⟩
    [] (by kernel_rfl) trivial ?_
   exact aw_ret ⟨.inr rfl, end_ok ⟨49, [5, 1, 2, 3, 4], [(6, .i (refC ((atL n.pipes loads bores need) node vac)))], [(4, some (cost_stepK5 n loads bores need))]⟩
       (Ent.ren [] rfl rfl (by kernel_rfl) ⟨rfl, trivial⟩ (cmp_ rfl (fun _ h => h) trivial) (by kernel_rfl)) rfl (by kernel_rfl) (wr_cons rfl plain_mp wr_nil) (by kernel_rfl)⟩
theorem cost_all (n : Net) (loads : List Int) (bores : List Bor) (need : Int) (H : PlOk n.pipes loads bores need n.pump) : ∀ f x v, 0 < x → x < n.pipes.length → n.pipes.length - x ≤ f → 0 ≤ v → v ≤ 10000 → CallFr Try.prog 65 [.l (.ref 5 0), .i ((x : Nat) : Int), .i v] [5, 1, 2, 3, 4] [some (.rblk [.i n.pump, .ls 1, .ls 2, .ls 3, .i need, .ls 4]), some (.ro 5 n.pipes.length (Lst eP n.pipes)), some (.ro 1 loads.length (Lst eI loads)), some (.ro 2 bores.length (Lst eO bores)), some (.mp (CostM n.pipes loads bores need))] (.i (refC (atL n.pipes loads bores need x v))) [(4, some (.mp (CostM n.pipes loads bores need)))] := by
  intro f
  induction f with
  | zero => intro x v h0 h1 h2; omega
  | succ f ihf => exact fun x v h0 h1 h2 h3 h4 => cost_step n loads bores need H (f + 1) (fun y u k a b c d e g => with_step n loads bores need H f ihf y a b c u d e k g) x h0 h1 h2 v h3 h4
theorem cost_fr (n : Net) (loads : List Int) (bores : List Bor) (need : Int) (H : PlOk n.pipes loads bores need n.pump) (x : Nat) (v : Int) (h0 : 0 < x) (h1 : x < n.pipes.length) (h2 : 0 ≤ v) (h3 : v ≤ 10000) : CallFr Try.prog 65 [.l (.ref 5 0), .i ((x : Nat) : Int), .i v] [5, 1, 2, 3, 4] [some (.rblk [.i n.pump, .ls 1, .ls 2, .ls 3, .i need, .ls 4]), some (.ro 5 n.pipes.length (Lst eP n.pipes)), some (.ro 1 loads.length (Lst eI loads)), some (.ro 2 bores.length (Lst eO bores)), some (.mp (CostM n.pipes loads bores need))] (.i (refC (atL n.pipes loads bores need x v))) [(4, some (.mp (CostM n.pipes loads bores need)))] := cost_all n loads bores need H n.pipes.length x v h0 h1 (by omega) h2 h3
theorem with_fr (n : Net) (loads : List Int) (bores : List Bor) (need : Int) (H : PlOk n.pipes loads bores need n.pump) (x : Nat) (v : Int) (k : Nat) (h0 : 0 < x) (h1 : x < n.pipes.length) (h2 : 0 ≤ v) (h3 : v ≤ 10000) (h4 : k < bores.length) : CallFr Try.prog 66 [.l (.ref 5 0), .i ((x : Nat) : Int), .i v, .i ((k : Nat) : Int)] [5, 1, 2, 3, 4] [some (.rblk [.i n.pump, .ls 1, .ls 2, .ls 3, .i need, .ls 4]), some (.ro 5 n.pipes.length (Lst eP n.pipes)), some (.ro 1 loads.length (Lst eI loads)), some (.ro 2 bores.length (Lst eO bores)), some (.mp (CostM n.pipes loads bores need))] (.i (withV n.pipes loads need (atL n.pipes loads bores need) x v (ix bores k))) [(4, some (.mp (CostM n.pipes loads bores need)))] := with_step n loads bores need H n.pipes.length (cost_all n loads bores need H n.pipes.length) x h0 h1 (by omega) v h2 h3 k h4
end Go.Proofs.Ytepibjfmeibgcaa
/- The document's Plan, walked. -/
namespace Go.Proofs.Ytepibjfmeibgcaa
open Go.RowKit
set_option linter.unusedVariables false
theorem flow_bad {l : List Rng} {k : Nat} (hk : k < l.length) (h : ¬ (0 ≤ (ix l k).low ∧ (ix l k).low ≤ (ix l k).high ∧ (ix l k).high ≤ 1000000000)) : flowsB l = false := by
  cases hb : flowsB l with
  | false => rfl
  | true =>
    have := flow_at hb hk
    rw [← lowF_ix, ← highF_ix] at this
    omega
theorem chkF_nil {m : Nat} {rs : List Rng} (hl : rs.length = m) (hf : flowsB rs = true) : chkF m rs [] = 0 := by unfold chkF; rw [if_pos hl, hf]; rfl
theorem flowE_ok {n : Net} {flows : List Rng} (h : netB n = true) (h2 : chkF n.pipes.length flows [] = 0) : flowE n flows [] = 0 := by unfold flowE; rw [h]; exact h2
theorem planA_net {n : Net} {flows : List Rng} {bores : List Bor} {need : Int} (h : netB n = false) : planA n flows bores need = ([], 0, 2) := by
  have e : flowE n flows [] = 2 := by unfold flowE; rw [h]; rfl
  rw [planA_flow (by omega), e]
theorem planA_chk {n : Net} {flows : List Rng} {bores : List Bor} {need : Int} (h : netB n = true) (h2 : chkF n.pipes.length flows [] ≠ 0) : planA n flows bores need = ([], 0, chkF n.pipes.length flows []) := by
  have e : flowE n flows [] = chkF n.pipes.length flows [] := by unfold flowE; rw [h]; rfl
  rw [planA_flow (by omega), e]
theorem refC_never {c : Cho} (hc : c.cost ≤ 6000000000) (h : refC c = 1000000000000) : c.index < 0 := by
  rcases Int.lt_or_le c.index 0 with hi | hi
  · exact hi
  · rw [refC_pos hi] at h; omega
theorem refC_some {c : Cho} (h : refC c ≠ 1000000000000) : 0 ≤ c.index := by
  rcases Int.lt_or_le c.index 0 with hi | hi
  · exact absurd (refC_neg hi) h
  · exact hi
theorem netB_zero {n : Net} (h : netB n = true) : ix n.pipes 0 = pump0 := by
  unfold netB at h
  simp only [Bool.and_eq_true, decide_eq_true_eq] at h
  have h2 := h.1.2
  unfold ix
  cases hp : n.pipes with
  | nil => rw [hp] at h2; simp at h2
  | cons x xs => rw [hp] at h2; simp at h2; simp [h2]
theorem loadT_pair (n : Net) (flows : List Rng) {i : Nat} (hi : i < n.pipes.length) : (ix (pairT (ldV n.pipes (lowF flows) []) (ldV n.pipes (highF flows) []) n.pipes.length) i).high = (loadT n flows)[i]'(by rw [loadT_len]; exact hi) := by
  rw [ix_eq (by rw [pairT_len]; exact hi), pairT_at hi]
  unfold loadT
  rw [List.getElem_map, List.getElem_range]
theorem plan_row {ps : List Pipe} (ht : Tree ps) (loads : List Int) (bores : List Bor) (need pump : Int) {j k : Nat} (hj : j ≤ k) (hk : k < ps.length) : ix (row ps.length 0 (plTo ps loads bores need pump k).1) j = plV ps loads bores need pump j := by
  unfold row
  rw [ix_app (by rw [(plTo_len ps loads bores need pump hk).1]; omega)]
  exact plTo_at ht loads bores need pump k hj hk
theorem row_one1 {n : Nat} (h : 0 < n) (x : Int) : (List.replicate n (0 : Int)).set 0 x = row n 0 [x] := by
  rw [← row_nil]; exact row_set (l := []) h
section
variable (n : Net) (rs : List Rng) (hE : flowE n rs [] = 0) (x : Nat) (hx : x < n.pipes.length)
include hE hx
theorem refLoad_low : CallFr Try.prog 79 [.agg [.i n.pump, .ls 1], .ls 2, .v (.slice none 0 0), .i ((x : Nat) : Int)] [1, 2] [some (.ro 5 n.pipes.length (Lst eP n.pipes)), some (.ro 1 rs.length (Lst eI (rs.map Rng.low)))] (.i (ldV n.pipes (lowF rs) [] x)) [] := by
  obtain ⟨hok, hck⟩ := flowE_zero hE
  obtain ⟨hrl, hfb⟩ := chkF_zero hck
  have h := refLoad_nil n (rs.map Rng.low) (lowF rs) (netB_len hok).2 (netB_tree hok) (fun j hj => by have := flow_at hfb (show j < rs.length by omega); omega) (by rw [List.length_map]; exact hrl) (fun j hj => by unfold lowF; rw [rng_getD (by simpa using hj)]; simp) x hx
  rw [List.length_map] at h
  exact h
theorem refLoad_high : CallFr Try.prog 79 [.agg [.i n.pump, .ls 1], .ls 2, .v (.slice none 0 0), .i ((x : Nat) : Int)] [1, 2] [some (.ro 5 n.pipes.length (Lst eP n.pipes)), some (.ro 1 rs.length (Lst eI (rs.map Rng.high)))] (.i (ldV n.pipes (highF rs) [] x)) [] := by
  obtain ⟨hok, hck⟩ := flowE_zero hE
  obtain ⟨hrl, hfb⟩ := chkF_zero hck
  have h := refLoad_nil n (rs.map Rng.high) (highF rs) (netB_len hok).2 (netB_tree hok) (fun j hj => by have := flow_at hfb (show j < rs.length by omega); omega) (by rw [List.length_map]; exact hrl) (fun j hj => by unfold highF; rw [rng_getD (by simpa using hj)]; simp) x hx
  rw [List.length_map] at h
  exact h
end
def ends_frK1 (k : Nat) (rs : List Rng) : Cn := .vec 3 1 k (Lst eI ((rs.take k).map Rng.low))
def ends_frK2 (k : Nat) (rs : List Rng) : Cn := .vec 3 1 k (Lst eI ((rs.take k).map Rng.high))
def ends_frK3 (k : Nat) (rs : List Rng) : Cn := .vec 3 1 (k + 1) (Lst eI (((rs.take k).map Rng.low) ++ [(ix rs k).low]))
def ends_frK4 (k : Nat) (rs : List Rng) : Cn := .vec 3 1 (k + 1) (Lst eI (((rs.take k).map Rng.high) ++ [(ix rs k).high]))
def ends_frK5 (rs : List Rng) : Cn := .vec 3 1 rs.length (Lst eI (rs.map Rng.low))
def ends_frK6 (rs : List Rng) : Cn := .vec 3 1 rs.length (Lst eI (rs.map Rng.high))
set_option maxRecDepth 100000 in
theorem ends_fr (rs : List Rng) (hr : rs.length ≤ 1000) : CallFr Try.prog 78 [.ls 1] [1] [some (.ro 2 rs.length (Lst eR rs))] (.tup [.one (.ls 2), .one (.ls 3)]) [(2, some (.vec 3 1 rs.length (Lst eI (rs.map Rng.low)))), (3, some (.vec 3 1 rs.length (Lst eI (rs.map Rng.high))))] := by
 refine callFr_of (fn := Try.f78) (by kernel_rfl) rfl (by kernel_rfl) (by kernel_rfl) fun E => ?_
 refine aw_ent (T := ⟨33, [1], [(0, .ls 1)], [(1, some (.ro 2 rs.length (Lst eR rs)))]⟩) (Ent.refl _) ?_
 refine aw_seq ?_
 refine aw_r []
  ⟨33, [1], [(0, .ls 1)], [(1, some (.ro 2 rs.length (Lst eR rs)))]⟩
  [] (by kernel_rfl) trivial ?_
 refine aw_seq ?_
 refine aw_r [(0, .new 1007), (1, .new 1008)]
  ⟨33, [1], [(0, .ls 1), (4, .ls 1007), (5, .ls 1008)], [(1, some (.ro 2 rs.length (Lst eR rs))), (1007, some (.vec 3 1 0 (exEl 1 []))), (1008, some (.vec 3 1 0 (exEl 1 [])))]⟩
  [] (by kernel_rfl) trivial ?_
 refine aw_seq ?_
 refine aw_seq ?_
 refine aw_r []
  ⟨33, [1], [(0, .ls 1), (4, .ls 1007), (5, .ls 1008), (6, .i 0)], [(1, some (.ro 2 rs.length (Lst eR rs))), (1007, some (.vec 3 1 0 (exEl 1 []))), (1008, some (.vec 3 1 0 (exEl 1 [])))]⟩
  [] (by kernel_rfl) trivial ?_
 refine aw_block ?_
 refine aw_loop (ι := Nat) (fun zz => ⟨33, [1], [(0, .ls 1), (4, .ls 9001), (5, .ls 9002), (6, .i ((zz : Nat) : Int))], [(1, some (.ro 2 rs.length (Lst eR rs))), (9001, some (ends_frK1 zz rs)), (9002, some (ends_frK2 zz rs))]⟩) (fun zz => (zz ≤ rs.length)) (fun zz => rs.length - zz) 0 (by first | omega | rfl | assumption | (simp; done))
     (Ent.ren [(9001, 1007), (9002, 1008)] rfl rfl (by kernel_rfl) ⟨rfl, rfl, rfl, rfl, trivial⟩ (cro rfl (conts_cons rfl (le_vec rfl (fun i hi => absurd hi (by omega))) (conts_cons rfl (le_vec rfl (fun i hi => absurd hi (by omega))) trivial))) (by kernel_rfl)) fun zz hp => ?_
 obtain ⟨k, rfl⟩ : ∃ x, x = zz := ⟨_, rfl⟩
 have hk := hp
 show AW _ E _ _ ⟨33, [1], [(0, .ls 1), (4, .ls 9001), (5, .ls 9002), (6, .i ((k : Nat) : Int))], [(1, some (.ro 2 rs.length (Lst eR rs))), (9001, some (ends_frK1 k rs)), (9002, some (ends_frK2 k rs))]⟩
 refine aw_seq ?_
 refine aw_seq ?_
 refine aw_r []
  ⟨33, [1], [(0, .ls 1), (4, .ls 9001), (5, .ls 9002), (6, .i ((k : Nat) : Int)), (12, .b (decide (((k : Nat) : Int) < ((rs.length : Nat) : Int))))], [(1, some (.ro 2 rs.length (Lst eR rs))), (9001, some (ends_frK1 k rs)), (9002, some (ends_frK2 k rs))]⟩
  [] (by kernel_rfl) trivial ?_
 refine aw_cond (b := decide (((k : Nat) : Int) < ((rs.length : Nat) : Int))) rfl (fun h1 => ?_) (fun h1 => ?_)
 ·
  have h1p : ((k : Nat) : Int) < ((rs.length : Nat) : Int) := dtr h1
  refine aw_skip ?_
  refine aw_seq ?_
  refine aw_block ?_
  refine aw_d [(3, .idx k), (6, .new 1021), (7, .lst 1022 (k + 1) (Lst eI (((rs.take k).map Rng.low) ++ [(ix rs k).low]))), (11, .idx k), (14, .new 1029), (15, .lst 1030 (k + 1) (Lst eI (((rs.take k).map Rng.high) ++ [(ix rs k).high])))]
   ⟨33, [1], [(0, .ls 1), (4, .ls 1022), (5, .ls 1030), (6, .i ((k : Nat) : Int))], [(1, some (.ro 2 rs.length (Lst eR rs))), (1022, some (ends_frK3 k rs)), (1030, some (ends_frK4 k rs))]⟩
   [((k : Nat) : Int) = ((k : Nat) : Int), k < rs.length, k < rs.length, k < rs.length, k + 1 ≤ 1000000000000, (k + 1) * 8 ≤ 140737488355328, AppOk 1 k 1 (Lst eI ((rs.take k).map Rng.low)) (exEl 1 [.i ((ix rs k).low)]) (k + 1) (Lst eI (((rs.take k).map Rng.low) ++ [(ix rs k).low])), ((k : Nat) : Int) = ((k : Nat) : Int), k < rs.length, k < rs.length, k < rs.length, k + 1 ≤ 1000000000000, (k + 1) * 8 ≤ 140737488355328, AppOk 1 k 1 (Lst eI ((rs.take k).map Rng.high)) (exEl 1 [.i ((ix rs k).high)]) (k + 1) (Lst eI (((rs.take k).map Rng.high) ++ [(ix rs k).high]))] (by kernel_rfl) (by kernel_rfl) (al2 (by omega) (al2 (by omega) (al2 (by omega) (al2 (by omega) (al2 (by omega) (al2 (by omega) (al2 (app_one (by first | rfl | omega | (rw [List.length_map, List.length_take]; omega)) (by first | rfl | omega | (rw [List.length_map, List.length_take]; omega)) (fun | 0, _ => rfl | (n + 1), h => absurd h (by omega))) (al2 (by omega) (al2 (by omega) (al2 (by omega) (al2 (by omega) (al2 (by omega) (al2 (by omega) (al1 (app_one (by first | rfl | omega | (rw [List.length_map, List.length_take]; omega)) (by first | rfl | omega | (rw [List.length_map, List.length_take]; omega)) (fun | 0, _ => rfl | (n + 1), h => absurd h (by omega))))))))))))))))) ?_
  refine aw_r [(1, .num (((k + 1) : Nat) : Int))]
   ⟨33, [1], [(0, .ls 1), (4, .ls 1022), (5, .ls 1030), (6, .i (((k + 1) : Nat) : Int))], [(1, some (.ro 2 rs.length (Lst eR rs))), (1022, some (ends_frK3 k rs)), (1030, some (ends_frK4 k rs))]⟩
   [(((k : Nat) : Int) + 1) = (((k + 1) : Nat) : Int), -9223372036854775808 ≤ (((k + 1) : Nat) : Int) ∧ (((k + 1) : Nat) : Int) < 9223372036854775808] (by kernel_rfl) (al2 (by omega) (al1 (by omega))) ?_
  exact ⟨k + 1, (by first | omega | rfl | assumption | (simp; done)), (show rs.length - (k + 1) < rs.length - k by first | omega | rfl | assumption),
      (Ent.ren [(9001, 1022), (9002, 1030)] rfl rfl (by kernel_rfl) ⟨rfl, rfl, rfl, rfl, trivial⟩ (cro rfl (conts_cons rfl (le_vec rfl (lst_eq (by first | rfl | omega | assumption | (rw [List.take_succ_eq_append_getElem (by omega), List.map_append, ← ix_eq (by omega)]; rfl)))) (conts_cons rfl (le_vec rfl (lst_eq (by first | rfl | omega | assumption | (rw [List.take_succ_eq_append_getElem (by omega), List.map_append, ← ix_eq (by omega)]; rfl)))) trivial))) (by kernel_rfl))⟩
 ·
  have h1p : ((rs.length : Nat) : Int) ≤ ((k : Nat) : Int) := dlt h1
  refine aw_exit (exit_then (exit_then (exit_in ?_)))
  refine aw_seq ?_
  refine aw_r []
   ⟨33, [1], [(2, .ls 9001), (3, .ls 9002)], [(9001, some (ends_frK1 k rs)), (9002, some (ends_frK2 k rs))]⟩
   [] (by kernel_rfl) trivial ?_
  exact aw_ret ⟨.inr rfl, end_ok ⟨33, [1], [(2, .ls 2), (3, .ls 3)], [(2, some (ends_frK5 rs)), (3, some (ends_frK6 rs))]⟩
      (Ent.ren [(2, 9001), (3, 9002)] rfl rfl (by kernel_rfl) ⟨rfl, rfl, trivial⟩ (conts_cons rfl (le_vec (by first | rfl | omega | assumption | (rw [show k = rs.length by omega, List.take_length])) (lst_eq (by first | rfl | omega | assumption | (rw [show k = rs.length by omega, List.take_length])))) (conts_cons rfl (le_vec (by first | rfl | omega | assumption | (rw [show k = rs.length by omega, List.take_length])) (lst_eq (by first | rfl | omega | assumption | (rw [show k = rs.length by omega, List.take_length])))) trivial)) (by kernel_rfl)) rfl (by kernel_rfl) (wr_cons rfl (plain_Lst plain_eI) (wr_cons rfl (plain_Lst plain_eI) wr_nil)) (by kernel_rfl)⟩
def flows_nilK1 (n : Net) : Cn := .ro 5 n.pipes.length (Lst eP n.pipes)
set_option maxRecDepth 100000 in
theorem flows_nil (n : Net) (rs : List Rng) (hn : n.pipes.length ≤ 60) (hr : rs.length ≤ maxLen) : CallFr Try.prog 40 [.agg [.i n.pump, .ls 1], .ls 2, .l (.v (.slice none 0 0))] [1, 2] [some (.ro 5 n.pipes.length (Lst eP n.pipes)), some (.ro 2 rs.length (Lst eR rs))] (.i (chkF n.pipes.length rs [])) [] := by
 have hML : maxLen = 9223372036854775807 := rfl
 refine callFr_of (fn := Try.f40) (by kernel_rfl) rfl (by kernel_rfl) (by kernel_rfl) fun E => ?_
 refine aw_ent (T := ⟨79, [1, 2], [(0, .agg [.i n.pump, .ls 1]), (1, .ls 2), (2, .l (.v (.slice none 0 0)))], [(1, some (flows_nilK1 n)), (2, some (.ro 2 rs.length (Lst eR rs)))]⟩) (Ent.refl _) ?_
 refine aw_seq ?_
 refine aw_r [(0, .new 1003)]
  ⟨79, [1, 2], [(1, .ls 2), (2, .l (.v (.slice none 0 0))), (3, .l (.ref 1003 0))], [(1, some (flows_nilK1 n)), (2, some (.ro 2 rs.length (Lst eR rs))), (1003, some (.blk 24 [.i n.pump, .ls 1]))]⟩
  [] (by kernel_rfl) trivial ?_
 refine aw_seq ?_
 refine aw_seq ?_
 refine aw_r []
  ⟨79, [1, 2], [(1, .ls 2), (2, .l (.v (.slice none 0 0))), (3, .l (.ref 1003 0)), (15, .b (decide (((rs.length : Nat) : Int) ≠ ((n.pipes.length : Nat) : Int))))], [(1, some (flows_nilK1 n)), (2, some (.ro 2 rs.length (Lst eR rs))), (1003, some (.blk 24 [.i n.pump, .ls 1]))]⟩
  [] (by kernel_rfl) trivial ?_
 refine aw_cond (b := decide (((rs.length : Nat) : Int) ≠ ((n.pipes.length : Nat) : Int))) rfl (fun h1 => ?_) (fun h1 => ?_)
 ·
  have h1p : ((rs.length : Nat) : Int) ≠ ((n.pipes.length : Nat) : Int) := dtr h1
  refine aw_seq ?_
  refine aw_r []
   ⟨79, [1, 2], [(6, .i 4)], []⟩
   [] (by kernel_rfl) trivial ?_
  exact aw_ret (ret_then ⟨.inr rfl, end_ok ⟨79, [1, 2], [(6, .i (chkF n.pipes.length rs []))], []⟩
      (Ent.ren [] rfl rfl (by kernel_rfl) ⟨(slot_i rfl (by first | rfl | omega | assumption | (exact (chkF_len (by omega)).symm) | (exact (chkF_bad (by omega) (flow_bad (show k < rs.length by omega) (by omega))).symm) | (exact (chkF_nil (by omega) (by rw [← hpre, List.take_of_length_le (by omega)])).symm))), trivial⟩ trivial (by kernel_rfl)) rfl (by kernel_rfl) wr_nil (by kernel_rfl)⟩)
 ·
  have h1p : ((rs.length : Nat) : Int) = ((n.pipes.length : Nat) : Int) := dne h1
  refine aw_skip ?_
  refine aw_seq ?_
  refine aw_seq ?_
  refine aw_r []
   ⟨79, [1, 2], [(1, .ls 2), (2, .l (.v (.slice none 0 0))), (3, .l (.ref 1003 0)), (7, .i 0)], [(1, some (flows_nilK1 n)), (2, some (.ro 2 rs.length (Lst eR rs))), (1003, some (.blk 24 [.i n.pump, .ls 1]))]⟩
   [] (by kernel_rfl) trivial ?_
  refine aw_block ?_
  refine aw_loop (ι := Nat) (fun zz => ⟨79, [1, 2], [(1, .ls 2), (2, .l (.v (.slice none 0 0))), (3, .l (.ref 1003 0)), (7, .i ((zz : Nat) : Int))], [(1, some (flows_nilK1 n)), (2, some (.ro 2 rs.length (Lst eR rs))), (1003, some (.blk 24 [.i n.pump, .ls 1]))]⟩) (fun zz => (zz ≤ rs.length) ∧ (flowsB (rs.take zz) = true)) (fun zz => rs.length - zz) 0 ⟨(by first | omega | rfl | assumption | (simp; done)), (by rfl)⟩
      (Ent.ren [] rfl rfl (by kernel_rfl) ⟨rfl, rfl, rfl, rfl, trivial⟩ (cro rfl (cro rfl (cbl rfl rfl trivial))) (by kernel_rfl)) fun zz hp => ?_
  obtain ⟨k, rfl⟩ : ∃ x, x = zz := ⟨_, rfl⟩
  obtain ⟨hk, hpre⟩ := hp
  show AW _ E _ _ ⟨79, [1, 2], [(1, .ls 2), (2, .l (.v (.slice none 0 0))), (3, .l (.ref 1003 0)), (7, .i ((k : Nat) : Int))], [(1, some (flows_nilK1 n)), (2, some (.ro 2 rs.length (Lst eR rs))), (1003, some (.blk 24 [.i n.pump, .ls 1]))]⟩
  refine aw_seq ?_
  refine aw_seq ?_
  refine aw_r []
   ⟨79, [1, 2], [(1, .ls 2), (2, .l (.v (.slice none 0 0))), (3, .l (.ref 1003 0)), (7, .i ((k : Nat) : Int)), (19, .b (decide (((k : Nat) : Int) < ((rs.length : Nat) : Int))))], [(1, some (flows_nilK1 n)), (2, some (.ro 2 rs.length (Lst eR rs))), (1003, some (.blk 24 [.i n.pump, .ls 1]))]⟩
   [] (by kernel_rfl) trivial ?_
  refine aw_cond (b := decide (((k : Nat) : Int) < ((rs.length : Nat) : Int))) rfl (fun h2 => ?_) (fun h2 => ?_)
  ·
   have h2p : ((k : Nat) : Int) < ((rs.length : Nat) : Int) := dtr h2
   refine aw_skip ?_
   refine aw_seq ?_
   refine aw_block ?_
   refine aw_seq ?_
   rcases Bool.eq_false_or_eq_true (decide ((ix rs k).low < 0)) with h3 | h3
   ·
    have h3p : (ix rs k).low < 0 := dtr h3
    refine aw_d [(2, .idx k), (6, .dec true)]
     ⟨79, [1, 2], [(1, .ls 2), (2, .l (.v (.slice none 0 0))), (3, .l (.ref 1003 0)), (7, .i ((k : Nat) : Int)), (48, .b true)], [(1, some (flows_nilK1 n)), (2, some (.ro 2 rs.length (Lst eR rs))), (1003, some (.blk 24 [.i n.pump, .ls 1]))]⟩
     [((k : Nat) : Int) = ((k : Nat) : Int), k < rs.length, k < rs.length, k < rs.length, decide ((ix rs k).low < 0) = true] (by kernel_rfl) (by kernel_rfl) (al2 (by omega) (al2 (by omega) (al2 (by omega) (al2 (by omega) (al1 h3))))) ?_
    refine aw_true rfl ?_
    refine aw_seq ?_
    refine aw_r []
     ⟨79, [1, 2], [(6, .i 2)], []⟩
     [] (by kernel_rfl) trivial ?_
    exact aw_ret (ret_block (ret_then (ret_then (ret_block (ret_then ⟨.inr rfl, end_ok ⟨79, [1, 2], [(6, .i (chkF n.pipes.length rs []))], []⟩
        (Ent.ren [] rfl rfl (by kernel_rfl) ⟨(slot_i rfl (by first | rfl | omega | assumption | (exact (chkF_len (by omega)).symm) | (exact (chkF_bad (by omega) (flow_bad (show k < rs.length by omega) (by omega))).symm) | (exact (chkF_nil (by omega) (by rw [← hpre, List.take_of_length_le (by omega)])).symm))), trivial⟩ trivial (by kernel_rfl)) rfl (by kernel_rfl) wr_nil (by kernel_rfl)⟩)))))
   ·
    have h3p : 0 ≤ (ix rs k).low := dlt h3
    rcases Bool.eq_false_or_eq_true (decide ((ix rs k).high < (ix rs k).low)) with h4 | h4
    ·
     have h4p : (ix rs k).high < (ix rs k).low := dtr h4
     refine aw_d [(2, .idx k), (6, .dec false), (9, .idx k), (14, .idx k), (19, .dec true)]
      ⟨79, [1, 2], [(1, .ls 2), (2, .l (.v (.slice none 0 0))), (3, .l (.ref 1003 0)), (7, .i ((k : Nat) : Int)), (48, .b true)], [(1, some (flows_nilK1 n)), (2, some (.ro 2 rs.length (Lst eR rs))), (1003, some (.blk 24 [.i n.pump, .ls 1]))]⟩
      [((k : Nat) : Int) = ((k : Nat) : Int), k < rs.length, k < rs.length, k < rs.length, decide ((ix rs k).low < 0) = false, ((k : Nat) : Int) = ((k : Nat) : Int), k < rs.length, k < rs.length, k < rs.length, ((k : Nat) : Int) = ((k : Nat) : Int), k < rs.length, k < rs.length, k < rs.length, decide ((ix rs k).high < (ix rs k).low) = true] (by kernel_rfl) (by kernel_rfl) (al2 (by omega) (al2 (by omega) (al2 (by omega) (al2 (by omega) (al2 h3 (al2 (by omega) (al2 (by omega) (al2 (by omega) (al2 (by omega) (al2 (by omega) (al2 (by omega) (al2 (by omega) (al2 (by omega) (al1 h4)))))))))))))) ?_
     refine aw_true rfl ?_
     refine aw_seq ?_
     refine aw_r []
      ⟨79, [1, 2], [(6, .i 2)], []⟩
      [] (by kernel_rfl) trivial ?_
     exact aw_ret (ret_block (ret_then (ret_then (ret_block (ret_then ⟨.inr rfl, end_ok ⟨79, [1, 2], [(6, .i (chkF n.pipes.length rs []))], []⟩
         (Ent.ren [] rfl rfl (by kernel_rfl) ⟨(slot_i rfl (by first | rfl | omega | assumption | (exact (chkF_len (by omega)).symm) | (exact (chkF_bad (by omega) (flow_bad (show k < rs.length by omega) (by omega))).symm) | (exact (chkF_nil (by omega) (by rw [← hpre, List.take_of_length_le (by omega)])).symm))), trivial⟩ trivial (by kernel_rfl)) rfl (by kernel_rfl) wr_nil (by kernel_rfl)⟩)))))
    ·
     have h4p : (ix rs k).low ≤ (ix rs k).high := dlt h4
     refine aw_d [(2, .idx k), (6, .dec false), (9, .idx k), (14, .idx k), (19, .dec false), (22, .idx k)]
      ⟨79, [1, 2], [(1, .ls 2), (2, .l (.v (.slice none 0 0))), (3, .l (.ref 1003 0)), (7, .i ((k : Nat) : Int)), (48, .b (decide (1000000000 < (ix rs k).high)))], [(1, some (flows_nilK1 n)), (2, some (.ro 2 rs.length (Lst eR rs))), (1003, some (.blk 24 [.i n.pump, .ls 1]))]⟩
      [((k : Nat) : Int) = ((k : Nat) : Int), k < rs.length, k < rs.length, k < rs.length, decide ((ix rs k).low < 0) = false, ((k : Nat) : Int) = ((k : Nat) : Int), k < rs.length, k < rs.length, k < rs.length, ((k : Nat) : Int) = ((k : Nat) : Int), k < rs.length, k < rs.length, k < rs.length, decide ((ix rs k).high < (ix rs k).low) = false, ((k : Nat) : Int) = ((k : Nat) : Int), k < rs.length, k < rs.length, k < rs.length] (by kernel_rfl) (by kernel_rfl) (al2 (by omega) (al2 (by omega) (al2 (by omega) (al2 (by omega) (al2 h3 (al2 (by omega) (al2 (by omega) (al2 (by omega) (al2 (by omega) (al2 (by omega) (al2 (by omega) (al2 (by omega) (al2 (by omega) (al2 h4 (al2 (by omega) (al2 (by omega) (al2 (by omega) (al1 (by omega))))))))))))))))))) ?_
     refine aw_cond (b := decide (1000000000 < (ix rs k).high)) rfl (fun h5 => ?_) (fun h5 => ?_)
     ·
      have h5p : 1000000000 < (ix rs k).high := dtr h5
      refine aw_seq ?_
      refine aw_r []
       ⟨79, [1, 2], [(6, .i 2)], []⟩
       [] (by kernel_rfl) trivial ?_
      exact aw_ret (ret_block (ret_then (ret_then (ret_block (ret_then ⟨.inr rfl, end_ok ⟨79, [1, 2], [(6, .i (chkF n.pipes.length rs []))], []⟩
          (Ent.ren [] rfl rfl (by kernel_rfl) ⟨(slot_i rfl (by first | rfl | omega | assumption | (exact (chkF_len (by omega)).symm) | (exact (chkF_bad (by omega) (flow_bad (show k < rs.length by omega) (by omega))).symm) | (exact (chkF_nil (by omega) (by rw [← hpre, List.take_of_length_le (by omega)])).symm))), trivial⟩ trivial (by kernel_rfl)) rfl (by kernel_rfl) wr_nil (by kernel_rfl)⟩)))))
     ·
      have h5p : (ix rs k).high ≤ 1000000000 := dlt h5
      refine aw_skip ?_
      refine aw_r [(1, .num (((k + 1) : Nat) : Int))]
       ⟨79, [1, 2], [(1, .ls 2), (2, .l (.v (.slice none 0 0))), (3, .l (.ref 1003 0)), (7, .i (((k + 1) : Nat) : Int))], [(1, some (flows_nilK1 n)), (2, some (.ro 2 rs.length (Lst eR rs))), (1003, some (.blk 24 [.i n.pump, .ls 1]))]⟩
       [(((k : Nat) : Int) + 1) = (((k + 1) : Nat) : Int), -9223372036854775808 ≤ (((k + 1) : Nat) : Int) ∧ (((k + 1) : Nat) : Int) < 9223372036854775808] (by kernel_rfl) (al2 (by omega) (al1 (by omega))) ?_
      exact ⟨k + 1, ⟨(by first | omega | rfl | assumption | (simp; done)), (by rw [flowsB_snoc _ _ (by omega), hpre, ← ix_eq (by omega)]; unfold flowB; rw [inB_mk (by omega), inB_mk (by omega), decide_eq_true (by omega)]; rfl)⟩, (show rs.length - (k + 1) < rs.length - k by first | omega | rfl | assumption),
          (Ent.ren [] rfl rfl (by kernel_rfl) ⟨rfl, rfl, rfl, rfl, trivial⟩ (cro rfl (cro rfl (cbl rfl rfl trivial))) (by kernel_rfl))⟩
  ·
   have h2p : ((rs.length : Nat) : Int) ≤ ((k : Nat) : Int) := dlt h2
   refine aw_exit (exit_then (exit_then (exit_in ?_)))
   refine aw_seq ?_
   refine aw_seq ?_
   refine aw_r []
    ⟨79, [1, 2], [(2, .l (.v (.slice none 0 0))), (3, .l (.ref 1003 0)), (8, .i 0)], [(1, some (flows_nilK1 n)), (1003, some (.blk 24 [.i n.pump, .ls 1]))]⟩
    [] (by kernel_rfl) trivial ?_
   refine aw_block ?_
   refine aw_loop (ι := Nat) (fun zz => ⟨79, [1, 2], [(2, .l (.v (.slice none 0 0))), (3, .l (.ref 1003 0)), (8, .i ((zz : Nat) : Int))], [(1, some (flows_nilK1 n)), (1003, some (.blk 24 [.i n.pump, .ls 1]))]⟩) (fun zz => (zz = 0)) (fun zz => 0 - zz) 0 (by first | omega | rfl | assumption | (simp; done))
       (Ent.ren [] rfl rfl (by kernel_rfl) ⟨rfl, rfl, rfl, trivial⟩ (cro rfl (cbl rfl rfl trivial)) (by kernel_rfl)) fun zz hp => ?_
   obtain ⟨k, rfl⟩ : ∃ x, x = zz := ⟨_, rfl⟩
   have hk2 := hp
   show AW _ E _ _ ⟨79, [1, 2], [(2, .l (.v (.slice none 0 0))), (3, .l (.ref 1003 0)), (8, .i ((k : Nat) : Int))], [(1, some (flows_nilK1 n)), (1003, some (.blk 24 [.i n.pump, .ls 1]))]⟩
   refine aw_seq ?_
   refine aw_seq ?_
   refine aw_r []
    ⟨79, [1, 2], [(2, .l (.v (.slice none 0 0))), (3, .l (.ref 1003 0)), (8, .i ((k : Nat) : Int)), (52, .b (decide (((k : Nat) : Int) < 0)))], [(1, some (flows_nilK1 n)), (1003, some (.blk 24 [.i n.pump, .ls 1]))]⟩
    [] (by kernel_rfl) trivial ?_
   refine aw_cond (b := decide (((k : Nat) : Int) < 0)) rfl (fun h6 => ?_) (fun h6 => ?_)
   ·
    have h6p : ((k : Nat) : Int) < 0 := dtr h6
    refine aw_skip ?_
    refine aw_seq ?_
    refine aw_block ?_
    refine aw_seq ?_
    refine aw_seq ?_
    exact absurd (dtr (by assumption)) (by omega)
   ·
    have h6p : 0 ≤ ((k : Nat) : Int) := dlt h6
    refine aw_exit (exit_then (exit_then (exit_in ?_)))
    refine aw_seq ?_
    refine aw_r []
     ⟨79, [1, 2], [(6, .i 0)], []⟩
     [] (by kernel_rfl) trivial ?_
    exact aw_ret ⟨.inr rfl, end_ok ⟨79, [1, 2], [(6, .i (chkF n.pipes.length rs []))], []⟩
        (Ent.ren [] rfl rfl (by kernel_rfl) ⟨(slot_i rfl (by first | rfl | omega | assumption | (exact (chkF_len (by omega)).symm) | (exact (chkF_bad (by omega) (flow_bad (show k < rs.length by omega) (by omega))).symm) | (exact (chkF_nil (by omega) (by rw [← hpre, List.take_of_length_le (by omega)])).symm))), trivial⟩ trivial (by kernel_rfl)) rfl (by kernel_rfl) wr_nil (by kernel_rfl)⟩
def loads_nilK1 (n : Net) : Cn := .ro 5 n.pipes.length (Lst eP n.pipes)
def loads_nilK2 (rs : List Rng) : Cn := .vec 3 1 rs.length (Lst eI (rs.map Rng.low))
def loads_nilK3 (rs : List Rng) : Cn := .vec 3 1 rs.length (Lst eI (rs.map Rng.high))
def loads_nilK4 (k : Nat) (n : Net) (rs : List Rng) : Cn := .vec 52 2 k (Lst eR (pairT (ldV n.pipes (lowF rs) []) (ldV n.pipes (highF rs) []) k))
def loads_nilK5 (k : Nat) (n : Net) (rs : List Rng) : Cn := .vec 52 2 (k + 1) (Lst eR ((pairT (ldV n.pipes (lowF rs) []) (ldV n.pipes (highF rs) []) k) ++ [(⟨(ldV n.pipes (lowF rs) [] k), (ldV n.pipes (highF rs) [] k)⟩ : Rng)]))
def loads_nilK6 (n : Net) (rs : List Rng) : Cn := .vec 52 2 n.pipes.length (Lst eR (pairT (ldV n.pipes (lowF rs) []) (ldV n.pipes (highF rs) []) n.pipes.length))
set_option maxRecDepth 100000 in
theorem loads_nil (n : Net) (rs : List Rng) (hE : flowE n rs [] = 0) : CallFr Try.prog 41 [.agg [.i n.pump, .ls 1], .ls 2, .l (.v (.slice none 0 0))] [1, 2] [some (.ro 5 n.pipes.length (Lst eP n.pipes)), some (.ro 2 rs.length (Lst eR rs))] (.ls 4) [(4, some (.vec 52 2 n.pipes.length (Lst eR (pairT (ldV n.pipes (lowF rs) []) (ldV n.pipes (highF rs) []) n.pipes.length))))] := by
 obtain ⟨hok, hck⟩ := flowE_zero hE
 obtain ⟨hrl, hfb⟩ := chkF_zero hck
 have hnl := netB_len hok
 refine callFr_of (fn := Try.f41) (by kernel_rfl) rfl (by kernel_rfl) (by kernel_rfl) fun E => ?_
 refine aw_ent (T := ⟨39, [1, 2], [(0, .agg [.i n.pump, .ls 1]), (1, .ls 2), (2, .l (.v (.slice none 0 0)))], [(1, some (loads_nilK1 n)), (2, some (.ro 2 rs.length (Lst eR rs)))]⟩) (Ent.refl _) ?_
 refine aw_seq ?_
 refine aw_r [(0, .new 1003)]
  ⟨39, [1, 2], [(1, .ls 2), (2, .l (.v (.slice none 0 0))), (3, .l (.ref 1003 0))], [(1, some (loads_nilK1 n)), (2, some (.ro 2 rs.length (Lst eR rs))), (1003, some (.blk 24 [.i n.pump, .ls 1]))]⟩
  [] (by kernel_rfl) trivial ?_
 refine aw_seq ?_
 refine aw_r [(1, .call [2] (.tup [.one (.ls 10130), .one (.ls 10131)]) [(10130, some (loads_nilK2 rs)), (10131, some (loads_nilK3 rs))])]
  ⟨39, [1, 2], [(2, .l (.v (.slice none 0 0))), (3, .l (.ref 1003 0)), (7, .ls 10130), (8, .ls 10131)], [(1, some (loads_nilK1 n)), (1003, some (.blk 24 [.i n.pump, .ls 1])), (10130, some (loads_nilK2 rs)), (10131, some (loads_nilK3 rs))]⟩
  [CallOK Try.prog 78 [.ls 2] [2] [some (.ro 2 rs.length (Lst eR rs))] (.tup [.one (.ls 10130), .one (.ls 10131)]) [(10130, some (loads_nilK2 rs)), (10131, some (loads_nilK3 rs))]] (by kernel_rfl) (al1 (CallFr.to (ends_fr rs (by omega)) [(1, 2), (2, 10130), (3, 10131)] (by kernel_rfl) (by kernel_rfl) (by kernel_rfl) (by kernel_rfl) (by kernel_rfl) (dem_cons rfl (le_ro rfl el_rfl) dem_nil))) ?_
 refine aw_seq ?_
 refine aw_r [(0, .new 1016)]
  ⟨39, [1, 2], [(2, .l (.v (.slice none 0 0))), (3, .l (.ref 1003 0)), (7, .ls 10130), (8, .ls 10131), (9, .ls 1016)], [(1, some (loads_nilK1 n)), (1003, some (.blk 24 [.i n.pump, .ls 1])), (1016, some (.vec 52 2 0 (exEl 2 []))), (10130, some (loads_nilK2 rs)), (10131, some (loads_nilK3 rs))]⟩
  [] (by kernel_rfl) trivial ?_
 refine aw_seq ?_
 refine aw_seq ?_
 refine aw_r []
  ⟨39, [1, 2], [(2, .l (.v (.slice none 0 0))), (3, .l (.ref 1003 0)), (7, .ls 10130), (8, .ls 10131), (9, .ls 1016), (10, .i 0)], [(1, some (loads_nilK1 n)), (1003, some (.blk 24 [.i n.pump, .ls 1])), (1016, some (.vec 52 2 0 (exEl 2 []))), (10130, some (loads_nilK2 rs)), (10131, some (loads_nilK3 rs))]⟩
  [] (by kernel_rfl) trivial ?_
 refine aw_block ?_
 refine aw_loop (ι := Nat) (fun zz => ⟨39, [1, 2], [(2, .l (.v (.slice none 0 0))), (3, .l (.ref 1003 0)), (7, .ls 10130), (8, .ls 10131), (9, .ls 9001), (10, .i ((zz : Nat) : Int))], [(1, some (loads_nilK1 n)), (1003, some (.blk 24 [.i n.pump, .ls 1])), (9001, some (loads_nilK4 zz n rs)), (10130, some (loads_nilK2 rs)), (10131, some (loads_nilK3 rs))]⟩) (fun zz => (zz ≤ n.pipes.length)) (fun zz => n.pipes.length - zz) 0 (by first | omega | rfl | assumption | (simp; done))
     (Ent.ren [(9001, 1016)] rfl rfl (by kernel_rfl) ⟨rfl, rfl, rfl, rfl, rfl, rfl, trivial⟩ (cro rfl (cbl rfl rfl (conts_cons rfl (le_vec rfl (fun i hi => absurd hi (by omega))) (cve rfl (cve rfl trivial))))) (by kernel_rfl)) fun zz hp => ?_
 obtain ⟨k, rfl⟩ : ∃ x, x = zz := ⟨_, rfl⟩
 have hk := hp
 show AW _ E _ _ ⟨39, [1, 2], [(2, .l (.v (.slice none 0 0))), (3, .l (.ref 1003 0)), (7, .ls 10130), (8, .ls 10131), (9, .ls 9001), (10, .i ((k : Nat) : Int))], [(1, some (loads_nilK1 n)), (1003, some (.blk 24 [.i n.pump, .ls 1])), (9001, some (loads_nilK4 k n rs)), (10130, some (loads_nilK2 rs)), (10131, some (loads_nilK3 rs))]⟩
 refine aw_seq ?_
 refine aw_seq ?_
 refine aw_r []
  ⟨39, [1, 2], [(2, .l (.v (.slice none 0 0))), (3, .l (.ref 1003 0)), (7, .ls 10130), (8, .ls 10131), (9, .ls 9001), (10, .i ((k : Nat) : Int)), (21, .b (decide (((k : Nat) : Int) < ((n.pipes.length : Nat) : Int))))], [(1, some (loads_nilK1 n)), (1003, some (.blk 24 [.i n.pump, .ls 1])), (9001, some (loads_nilK4 k n rs)), (10130, some (loads_nilK2 rs)), (10131, some (loads_nilK3 rs))]⟩
  [] (by kernel_rfl) trivial ?_
 refine aw_cond (b := decide (((k : Nat) : Int) < ((n.pipes.length : Nat) : Int))) rfl (fun h1 => ?_) (fun h1 => ?_)
 ·
  have h1p : ((k : Nat) : Int) < ((n.pipes.length : Nat) : Int) := dtr h1
  refine aw_skip ?_
  refine aw_seq ?_
  refine aw_block ?_
  refine aw_d [(5, .call [1, 10130] (.i (ldV n.pipes (lowF rs) [] k)) []), (10, .call [1, 10131] (.i (ldV n.pipes (highF rs) [] k)) []), (12, .new 1036), (13, .lst 1037 (k + 1) (Lst eR ((pairT (ldV n.pipes (lowF rs) []) (ldV n.pipes (highF rs) []) k) ++ [(⟨(ldV n.pipes (lowF rs) [] k), (ldV n.pipes (highF rs) [] k)⟩ : Rng)])))]
   ⟨39, [1, 2], [(2, .l (.v (.slice none 0 0))), (3, .l (.ref 1003 0)), (7, .ls 10130), (8, .ls 10131), (9, .ls 1037), (10, .i ((k : Nat) : Int))], [(1, some (loads_nilK1 n)), (1003, some (.blk 24 [.i n.pump, .ls 1])), (1037, some (loads_nilK5 k n rs)), (10130, some (loads_nilK2 rs)), (10131, some (loads_nilK3 rs))]⟩
   [CallOK Try.prog 79 [.agg [.i n.pump, .ls 1], .ls 10130, .l (.v (.slice none 0 0)), .i ((k : Nat) : Int)] [1, 10130] [some (loads_nilK1 n), some (loads_nilK2 rs)] (.i (ldV n.pipes (lowF rs) [] k)) [], CallOK Try.prog 79 [.agg [.i n.pump, .ls 1], .ls 10131, .l (.v (.slice none 0 0)), .i ((k : Nat) : Int)] [1, 10131] [some (loads_nilK1 n), some (loads_nilK3 rs)] (.i (ldV n.pipes (highF rs) [] k)) [], k + 1 ≤ 1000000000000, (k + 1) * 16 ≤ 140737488355328, AppOk 2 k 1 (Lst eR (pairT (ldV n.pipes (lowF rs) []) (ldV n.pipes (highF rs) []) k)) (exEl 2 [.i (ldV n.pipes (lowF rs) [] k), .i (ldV n.pipes (highF rs) [] k)]) (k + 1) (Lst eR ((pairT (ldV n.pipes (lowF rs) []) (ldV n.pipes (highF rs) []) k) ++ [(⟨(ldV n.pipes (lowF rs) [] k), (ldV n.pipes (highF rs) [] k)⟩ : Rng)]))] (by kernel_rfl) (by kernel_rfl) (al2 (CallFr.to (refLoad_low n rs hE k (by omega)) [(1, 1), (2, 10130)] (by kernel_rfl) (by kernel_rfl) (by kernel_rfl) (by kernel_rfl) (by kernel_rfl) (dem_cons rfl (le_ro rfl el_rfl) (dem_cons rfl (le_vec_ro rfl el_rfl) dem_nil))) (al2 (CallFr.to (refLoad_high n rs hE k (by omega)) [(1, 1), (2, 10131)] (by kernel_rfl) (by kernel_rfl) (by kernel_rfl) (by kernel_rfl) (by kernel_rfl) (dem_cons rfl (le_ro rfl el_rfl) (dem_cons rfl (le_vec_ro rfl el_rfl) dem_nil))) (al2 (by omega) (al2 (by omega) (al1 (app_one (by first | rfl | omega | (rw [pairT_len] <;> omega) | (rw [List.length_map] <;> omega)) (by first | rfl | omega | (rw [pairT_len] <;> omega) | (rw [List.length_map] <;> omega)) (fun | 0, _ => rfl | 1, _ => rfl | (n + 2), h => absurd h (by omega)))))))) ?_
  refine aw_r [(1, .num (((k + 1) : Nat) : Int))]
   ⟨39, [1, 2], [(2, .l (.v (.slice none 0 0))), (3, .l (.ref 1003 0)), (7, .ls 10130), (8, .ls 10131), (9, .ls 1037), (10, .i (((k + 1) : Nat) : Int))], [(1, some (loads_nilK1 n)), (1003, some (.blk 24 [.i n.pump, .ls 1])), (1037, some (loads_nilK5 k n rs)), (10130, some (loads_nilK2 rs)), (10131, some (loads_nilK3 rs))]⟩
   [(((k : Nat) : Int) + 1) = (((k + 1) : Nat) : Int), -9223372036854775808 ≤ (((k + 1) : Nat) : Int) ∧ (((k + 1) : Nat) : Int) < 9223372036854775808] (by kernel_rfl) (al2 (by omega) (al1 (by omega))) ?_
  exact ⟨k + 1, (by first | omega | rfl | assumption | (simp; done)), (show n.pipes.length - (k + 1) < n.pipes.length - k by first | omega | rfl | assumption),
      (Ent.ren [(9001, 1037)] rfl rfl (by kernel_rfl) ⟨rfl, rfl, rfl, rfl, rfl, rfl, trivial⟩ (cro rfl (cbl rfl rfl (conts_cons rfl (le_vec rfl (lst_eq (by first | rfl | omega | assumption | (rw [pairT_succ]; done)))) (cve rfl (cve rfl trivial))))) (by kernel_rfl))⟩
 ·
  have h1p : ((n.pipes.length : Nat) : Int) ≤ ((k : Nat) : Int) := dlt h1
  refine aw_exit (exit_then (exit_then (exit_in ?_)))
  refine aw_seq ?_
  refine aw_r []
   ⟨39, [1, 2], [(6, .ls 9001)], [(9001, some (loads_nilK4 k n rs))]⟩
   [] (by kernel_rfl) trivial ?_
  exact aw_ret ⟨.inr rfl, end_ok ⟨39, [1, 2], [(6, .ls 4)], [(4, some (loads_nilK6 n rs))]⟩
      (Ent.ren [(4, 9001)] rfl rfl (by kernel_rfl) ⟨rfl, trivial⟩ (conts_cons rfl (le_vec (by first | rfl | omega | assumption | (rw [show k = n.pipes.length by omega])) (lst_eq (by first | rfl | omega | assumption | (rw [show k = n.pipes.length by omega])))) trivial) (by kernel_rfl)) rfl (by kernel_rfl) (wr_cons rfl (plain_Lst plain_eR) wr_nil) (by kernel_rfl)⟩
def refPlan_frK1 (n : Net) : Cn := .ro 5 n.pipes.length (Lst eP n.pipes)
def refPlan_frK2 (flows : List Rng) : Cn := .ro 2 flows.length (Lst eR flows)
def refPlan_frK3 (bores : List Bor) : Cn := .ro 2 bores.length (Lst eO bores)
def refPlan_frK4 (n : Net) (flows : List Rng) (bores : List Bor) (need : Int) : Cn := .vec 3 1 ((planA n flows bores need).1.length) (Lst eI ((planA n flows bores need).1))
def refPlan_frK5 (n : Net) (flows : List Rng) (bores : List Bor) (need : Int) : Cn := .mp (CostM n.pipes (loadT n flows) bores need)
def refPlan_frK6 (n : Net) (need : Int) : Cn := .blk 126 [.i n.pump, .ls 1, .v (.slice none 0 0), .ls 3, .i need, .ls 1041]
def refPlan_frK7 (n : Net) (flows : List Rng) : Cn := .vec 52 2 n.pipes.length (Lst eR (pairT (ldV n.pipes (lowF flows) []) (ldV n.pipes (highF flows) []) n.pipes.length))
def refPlan_frK8 (n : Net) (need : Int) : Cn := .blk 126 [.i n.pump, .ls 1, .ls 9501, .ls 3, .i need, .ls 1041]
def refPlan_frK9 (i : Nat) (n : Net) (flows : List Rng) : Cn := .vec 3 1 i (Lst eI ((loadT n flows).take i))
def refPlan_frK10 (n : Net) (need : Int) : Cn := .blk 126 [.i n.pump, .ls 1, .ls 1064, .ls 3, .i need, .ls 1041]
def refPlan_frK11 (i : Nat) (n : Net) (flows : List Rng) : Cn := .vec 3 1 (i + 1) (Lst eI (((loadT n flows).take i) ++ [(ix (pairT (ldV n.pipes (lowF flows) []) (ldV n.pipes (highF flows) []) n.pipes.length) i).high]))
def refPlan_frK12 (n : Net) (flows : List Rng) : Cn := .vec 3 1 ((loadT n flows).length) (Lst eI (loadT n flows))
def refPlan_frK13 (n : Net) : Cn := .vec 3 1 n.pipes.length (Lst eI (List.replicate n.pipes.length 0))
def refPlan_frK14 (n : Net) : Cn := .vec 3 1 n.pipes.length (Lst eI ((List.replicate n.pipes.length 0).set 0 n.pump))
def refPlan_frK15 (n : Net) (flows : List Rng) (bores : List Bor) (need : Int) : Cn := .vec 3 1 n.pipes.length (Lst eI (row n.pipes.length 0 (plTo n.pipes (loadT n flows) bores need n.pump 0).1))
def refPlan_frK16 (n : Net) (flows : List Rng) (bores : List Bor) (need : Int) (k : Nat) : Cn := .vec 3 1 n.pipes.length (Lst eI (row n.pipes.length 0 (plTo n.pipes (loadT n flows) bores need n.pump k).1))
def refPlan_frK17 (k : Nat) (n : Net) (flows : List Rng) (bores : List Bor) (need : Int) : Cn := .vec 3 1 k (Lst eI ((plTo n.pipes (loadT n flows) bores need n.pump k).2))
def refPlan_frK18 (n : Net) (flows : List Rng) (bores : List Bor) (need : Int) (k : Nat) (q : Nat) : Cn := .vec 3 1 n.pipes.length (Lst eI ((row n.pipes.length 0 (plTo n.pipes (loadT n flows) bores need n.pump k).1).set (k + 1) (leftZ (ix n.pipes (k + 1)) (ix bores q) need (plV n.pipes (loadT n flows) bores need n.pump (par n.pipes ((k + 1 : Nat) : Int)).toNat) (ix (loadT n flows) (k + 1)))))
def refPlan_frK19 (k : Nat) (n : Net) (flows : List Rng) (bores : List Bor) (need : Int) (q : Nat) : Cn := .vec 3 1 (k + 1) (Lst eI (((plTo n.pipes (loadT n flows) bores need n.pump k).2) ++ [((q : Nat) : Int)]))
set_option maxHeartbeats 4000000 in
set_option maxRecDepth 100000 in
theorem refPlan_fr (n : Net) (flows : List Rng) (bores : List Bor) (need : Int) (hn : n.pipes.length ≤ maxLen) (hf : flows.length ≤ maxLen) (hb : bores.length ≤ maxLen) : CallFr Try.prog 19 [.agg [.i n.pump, .ls 1], .ls 2, .ls 3, .i need] [1, 2, 3] [some (.ro 5 n.pipes.length (Lst eP n.pipes)), some (.ro 2 flows.length (Lst eR flows)), some (.ro 2 bores.length (Lst eO bores))] (.tup [.one (.ls 9), .one (.i ((planA n flows bores need).2.1)), .one (.i ((planA n flows bores need).2.2))]) [(9, some (.vec 3 1 ((planA n flows bores need).1.length) (Lst eI ((planA n flows bores need).1))))] := by
 have hML : maxLen = 9223372036854775807 := rfl
 refine callFr_of (fn := Try.f19) (by kernel_rfl) rfl (by kernel_rfl) (by kernel_rfl) fun E => ?_
 refine aw_ent (T := ⟨151, [1, 2, 3], [(0, .agg [.i n.pump, .ls 1]), (1, .ls 2), (2, .ls 3), (3, .i need)], [(1, some (refPlan_frK1 n)), (2, some (refPlan_frK2 flows)), (3, some (refPlan_frK3 bores))]⟩) (Ent.refl _) ?_
 refine aw_seq ?_
 refine aw_r [(0, .new 1004)]
  ⟨151, [1, 2, 3], [(1, .ls 2), (2, .ls 3), (3, .i need), (4, .l (.ref 1004 0))], [(1, some (refPlan_frK1 n)), (2, some (refPlan_frK2 flows)), (3, some (refPlan_frK3 bores)), (1004, some (.blk 24 [.i n.pump, .ls 1]))]⟩
  [] (by kernel_rfl) trivial ?_
 refine aw_seq ?_
 refine aw_seq ?_
 refine aw_r [(1, .call [1] (.b (netB n)) [])]
  ⟨151, [1, 2, 3], [(1, .ls 2), (2, .ls 3), (3, .i need), (4, .l (.ref 1004 0)), (25, .b (!(netB n)))], [(1, some (refPlan_frK1 n)), (2, some (refPlan_frK2 flows)), (3, some (refPlan_frK3 bores)), (1004, some (.blk 24 [.i n.pump, .ls 1]))]⟩
  [CallOK Try.prog 32 [.agg [.i n.pump, .ls 1]] [1] [some (refPlan_frK1 n)] (.b (netB n)) []] (by kernel_rfl) (al1 (CallFr.to (refNet_fr n (by omega)) [(1, 1)] (by kernel_rfl) (by kernel_rfl) (by kernel_rfl) (by kernel_rfl) (by kernel_rfl) (dem_cons rfl (le_ro rfl el_rfl) dem_nil))) ?_
 refine aw_cond (b := (!(netB n))) rfl (fun h1 => ?_) (fun h1 => ?_)
 ·
  have hbad : netB n = false := by simpa using h1
  have hpa := planA_net (flows := flows) (bores := bores) (need := need) hbad
  refine aw_seq ?_
  refine aw_r []
   ⟨151, [1, 2, 3], [(8, .l (.v (.slice none 0 0))), (9, .i 0), (10, .i 2)], []⟩
   [] (by kernel_rfl) trivial ?_
  exact aw_ret (ret_then ⟨.inr rfl, end_ok ⟨151, [1, 2, 3], [(8, .ls 9), (9, .i ((planA n flows bores need).2.1)), (10, .i ((planA n flows bores need).2.2))], [(9, some (refPlan_frK4 n flows bores need))]⟩
      (Ent.trans (Ent.nilSlot 8 70001 3 1 (Lst eI ((planA n flows bores need).1)) rfl (by omega) (by kernel_rfl)) (Ent.ren [(9, 70001)] rfl rfl (by kernel_rfl) ⟨rfl, (slot_i rfl (by first | rfl | omega | assumption | (rw [hpa]; done) | (rw [hpa]; rfl) | (rw [hpa]; exact (plTo_len _ _ _ _ _ (by omega)).2.symm))), (slot_i rfl (by first | rfl | omega | assumption | (rw [hpa]; done) | (rw [hpa]; rfl) | (rw [hpa]; exact (plTo_len _ _ _ _ _ (by omega)).2.symm))), trivial⟩ (conts_cons rfl (le_vec (by first | rfl | omega | assumption | (rw [hpa]; done) | (rw [hpa]; rfl) | (rw [hpa]; exact (plTo_len _ _ _ _ _ (by omega)).2.symm)) el_rfl) trivial) (by kernel_rfl))) rfl (by kernel_rfl) (wr_cons rfl (plain_Lst plain_eI) wr_nil) (by kernel_rfl)⟩)
 ·
  have hok : netB n = true := by simpa using h1
  have hnl := netB_len hok
  refine aw_skip ?_
  refine aw_seq ?_
  refine aw_seq ?_
  refine aw_r [(2, .call [1, 2] (.i (chkF n.pipes.length flows [])) [])]
   ⟨151, [1, 2, 3], [(1, .ls 2), (2, .ls 3), (3, .i need), (4, .l (.ref 1004 0)), (11, .i (chkF n.pipes.length flows []))], [(1, some (refPlan_frK1 n)), (2, some (refPlan_frK2 flows)), (3, some (refPlan_frK3 bores)), (1004, some (.blk 24 [.i n.pump, .ls 1]))]⟩
   [CallOK Try.prog 40 [.agg [.i n.pump, .ls 1], .ls 2, .l (.v (.slice none 0 0))] [1, 2] [some (refPlan_frK1 n), some (refPlan_frK2 flows)] (.i (chkF n.pipes.length flows [])) []] (by kernel_rfl) (al1 (CallFr.to (flows_nil n flows (by omega) (by omega)) [(1, 1), (2, 2)] (by kernel_rfl) (by kernel_rfl) (by kernel_rfl) (by kernel_rfl) (by kernel_rfl) (dem_cons rfl (le_ro rfl el_rfl) (dem_cons rfl (le_ro rfl el_rfl) dem_nil)))) ?_
  refine aw_seq ?_
  refine aw_r []
   ⟨151, [1, 2, 3], [(1, .ls 2), (2, .ls 3), (3, .i need), (4, .l (.ref 1004 0)), (11, .i (chkF n.pipes.length flows [])), (30, .b (decide ((chkF n.pipes.length flows []) ≠ 0)))], [(1, some (refPlan_frK1 n)), (2, some (refPlan_frK2 flows)), (3, some (refPlan_frK3 bores)), (1004, some (.blk 24 [.i n.pump, .ls 1]))]⟩
   [] (by kernel_rfl) trivial ?_
  refine aw_cond (b := decide ((chkF n.pipes.length flows []) ≠ 0)) rfl (fun h2 => ?_) (fun h2 => ?_)
  ·
   have h2p : (chkF n.pipes.length flows []) ≠ 0 := dtr h2
   have hpa := planA_chk (bores := bores) (need := need) hok (dtr h2)
   refine aw_seq ?_
   refine aw_r []
    ⟨151, [1, 2, 3], [(8, .l (.v (.slice none 0 0))), (9, .i 0), (10, .i (chkF n.pipes.length flows []))], []⟩
    [] (by kernel_rfl) trivial ?_
   exact aw_ret (ret_then ⟨.inr rfl, end_ok ⟨151, [1, 2, 3], [(8, .ls 9), (9, .i ((planA n flows bores need).2.1)), (10, .i ((planA n flows bores need).2.2))], [(9, some (refPlan_frK4 n flows bores need))]⟩
       (Ent.trans (Ent.nilSlot 8 70002 3 1 (Lst eI ((planA n flows bores need).1)) rfl (by omega) (by kernel_rfl)) (Ent.ren [(9, 70002)] rfl rfl (by kernel_rfl) ⟨rfl, (slot_i rfl (by first | rfl | omega | assumption | (rw [hpa]; done) | (rw [hpa]; rfl) | (rw [hpa]; exact (plTo_len _ _ _ _ _ (by omega)).2.symm))), (slot_i rfl (by first | rfl | omega | assumption | (rw [hpa]; done) | (rw [hpa]; rfl) | (rw [hpa]; exact (plTo_len _ _ _ _ _ (by omega)).2.symm))), trivial⟩ (conts_cons rfl (le_vec (by first | rfl | omega | assumption | (rw [hpa]; done) | (rw [hpa]; rfl) | (rw [hpa]; exact (plTo_len _ _ _ _ _ (by omega)).2.symm)) el_rfl) trivial) (by kernel_rfl))) rfl (by kernel_rfl) (wr_cons rfl (plain_Lst plain_eI) wr_nil) (by kernel_rfl)⟩)
  ·
   have h2p : (chkF n.pipes.length flows []) = 0 := dne h2
   have hE : flowE n flows [] = 0 := flowE_ok hok (dne h2)
   refine aw_skip ?_
   refine aw_seq ?_
   refine aw_seq ?_
   refine aw_r [(2, .call [3] (.i (chV bores need)) [])]
    ⟨151, [1, 2, 3], [(1, .ls 2), (2, .ls 3), (3, .i need), (4, .l (.ref 1004 0)), (12, .i (chV bores need))], [(1, some (refPlan_frK1 n)), (2, some (refPlan_frK2 flows)), (3, some (refPlan_frK3 bores)), (1004, some (.blk 24 [.i n.pump, .ls 1]))]⟩
    [CallOK Try.prog 64 [.ls 3, .i need] [3] [some (refPlan_frK3 bores)] (.i (chV bores need)) []] (by kernel_rfl) (al1 (CallFr.to (refChoices_fr bores need (by omega)) [(1, 3)] (by kernel_rfl) (by kernel_rfl) (by kernel_rfl) (by kernel_rfl) (by kernel_rfl) (dem_cons rfl (le_ro rfl el_rfl) dem_nil))) ?_
   refine aw_seq ?_
   refine aw_r []
    ⟨151, [1, 2, 3], [(1, .ls 2), (2, .ls 3), (3, .i need), (4, .l (.ref 1004 0)), (12, .i (chV bores need)), (36, .b (decide ((chV bores need) ≠ 0)))], [(1, some (refPlan_frK1 n)), (2, some (refPlan_frK2 flows)), (3, some (refPlan_frK3 bores)), (1004, some (.blk 24 [.i n.pump, .ls 1]))]⟩
    [] (by kernel_rfl) trivial ?_
   refine aw_cond (b := decide ((chV bores need) ≠ 0)) rfl (fun h3 => ?_) (fun h3 => ?_)
   ·
    have h3p : (chV bores need) ≠ 0 := dtr h3
    have hpa := planA_ch hE (dtr h3)
    refine aw_seq ?_
    refine aw_r []
     ⟨151, [1, 2, 3], [(8, .l (.v (.slice none 0 0))), (9, .i 0), (10, .i (chV bores need))], []⟩
     [] (by kernel_rfl) trivial ?_
    exact aw_ret (ret_then ⟨.inr rfl, end_ok ⟨151, [1, 2, 3], [(8, .ls 9), (9, .i ((planA n flows bores need).2.1)), (10, .i ((planA n flows bores need).2.2))], [(9, some (refPlan_frK4 n flows bores need))]⟩
        (Ent.trans (Ent.nilSlot 8 70003 3 1 (Lst eI ((planA n flows bores need).1)) rfl (by omega) (by kernel_rfl)) (Ent.ren [(9, 70003)] rfl rfl (by kernel_rfl) ⟨rfl, (slot_i rfl (by first | rfl | omega | assumption | (rw [hpa]; done) | (rw [hpa]; rfl) | (rw [hpa]; exact (plTo_len _ _ _ _ _ (by omega)).2.symm))), (slot_i rfl (by first | rfl | omega | assumption | (rw [hpa]; done) | (rw [hpa]; rfl) | (rw [hpa]; exact (plTo_len _ _ _ _ _ (by omega)).2.symm))), trivial⟩ (conts_cons rfl (le_vec (by first | rfl | omega | assumption | (rw [hpa]; done) | (rw [hpa]; rfl) | (rw [hpa]; exact (plTo_len _ _ _ _ _ (by omega)).2.symm)) el_rfl) trivial) (by kernel_rfl))) rfl (by kernel_rfl) (wr_cons rfl (plain_Lst plain_eI) wr_nil) (by kernel_rfl)⟩)
   ·
    have h3p : (chV bores need) = 0 := dne h3
    have hC : chV bores need = 0 := dne h3
    have hpa := planA_ok hE hC
    obtain ⟨H, hp0, hp1⟩ := plan_ok hE hC
    have hll := H.ll
    have hbn := H.bn
    have hnd := H.need
    have ht := H.t
    refine aw_skip ?_
    refine aw_seq ?_
    refine aw_r [(3, .act [] (.ls 1041) [(1041, some (refPlan_frK5 n flows bores need))]), (5, .new 1043)]
     ⟨151, [1, 2, 3], [(1, .ls 2), (2, .ls 3), (3, .i need), (4, .l (.ref 1004 0)), (13, .l (.ref 1043 0))], [(1, some (refPlan_frK1 n)), (2, some (refPlan_frK2 flows)), (3, some (refPlan_frK3 bores)), (1004, some (.blk 24 [.i n.pump, .ls 1])), (1041, some (refPlan_frK5 n flows bores need)), (1043, some (refPlan_frK6 n need))]⟩
     [ActOK Try.prog (.makeMap 124 none) 124 [] [] [] (.ls 1041) [(1041, some (refPlan_frK5 n flows bores need))]] (by kernel_rfl) (al1 act_makeG) ?_
    refine aw_seq ?_
    refine aw_r [(2, .call [1, 2] (.ls 10460) [(10460, some (refPlan_frK7 n flows))])]
     ⟨151, [1, 2, 3], [(2, .ls 3), (3, .i need), (4, .l (.ref 1004 0)), (13, .l (.ref 1043 0)), (14, .ls 10460)], [(1, some (refPlan_frK1 n)), (3, some (refPlan_frK3 bores)), (1004, some (.blk 24 [.i n.pump, .ls 1])), (1041, some (refPlan_frK5 n flows bores need)), (1043, some (refPlan_frK6 n need)), (10460, some (refPlan_frK7 n flows))]⟩
     [CallOK Try.prog 41 [.agg [.i n.pump, .ls 1], .ls 2, .l (.v (.slice none 0 0))] [1, 2] [some (refPlan_frK1 n), some (refPlan_frK2 flows)] (.ls 10460) [(10460, some (refPlan_frK7 n flows))]] (by kernel_rfl) (al1 (CallFr.to (loads_nil n flows hE) [(1, 1), (2, 2), (4, 10460)] (by kernel_rfl) (by kernel_rfl) (by kernel_rfl) (by kernel_rfl) (by kernel_rfl) (dem_cons rfl (le_ro rfl el_rfl) (dem_cons rfl (le_ro rfl el_rfl) dem_nil)))) ?_
    refine aw_seq ?_
    refine aw_seq ?_
    refine aw_r []
     ⟨151, [1, 2, 3], [(2, .ls 3), (3, .i need), (4, .l (.ref 1004 0)), (13, .l (.ref 1043 0)), (14, .ls 10460), (15, .i 0)], [(1, some (refPlan_frK1 n)), (3, some (refPlan_frK3 bores)), (1004, some (.blk 24 [.i n.pump, .ls 1])), (1041, some (refPlan_frK5 n flows bores need)), (1043, some (refPlan_frK6 n need)), (10460, some (refPlan_frK7 n flows))]⟩
     [] (by kernel_rfl) trivial ?_
    refine aw_block ?_
    refine aw_loop (ι := Nat) (fun zz => ⟨151, [1, 2, 3], [(2, .ls 3), (3, .i need), (4, .l (.ref 1004 0)), (13, .l (.ref 1043 0)), (14, .ls 10460), (15, .i ((zz : Nat) : Int))], [(1, some (refPlan_frK1 n)), (3, some (refPlan_frK3 bores)), (1004, some (.blk 24 [.i n.pump, .ls 1])), (1041, some (refPlan_frK5 n flows bores need)), (1043, some (refPlan_frK8 n need)), (9501, some (refPlan_frK9 zz n flows)), (10460, some (refPlan_frK7 n flows))]⟩) (fun zz => (zz ≤ n.pipes.length)) (fun zz => n.pipes.length - zz) 0 (by first | omega | rfl | assumption | (simp; done))
        (Ent.trans (Ent.nilCell 1043 70004 3 1 126 [.i n.pump, .ls 1, .v (.slice none 0 0), .ls 3, .i need, .ls 1041] 2 (Lst eI ((loadT n flows).take 0)) rfl rfl (by omega) (by kernel_rfl) (by kernel_rfl)) (Ent.ren [(9501, 70004)] rfl rfl (by kernel_rfl) ⟨rfl, rfl, rfl, rfl, rfl, rfl, trivial⟩ (cro rfl (cro rfl (cbl rfl rfl (cmp_ rfl (fun _ h => h) (cbl rfl rfl (cve rfl (cve rfl trivial))))))) (by kernel_rfl))) fun zz hp => ?_
    obtain ⟨i, rfl⟩ : ∃ x, x = zz := ⟨_, rfl⟩
    have hi := hp
    show AW _ E _ _ ⟨151, [1, 2, 3], [(2, .ls 3), (3, .i need), (4, .l (.ref 1004 0)), (13, .l (.ref 1043 0)), (14, .ls 10460), (15, .i ((i : Nat) : Int))], [(1, some (refPlan_frK1 n)), (3, some (refPlan_frK3 bores)), (1004, some (.blk 24 [.i n.pump, .ls 1])), (1041, some (refPlan_frK5 n flows bores need)), (1043, some (refPlan_frK8 n need)), (9501, some (refPlan_frK9 i n flows)), (10460, some (refPlan_frK7 n flows))]⟩
    refine aw_seq ?_
    refine aw_seq ?_
    refine aw_r []
     ⟨151, [1, 2, 3], [(2, .ls 3), (3, .i need), (4, .l (.ref 1004 0)), (13, .l (.ref 1043 0)), (14, .ls 10460), (15, .i ((i : Nat) : Int)), (50, .b (decide (((i : Nat) : Int) < ((n.pipes.length : Nat) : Int))))], [(1, some (refPlan_frK1 n)), (3, some (refPlan_frK3 bores)), (1004, some (.blk 24 [.i n.pump, .ls 1])), (1041, some (refPlan_frK5 n flows bores need)), (1043, some (refPlan_frK8 n need)), (9501, some (refPlan_frK9 i n flows)), (10460, some (refPlan_frK7 n flows))]⟩
     [] (by kernel_rfl) trivial ?_
    refine aw_cond (b := decide (((i : Nat) : Int) < ((n.pipes.length : Nat) : Int))) rfl (fun h4 => ?_) (fun h4 => ?_)
    ·
     have h4p : ((i : Nat) : Int) < ((n.pipes.length : Nat) : Int) := dtr h4
     refine aw_skip ?_
     refine aw_seq ?_
     refine aw_block ?_
     refine aw_d [(7, .idx i), (10, .new 1063), (11, .lst 1064 (i + 1) (Lst eI (((loadT n flows).take i) ++ [(ix (pairT (ldV n.pipes (lowF flows) []) (ldV n.pipes (highF flows) []) n.pipes.length) i).high])))]
      ⟨151, [1, 2, 3], [(2, .ls 3), (3, .i need), (4, .l (.ref 1004 0)), (13, .l (.ref 1043 0)), (14, .ls 10460), (15, .i ((i : Nat) : Int))], [(1, some (refPlan_frK1 n)), (3, some (refPlan_frK3 bores)), (1004, some (.blk 24 [.i n.pump, .ls 1])), (1041, some (refPlan_frK5 n flows bores need)), (1043, some (refPlan_frK10 n need)), (1064, some (refPlan_frK11 i n flows)), (10460, some (refPlan_frK7 n flows))]⟩
      [((i : Nat) : Int) = ((i : Nat) : Int), i < n.pipes.length, i < n.pipes.length, i < n.pipes.length, i + 1 ≤ 1000000000000, (i + 1) * 8 ≤ 140737488355328, AppOk 1 i 1 (Lst eI ((loadT n flows).take i)) (exEl 1 [.i ((ix (pairT (ldV n.pipes (lowF flows) []) (ldV n.pipes (highF flows) []) n.pipes.length) i).high)]) (i + 1) (Lst eI (((loadT n flows).take i) ++ [(ix (pairT (ldV n.pipes (lowF flows) []) (ldV n.pipes (highF flows) []) n.pipes.length) i).high]))] (by kernel_rfl) (by kernel_rfl) (al2 (by omega) (al2 (by omega) (al2 (by omega) (al2 (by omega) (al2 (by first | omega | rfl | assumption) (al2 (by first | omega | rfl | assumption) (al1 (app_one (by first | rfl | omega | (simp; done) | (rw [List.length_take]; omega)) (by first | rfl | omega | (simp; done) | (rw [List.length_take]; omega)) (fun | 0, _ => rfl | (n + 1), h => absurd h (by omega)))))))))) ?_
     refine aw_r [(1, .num (((i + 1) : Nat) : Int))]
      ⟨151, [1, 2, 3], [(2, .ls 3), (3, .i need), (4, .l (.ref 1004 0)), (13, .l (.ref 1043 0)), (14, .ls 10460), (15, .i (((i + 1) : Nat) : Int))], [(1, some (refPlan_frK1 n)), (3, some (refPlan_frK3 bores)), (1004, some (.blk 24 [.i n.pump, .ls 1])), (1041, some (refPlan_frK5 n flows bores need)), (1043, some (refPlan_frK10 n need)), (1064, some (refPlan_frK11 i n flows)), (10460, some (refPlan_frK7 n flows))]⟩
      [(((i : Nat) : Int) + 1) = (((i + 1) : Nat) : Int), -9223372036854775808 ≤ (((i + 1) : Nat) : Int) ∧ (((i + 1) : Nat) : Int) < 9223372036854775808] (by kernel_rfl) (al2 (by first | omega | rfl | assumption) (al1 (by first | omega | rfl | assumption))) ?_
     exact ⟨i + 1, (by first | omega | rfl | assumption | (simp; done)), (show n.pipes.length - (i + 1) < n.pipes.length - i by first | omega | rfl | assumption),
         (Ent.ren [(9501, 1064)] rfl rfl (by kernel_rfl) ⟨rfl, rfl, rfl, rfl, rfl, rfl, trivial⟩ (cro rfl (cro rfl (cbl rfl rfl (cmp_ rfl (fun _ h => h) (cbl rfl rfl (conts_cons rfl (le_vec rfl (lst_eq (by first | rfl | omega | assumption | (rw [List.take_succ_eq_append_getElem (by omega)]; exact congrArg (fun y => _ ++ [y]) (loadT_pair n flows (by omega)))))) (cve rfl trivial))))))) (by kernel_rfl))⟩
    ·
     have h4p : ((n.pipes.length : Nat) : Int) ≤ ((i : Nat) : Int) := dlt h4
     refine aw_exit (exit_then (exit_then (exit_in ?_)))
     refine aw_seq ?_
     refine aw_seq ?_
     have hz0 : (ix n.pipes 0).taps = 0 := by rw [netB_zero hok]; rfl
     refine aw_ent (T := ⟨151, [1, 2, 3], [(2, .ls 3), (3, .i need), (4, .l (.ref 1004 0)), (13, .l (.ref 1043 0)), (14, .ls 10460), (15, .i ((i : Nat) : Int)), (50, .b (decide (((i : Nat) : Int) < ((n.pipes.length : Nat) : Int))))], [(1, some (refPlan_frK1 n)), (3, some (refPlan_frK3 bores)), (1004, some (.blk 24 [.i n.pump, .ls 1])), (1041, some (refPlan_frK5 n flows bores need)), (1043, some (refPlan_frK8 n need)), (9501, some (refPlan_frK12 n flows)), (10460, some (refPlan_frK7 n flows))]⟩)
         (Ent.ren [] rfl rfl (by kernel_rfl) ⟨rfl, rfl, rfl, rfl, rfl, rfl, rfl, trivial⟩ (cro rfl (cro rfl (cbl rfl rfl (cmp_ rfl (fun _ h => h) (cbl rfl rfl (conts_cons rfl (le_vec (by first | rfl | omega | assumption | (rw [List.take_of_length_le (by omega)]; done)) (lst_eq (by first | rfl | omega | assumption | (rw [List.take_of_length_le (by omega)]; done)))) (cve rfl trivial))))))) (by kernel_rfl)) ?_
     have h5 : (decide (0 < (ix n.pipes 0).taps)) = false := by refine decide_eq_false ?_; rw [hz0]; decide
     refine aw_r [(2, .idx 0), (6, .dec false)]
      ⟨151, [1, 2, 3], [(2, .ls 3), (4, .l (.ref 1004 0)), (13, .l (.ref 1043 0)), (78, .b false)], [(1, some (refPlan_frK1 n)), (3, some (refPlan_frK3 bores)), (1004, some (.blk 24 [.i n.pump, .ls 1])), (1041, some (refPlan_frK5 n flows bores need)), (1043, some (refPlan_frK8 n need)), (9501, some (refPlan_frK12 n flows))]⟩
      [0 = ((0 : Nat) : Int), 0 < n.pipes.length, 0 < n.pipes.length, 0 < n.pipes.length, decide (0 < (ix n.pipes 0).taps) = false] (by kernel_rfl) (al2 (by omega) (al2 (by omega) (al2 (by omega) (al2 (by omega) (al1 h5))))) ?_
     refine aw_false rfl ?_
     refine aw_skip ?_
     refine aw_seq ?_
     refine aw_r [(3, .lst 1082 n.pipes.length (Lst eI (List.replicate n.pipes.length 0))), (4, .new 1083)]
      ⟨151, [1, 2, 3], [(2, .ls 3), (4, .l (.ref 1004 0)), (13, .l (.ref 1043 0)), (16, .ls 1082), (17, .ls 1083), (18, .i 0)], [(1, some (refPlan_frK1 n)), (3, some (refPlan_frK3 bores)), (1004, some (.blk 24 [.i n.pump, .ls 1])), (1041, some (refPlan_frK5 n flows bores need)), (1043, some (refPlan_frK8 n need)), (1082, some (refPlan_frK13 n)), (1083, some (.vec 3 1 0 (exEl 1 []))), (9501, some (refPlan_frK12 n flows))]⟩
      [((n.pipes.length : Nat) : Int) = ((n.pipes.length : Nat) : Int), ((n.pipes.length : Nat) : Int) = ((n.pipes.length : Nat) : Int), n.pipes.length * 8 ≤ 100000000, n.pipes.length ≤ 100000000, ∀ i, i < n.pipes.length → ∀ j, j < 1 → Lst eI (List.replicate n.pipes.length 0) i j = [.i 0].getD j default] (by kernel_rfl) (al2 (by omega) (al2 (by omega) (al2 (by first | omega | rfl | assumption) (al2 (by first | omega | rfl | assumption) (al1 (fun i hi j hj => by unfold Lst; rw [ix_replicate hi]; rfl)))))) ?_
     refine aw_seq ?_
     refine aw_r [(3, .idx 0), (4, .lst 0 0 (Lst eI ((List.replicate n.pipes.length 0).set 0 n.pump)))]
      ⟨151, [1, 2, 3], [(2, .ls 3), (4, .l (.ref 1004 0)), (13, .l (.ref 1043 0)), (16, .ls 1082), (17, .ls 1083), (18, .i 0)], [(1, some (refPlan_frK1 n)), (3, some (refPlan_frK3 bores)), (1004, some (.blk 24 [.i n.pump, .ls 1])), (1041, some (refPlan_frK5 n flows bores need)), (1043, some (refPlan_frK8 n need)), (1082, some (refPlan_frK14 n)), (1083, some (.vec 3 1 0 (exEl 1 []))), (9501, some (refPlan_frK12 n flows))]⟩
      [0 = ((0 : Nat) : Int), 0 < n.pipes.length, 0 < n.pipes.length, StoreOk 1 n.pipes.length (Lst eI (List.replicate n.pipes.length 0)) 0 0 [.i n.pump] (Lst eI ((List.replicate n.pipes.length 0).set 0 n.pump))] (by kernel_rfl) (al2 (by omega) (al2 (by omega) (al2 (by omega) (al1 (store_at (by first | rfl | omega | (simp; done) | (rw [List.length_take]; omega)) (fun | 0, _ => rfl | (n + 1), h => absurd h (by omega))))))) ?_
     refine aw_seq ?_
     refine aw_seq ?_
     refine aw_ent (T := ⟨151, [1, 2, 3], [(2, .ls 3), (4, .l (.ref 1004 0)), (13, .l (.ref 1043 0)), (16, .ls 1082), (17, .ls 1083), (18, .i 0)], [(1, some (refPlan_frK1 n)), (3, some (refPlan_frK3 bores)), (1004, some (.blk 24 [.i n.pump, .ls 1])), (1041, some (refPlan_frK5 n flows bores need)), (1043, some (refPlan_frK8 n need)), (1082, some (refPlan_frK15 n flows bores need)), (1083, some (.vec 3 1 0 (exEl 1 []))), (9501, some (refPlan_frK12 n flows))]⟩)
         (Ent.ren [] rfl rfl (by kernel_rfl) ⟨rfl, rfl, rfl, rfl, rfl, rfl, trivial⟩ (cro rfl (cro rfl (cbl rfl rfl (cmp_ rfl (fun _ h => h) (cbl rfl rfl (conts_cons rfl (le_vec rfl (lst_eq (by first | rfl | omega | assumption | (rw [plTo_zero]; exact row_one1 (n := n.pipes.length) (by omega) _)))) (cve rfl (cve rfl trivial)))))))) (by kernel_rfl)) ?_
     refine aw_r []
      ⟨151, [1, 2, 3], [(2, .ls 3), (4, .l (.ref 1004 0)), (13, .l (.ref 1043 0)), (16, .ls 1082), (17, .ls 1083), (18, .i 0), (19, .i 1)], [(1, some (refPlan_frK1 n)), (3, some (refPlan_frK3 bores)), (1004, some (.blk 24 [.i n.pump, .ls 1])), (1041, some (refPlan_frK5 n flows bores need)), (1043, some (refPlan_frK8 n need)), (1082, some (refPlan_frK15 n flows bores need)), (1083, some (.vec 3 1 0 (exEl 1 []))), (9501, some (refPlan_frK12 n flows))]⟩
      [] (by kernel_rfl) trivial ?_
     refine aw_block ?_
     refine aw_loop (ι := Nat) (fun zz => ⟨151, [1, 2, 3], [(2, .ls 3), (4, .l (.ref 1004 0)), (13, .l (.ref 1043 0)), (16, .ls 1082), (17, .ls 9601), (18, .i (plS n.pipes (loadT n flows) bores need n.pump (zz + 1))), (19, .i (((zz + 1) : Nat) : Int))], [(1, some (refPlan_frK1 n)), (3, some (refPlan_frK3 bores)), (1004, some (.blk 24 [.i n.pump, .ls 1])), (1041, some (refPlan_frK5 n flows bores need)), (1043, some (refPlan_frK8 n need)), (1082, some (refPlan_frK16 n flows bores need zz)), (9501, some (refPlan_frK12 n flows)), (9601, some (refPlan_frK17 zz n flows bores need))]⟩) (fun zz => (zz < n.pipes.length) ∧ (0 ≤ plS n.pipes (loadT n flows) bores need n.pump (zz + 1) ∧ plS n.pipes (loadT n flows) bores need n.pump (zz + 1) ≤ ((zz : Nat) : Int) * 100000000) ∧ (∀ j, 0 < j → j ≤ zz → 0 ≤ (plC n.pipes (loadT n flows) bores need n.pump j).index)) (fun zz => n.pipes.length - zz) 0 ⟨(by first | omega | rfl | assumption | (simp; done)), (by rw [plS_one]; omega), (by intro j a b; omega)⟩
         (Ent.ren [(9601, 1083)] rfl rfl (by kernel_rfl) ⟨rfl, rfl, rfl, rfl, rfl, (slot_i rfl (by first | rfl | omega | assumption | (rw [plS_one]) | (rw [plTo_zero]; rfl) | (rw [plTo_zero]))), (slot_i rfl (by first | rfl | omega | assumption | (rw [plS_one]) | (rw [plTo_zero]; rfl) | (rw [plTo_zero]))), trivial⟩ (cro rfl (cro rfl (cbl rfl rfl (cmp_ rfl (fun _ h => h) (cbl rfl rfl (cve rfl (cve rfl (conts_cons rfl (le_vec rfl (fun i hi => absurd hi (by omega))) trivial)))))))) (by kernel_rfl)) fun zz hp => ?_
     obtain ⟨k, rfl⟩ : ∃ x, x = zz := ⟨_, rfl⟩
     obtain ⟨hk, hsum, hall⟩ := hp
     show AW _ E _ _ ⟨151, [1, 2, 3], [(2, .ls 3), (4, .l (.ref 1004 0)), (13, .l (.ref 1043 0)), (16, .ls 1082), (17, .ls 9601), (18, .i (plS n.pipes (loadT n flows) bores need n.pump (k + 1))), (19, .i (((k + 1) : Nat) : Int))], [(1, some (refPlan_frK1 n)), (3, some (refPlan_frK3 bores)), (1004, some (.blk 24 [.i n.pump, .ls 1])), (1041, some (refPlan_frK5 n flows bores need)), (1043, some (refPlan_frK8 n need)), (1082, some (refPlan_frK16 n flows bores need k)), (9501, some (refPlan_frK12 n flows)), (9601, some (refPlan_frK17 k n flows bores need))]⟩
     refine aw_seq ?_
     refine aw_seq ?_
     refine aw_r []
      ⟨151, [1, 2, 3], [(2, .ls 3), (4, .l (.ref 1004 0)), (13, .l (.ref 1043 0)), (16, .ls 1082), (17, .ls 9601), (18, .i (plS n.pipes (loadT n flows) bores need n.pump (k + 1))), (19, .i (((k + 1) : Nat) : Int)), (92, .b (decide ((((k + 1) : Nat) : Int) < ((n.pipes.length : Nat) : Int))))], [(1, some (refPlan_frK1 n)), (3, some (refPlan_frK3 bores)), (1004, some (.blk 24 [.i n.pump, .ls 1])), (1041, some (refPlan_frK5 n flows bores need)), (1043, some (refPlan_frK8 n need)), (1082, some (refPlan_frK16 n flows bores need k)), (9501, some (refPlan_frK12 n flows)), (9601, some (refPlan_frK17 k n flows bores need))]⟩
      [] (by kernel_rfl) trivial ?_
     refine aw_cond (b := decide ((((k + 1) : Nat) : Int) < ((n.pipes.length : Nat) : Int))) rfl (fun h6 => ?_) (fun h6 => ?_)
     ·
      have h6p : (((k + 1) : Nat) : Int) < ((n.pipes.length : Nat) : Int) := dtr h6
      refine aw_skip ?_
      refine aw_seq ?_
      refine aw_block ?_
      refine aw_seq ?_
      have htk := ht (k + 1) (by omega)
      have hpk : (ix n.pipes (k + 1)).parent = par n.pipes ((k + 1 : Nat) : Int) := ix_par _ _
      have hpl := plTo_len n.pipes (loadT n flows) bores need n.pump (k := k) (by omega)
      have hrl := row_len (n := n.pipes.length) (d := (0 : Int)) (l := (plTo n.pipes (loadT n flows) bores need n.pump k).1) (by omega)
      refine aw_r [(4, .idx (k + 1)), (7, .idx (((ix n.pipes (k + 1)).parent).toNat))]
       ⟨151, [1, 2, 3], [(2, .ls 3), (4, .l (.ref 1004 0)), (13, .l (.ref 1043 0)), (16, .ls 1082), (17, .ls 9601), (18, .i (plS n.pipes (loadT n flows) bores need n.pump (k + 1))), (19, .i (((k + 1) : Nat) : Int)), (20, .i (ix (row n.pipes.length 0 (plTo n.pipes (loadT n flows) bores need n.pump k).1) (((ix n.pipes (k + 1)).parent).toNat)))], [(1, some (refPlan_frK1 n)), (3, some (refPlan_frK3 bores)), (1004, some (.blk 24 [.i n.pump, .ls 1])), (1041, some (refPlan_frK5 n flows bores need)), (1043, some (refPlan_frK8 n need)), (1082, some (refPlan_frK16 n flows bores need k)), (9501, some (refPlan_frK12 n flows)), (9601, some (refPlan_frK17 k n flows bores need))]⟩
       [(((k + 1) : Nat) : Int) = (((k + 1) : Nat) : Int), (k + 1) < n.pipes.length, (k + 1) < n.pipes.length, (k + 1) < n.pipes.length, (ix n.pipes (k + 1)).parent = ((((ix n.pipes (k + 1)).parent).toNat : Nat) : Int), ((ix n.pipes (k + 1)).parent).toNat < n.pipes.length, ((ix n.pipes (k + 1)).parent).toNat < n.pipes.length] (by kernel_rfl) (al2 (by omega) (al2 (by omega) (al2 (by omega) (al2 (by omega) (al2 (by omega) (al2 (by omega) (al1 (by omega)))))))) ?_
      refine aw_seq ?_
      have hvv := plV_bd H hp0 hp1 (par n.pipes ((k + 1 : Nat) : Int)).toNat (by omega)
      have hab := atL_bd H (node := k + 1) (by omega) (by omega) hvv.1 hvv.2
      refine aw_ent (T := ⟨151, [1, 2, 3], [(2, .ls 3), (4, .l (.ref 1004 0)), (13, .l (.ref 1043 0)), (16, .ls 1082), (17, .ls 9601), (18, .i (plS n.pipes (loadT n flows) bores need n.pump (k + 1))), (19, .i (((k + 1) : Nat) : Int)), (20, .i (plV n.pipes (loadT n flows) bores need n.pump (par n.pipes ((k + 1 : Nat) : Int)).toNat))], [(1, some (refPlan_frK1 n)), (3, some (refPlan_frK3 bores)), (1004, some (.blk 24 [.i n.pump, .ls 1])), (1041, some (refPlan_frK5 n flows bores need)), (1043, some (refPlan_frK8 n need)), (1082, some (refPlan_frK16 n flows bores need k)), (9501, some (refPlan_frK12 n flows)), (9601, some (refPlan_frK17 k n flows bores need))]⟩)
          (Ent.ren [] rfl rfl (by kernel_rfl) ⟨rfl, rfl, rfl, rfl, rfl, rfl, rfl, (slot_i rfl (by first | rfl | omega | assumption | (rw [hpk]; exact plan_row ht _ _ _ _ (by omega) (by omega)))), trivial⟩ (cro rfl (cro rfl (cbl rfl rfl (cmp_ rfl (fun _ h => h) (cbl rfl rfl (cve rfl (cve rfl (cve rfl trivial)))))))) (by kernel_rfl)) ?_
      refine aw_r [(3, .call [1043, 1, 9501, 3, 1041] (.i (refC (atL n.pipes (loadT n flows) bores need (k + 1) (plV n.pipes (loadT n flows) bores need n.pump (par n.pipes ((k + 1 : Nat) : Int)).toNat)))) [(1041, some (refPlan_frK5 n flows bores need))])]
       ⟨151, [1, 2, 3], [(2, .ls 3), (4, .l (.ref 1004 0)), (13, .l (.ref 1043 0)), (16, .ls 1082), (17, .ls 9601), (18, .i (plS n.pipes (loadT n flows) bores need n.pump (k + 1))), (19, .i (((k + 1) : Nat) : Int)), (20, .i (plV n.pipes (loadT n flows) bores need n.pump (par n.pipes ((k + 1 : Nat) : Int)).toNat)), (21, .i (refC (atL n.pipes (loadT n flows) bores need (k + 1) (plV n.pipes (loadT n flows) bores need n.pump (par n.pipes ((k + 1 : Nat) : Int)).toNat))))], [(1, some (refPlan_frK1 n)), (3, some (refPlan_frK3 bores)), (1004, some (.blk 24 [.i n.pump, .ls 1])), (1041, some (refPlan_frK5 n flows bores need)), (1043, some (refPlan_frK8 n need)), (1082, some (refPlan_frK16 n flows bores need k)), (9501, some (refPlan_frK12 n flows)), (9601, some (refPlan_frK17 k n flows bores need))]⟩
       [CallOK Try.prog 65 [.l (.ref 1043 0), .i (((k + 1) : Nat) : Int), .i (plV n.pipes (loadT n flows) bores need n.pump (par n.pipes ((k + 1 : Nat) : Int)).toNat)] [1043, 1, 9501, 3, 1041] [some (refPlan_frK8 n need), some (refPlan_frK1 n), some (refPlan_frK12 n flows), some (refPlan_frK3 bores), some (refPlan_frK5 n flows bores need)] (.i (refC (atL n.pipes (loadT n flows) bores need (k + 1) (plV n.pipes (loadT n flows) bores need n.pump (par n.pipes ((k + 1 : Nat) : Int)).toNat)))) [(1041, some (refPlan_frK5 n flows bores need))]] (by kernel_rfl) (al1 (CallFr.to (cost_fr n (loadT n flows) bores need H (k + 1) (plV n.pipes (loadT n flows) bores need n.pump (par n.pipes ((k + 1 : Nat) : Int)).toNat) (by omega) (by omega) (by omega) (by omega)) [(5, 1043), (1, 1), (2, 9501), (3, 3), (4, 1041)] (by kernel_rfl) (by kernel_rfl) (by kernel_rfl) (by kernel_rfl) (by kernel_rfl) (dem_cons rfl (le_blk_r rfl) (dem_cons rfl (le_ro rfl el_rfl) (dem_cons rfl (le_vec_ro rfl el_rfl) (dem_cons rfl (le_ro rfl el_rfl) (dem_cons rfl (le_mp (fun _ h => h)) dem_nil))))))) ?_
      refine aw_seq ?_
      refine aw_seq ?_
      refine aw_r []
       ⟨151, [1, 2, 3], [(2, .ls 3), (4, .l (.ref 1004 0)), (13, .l (.ref 1043 0)), (16, .ls 1082), (17, .ls 9601), (18, .i (plS n.pipes (loadT n flows) bores need n.pump (k + 1))), (19, .i (((k + 1) : Nat) : Int)), (20, .i (plV n.pipes (loadT n flows) bores need n.pump (par n.pipes ((k + 1 : Nat) : Int)).toNat)), (21, .i (refC (atL n.pipes (loadT n flows) bores need (k + 1) (plV n.pipes (loadT n flows) bores need n.pump (par n.pipes ((k + 1 : Nat) : Int)).toNat)))), (109, .b (decide ((refC (atL n.pipes (loadT n flows) bores need (k + 1) (plV n.pipes (loadT n flows) bores need n.pump (par n.pipes ((k + 1 : Nat) : Int)).toNat))) = 1000000000000)))], [(1, some (refPlan_frK1 n)), (3, some (refPlan_frK3 bores)), (1004, some (.blk 24 [.i n.pump, .ls 1])), (1041, some (refPlan_frK5 n flows bores need)), (1043, some (refPlan_frK8 n need)), (1082, some (refPlan_frK16 n flows bores need k)), (9501, some (refPlan_frK12 n flows)), (9601, some (refPlan_frK17 k n flows bores need))]⟩
       [] (by kernel_rfl) trivial ?_
      refine aw_cond (b := decide ((refC (atL n.pipes (loadT n flows) bores need (k + 1) (plV n.pipes (loadT n flows) bores need n.pump (par n.pipes ((k + 1 : Nat) : Int)).toNat))) = 1000000000000)) rfl (fun h7 => ?_) (fun h7 => ?_)
      ·
       have h7p : (refC (atL n.pipes (loadT n flows) bores need (k + 1) (plV n.pipes (loadT n flows) bores need n.pump (par n.pipes ((k + 1 : Nat) : Int)).toNat))) = 1000000000000 := dtr h7
       have hpn := plan_none H hp0 hp1 (show 0 < k + 1 by omega) (by omega) (refC_never hab.2.2.2.1 (dtr h7))
       rw [hpn] at hpa
       refine aw_seq ?_
       refine aw_r []
        ⟨151, [1, 2, 3], [(8, .l (.v (.slice none 0 0))), (9, .i 0), (10, .i 7)], []⟩
        [] (by kernel_rfl) trivial ?_
       exact aw_ret (ret_then (ret_block (ret_then (ret_then (ret_block (ret_then ⟨.inr rfl, end_ok ⟨151, [1, 2, 3], [(8, .ls 9), (9, .i ((planA n flows bores need).2.1)), (10, .i ((planA n flows bores need).2.2))], [(9, some (refPlan_frK4 n flows bores need))]⟩
           (Ent.trans (Ent.nilSlot 8 70005 3 1 (Lst eI ((planA n flows bores need).1)) rfl (by omega) (by kernel_rfl)) (Ent.ren [(9, 70005)] rfl rfl (by kernel_rfl) ⟨rfl, (slot_i rfl (by first | rfl | omega | assumption | (rw [hpa]; done) | (rw [hpa]; rfl) | (rw [hpa]; exact (plTo_len _ _ _ _ _ (by omega)).2.symm))), (slot_i rfl (by first | rfl | omega | assumption | (rw [hpa]; done) | (rw [hpa]; rfl) | (rw [hpa]; exact (plTo_len _ _ _ _ _ (by omega)).2.symm))), trivial⟩ (conts_cons rfl (le_vec (by first | rfl | omega | assumption | (rw [hpa]; done) | (rw [hpa]; rfl) | (rw [hpa]; exact (plTo_len _ _ _ _ _ (by omega)).2.symm)) el_rfl) trivial) (by kernel_rfl))) rfl (by kernel_rfl) (wr_cons rfl (plain_Lst plain_eI) wr_nil) (by kernel_rfl)⟩))))))
      ·
       have h7p : (refC (atL n.pipes (loadT n flows) bores need (k + 1) (plV n.pipes (loadT n flows) bores need n.pump (par n.pipes ((k + 1 : Nat) : Int)).toNat))) ≠ 1000000000000 := deq h7
       have hi0 : 0 ≤ (plC n.pipes (loadT n flows) bores need n.pump (k + 1)).index := refC_some (deq h7)
       obtain ⟨b1, b2, b3, b4, b5, b6⟩ := (plC_best H hp0 hp1 (show 0 < k + 1 by omega) (by omega)).best hi0
       have hbe : (refC (atL n.pipes (loadT n flows) bores need (k + 1) (plV n.pipes (loadT n flows) bores need n.pump (par n.pipes ((k + 1 : Nat) : Int)).toNat))) = (plC n.pipes (loadT n flows) bores need n.pump (k + 1)).cost := refC_pos hi0
       refine aw_skip ?_
       refine aw_seq ?_
       refine aw_r []
        ⟨151, [1, 2, 3], [(2, .ls 3), (4, .l (.ref 1004 0)), (13, .l (.ref 1043 0)), (16, .ls 1082), (17, .ls 9601), (18, .i (plS n.pipes (loadT n flows) bores need n.pump (k + 1))), (19, .i (((k + 1) : Nat) : Int)), (20, .i (plV n.pipes (loadT n flows) bores need n.pump (par n.pipes ((k + 1 : Nat) : Int)).toNat)), (21, .i (refC (atL n.pipes (loadT n flows) bores need (k + 1) (plV n.pipes (loadT n flows) bores need n.pump (par n.pipes ((k + 1 : Nat) : Int)).toNat)))), (22, .i 0)], [(1, some (refPlan_frK1 n)), (3, some (refPlan_frK3 bores)), (1004, some (.blk 24 [.i n.pump, .ls 1])), (1041, some (refPlan_frK5 n flows bores need)), (1043, some (refPlan_frK8 n need)), (1082, some (refPlan_frK16 n flows bores need k)), (9501, some (refPlan_frK12 n flows)), (9601, some (refPlan_frK17 k n flows bores need))]⟩
        [] (by kernel_rfl) trivial ?_
       refine aw_block ?_
       refine aw_loop (ι := Nat) (fun zz => ⟨151, [1, 2, 3], [(2, .ls 3), (4, .l (.ref 1004 0)), (13, .l (.ref 1043 0)), (16, .ls 1082), (17, .ls 9601), (18, .i (plS n.pipes (loadT n flows) bores need n.pump (k + 1))), (19, .i (((k + 1) : Nat) : Int)), (20, .i (plV n.pipes (loadT n flows) bores need n.pump (par n.pipes ((k + 1 : Nat) : Int)).toNat)), (21, .i (refC (atL n.pipes (loadT n flows) bores need (k + 1) (plV n.pipes (loadT n flows) bores need n.pump (par n.pipes ((k + 1 : Nat) : Int)).toNat)))), (22, .i ((zz : Nat) : Int))], [(1, some (refPlan_frK1 n)), (3, some (refPlan_frK3 bores)), (1004, some (.blk 24 [.i n.pump, .ls 1])), (1041, some (refPlan_frK5 n flows bores need)), (1043, some (refPlan_frK8 n need)), (1082, some (refPlan_frK16 n flows bores need k)), (9501, some (refPlan_frK12 n flows)), (9601, some (refPlan_frK17 k n flows bores need))]⟩) (fun zz => (zz ≤ bores.length) ∧ (∀ p, p < zz → (withV n.pipes (loadT n flows) need (atL n.pipes (loadT n flows) bores need) (k + 1) (plV n.pipes (loadT n flows) bores need n.pump (par n.pipes ((k + 1 : Nat) : Int)).toNat) (ix bores p)) ≠ (refC (atL n.pipes (loadT n flows) bores need (k + 1) (plV n.pipes (loadT n flows) bores need n.pump (par n.pipes ((k + 1 : Nat) : Int)).toNat))))) (fun zz => bores.length - zz) 0 ⟨(by first | omega | rfl | assumption | (simp; done)), (by intro p hp; omega)⟩
           (Ent.ren [] rfl rfl (by kernel_rfl) ⟨rfl, rfl, rfl, rfl, rfl, rfl, rfl, rfl, rfl, rfl, trivial⟩ (cro rfl (cro rfl (cbl rfl rfl (cmp_ rfl (fun _ h => h) (cbl rfl rfl (cve rfl (cve rfl (cve rfl trivial)))))))) (by kernel_rfl)) fun zz hp => ?_
       obtain ⟨q, rfl⟩ : ∃ x, x = zz := ⟨_, rfl⟩
       obtain ⟨hq, hnot⟩ := hp
       show AW _ E _ _ ⟨151, [1, 2, 3], [(2, .ls 3), (4, .l (.ref 1004 0)), (13, .l (.ref 1043 0)), (16, .ls 1082), (17, .ls 9601), (18, .i (plS n.pipes (loadT n flows) bores need n.pump (k + 1))), (19, .i (((k + 1) : Nat) : Int)), (20, .i (plV n.pipes (loadT n flows) bores need n.pump (par n.pipes ((k + 1 : Nat) : Int)).toNat)), (21, .i (refC (atL n.pipes (loadT n flows) bores need (k + 1) (plV n.pipes (loadT n flows) bores need n.pump (par n.pipes ((k + 1 : Nat) : Int)).toNat)))), (22, .i ((q : Nat) : Int))], [(1, some (refPlan_frK1 n)), (3, some (refPlan_frK3 bores)), (1004, some (.blk 24 [.i n.pump, .ls 1])), (1041, some (refPlan_frK5 n flows bores need)), (1043, some (refPlan_frK8 n need)), (1082, some (refPlan_frK16 n flows bores need k)), (9501, some (refPlan_frK12 n flows)), (9601, some (refPlan_frK17 k n flows bores need))]⟩
       refine aw_seq ?_
       refine aw_seq ?_
       refine aw_r []
        ⟨151, [1, 2, 3], [(2, .ls 3), (4, .l (.ref 1004 0)), (13, .l (.ref 1043 0)), (16, .ls 1082), (17, .ls 9601), (18, .i (plS n.pipes (loadT n flows) bores need n.pump (k + 1))), (19, .i (((k + 1) : Nat) : Int)), (20, .i (plV n.pipes (loadT n flows) bores need n.pump (par n.pipes ((k + 1 : Nat) : Int)).toNat)), (21, .i (refC (atL n.pipes (loadT n flows) bores need (k + 1) (plV n.pipes (loadT n flows) bores need n.pump (par n.pipes ((k + 1 : Nat) : Int)).toNat)))), (22, .i ((q : Nat) : Int)), (113, .b (decide (((q : Nat) : Int) < ((bores.length : Nat) : Int))))], [(1, some (refPlan_frK1 n)), (3, some (refPlan_frK3 bores)), (1004, some (.blk 24 [.i n.pump, .ls 1])), (1041, some (refPlan_frK5 n flows bores need)), (1043, some (refPlan_frK8 n need)), (1082, some (refPlan_frK16 n flows bores need k)), (9501, some (refPlan_frK12 n flows)), (9601, some (refPlan_frK17 k n flows bores need))]⟩
        [] (by kernel_rfl) trivial ?_
       have h8 : (decide (((q : Nat) : Int) < ((bores.length : Nat) : Int))) = true := by refine decide_eq_true ?_; rcases Nat.lt_or_ge q bores.length with h | h; exact Int.ofNat_lt.2 h; exact absurd (b2.trans hbe.symm) (hnot (plC n.pipes (loadT n flows) bores need n.pump (k + 1)).index.toNat (by omega))
       refine aw_cond (b := decide (((q : Nat) : Int) < ((bores.length : Nat) : Int))) rfl (fun _ => ?_) (fun h => Bool.noConfusion (h8.symm.trans h))
       refine aw_skip ?_
       refine aw_seq ?_
       refine aw_block ?_
       refine aw_seq ?_
       have hq8 : q < bores.length := Int.ofNat_lt.1 (dtr (by assumption))
       refine aw_r [(4, .call [1043, 1, 9501, 3, 1041] (.i (withV n.pipes (loadT n flows) need (atL n.pipes (loadT n flows) bores need) (k + 1) (plV n.pipes (loadT n flows) bores need n.pump (par n.pipes ((k + 1 : Nat) : Int)).toNat) (ix bores q))) [(1041, some (refPlan_frK5 n flows bores need))])]
        ⟨151, [1, 2, 3], [(2, .ls 3), (4, .l (.ref 1004 0)), (13, .l (.ref 1043 0)), (16, .ls 1082), (17, .ls 9601), (18, .i (plS n.pipes (loadT n flows) bores need n.pump (k + 1))), (19, .i (((k + 1) : Nat) : Int)), (20, .i (plV n.pipes (loadT n flows) bores need n.pump (par n.pipes ((k + 1 : Nat) : Int)).toNat)), (21, .i (refC (atL n.pipes (loadT n flows) bores need (k + 1) (plV n.pipes (loadT n flows) bores need n.pump (par n.pipes ((k + 1 : Nat) : Int)).toNat)))), (22, .i ((q : Nat) : Int)), (122, .b (decide ((withV n.pipes (loadT n flows) need (atL n.pipes (loadT n flows) bores need) (k + 1) (plV n.pipes (loadT n flows) bores need n.pump (par n.pipes ((k + 1 : Nat) : Int)).toNat) (ix bores q)) = (refC (atL n.pipes (loadT n flows) bores need (k + 1) (plV n.pipes (loadT n flows) bores need n.pump (par n.pipes ((k + 1 : Nat) : Int)).toNat))))))], [(1, some (refPlan_frK1 n)), (3, some (refPlan_frK3 bores)), (1004, some (.blk 24 [.i n.pump, .ls 1])), (1041, some (refPlan_frK5 n flows bores need)), (1043, some (refPlan_frK8 n need)), (1082, some (refPlan_frK16 n flows bores need k)), (9501, some (refPlan_frK12 n flows)), (9601, some (refPlan_frK17 k n flows bores need))]⟩
        [CallOK Try.prog 66 [.l (.ref 1043 0), .i (((k + 1) : Nat) : Int), .i (plV n.pipes (loadT n flows) bores need n.pump (par n.pipes ((k + 1 : Nat) : Int)).toNat), .i ((q : Nat) : Int)] [1043, 1, 9501, 3, 1041] [some (refPlan_frK8 n need), some (refPlan_frK1 n), some (refPlan_frK12 n flows), some (refPlan_frK3 bores), some (refPlan_frK5 n flows bores need)] (.i (withV n.pipes (loadT n flows) need (atL n.pipes (loadT n flows) bores need) (k + 1) (plV n.pipes (loadT n flows) bores need n.pump (par n.pipes ((k + 1 : Nat) : Int)).toNat) (ix bores q))) [(1041, some (refPlan_frK5 n flows bores need))]] (by kernel_rfl) (al1 (CallFr.to (with_fr n (loadT n flows) bores need H (k + 1) (plV n.pipes (loadT n flows) bores need n.pump (par n.pipes ((k + 1 : Nat) : Int)).toNat) q (by omega) (by omega) (by omega) (by omega) (by omega)) [(5, 1043), (1, 1), (2, 9501), (3, 3), (4, 1041)] (by kernel_rfl) (by kernel_rfl) (by kernel_rfl) (by kernel_rfl) (by kernel_rfl) (dem_cons rfl (le_blk_r rfl) (dem_cons rfl (le_ro rfl el_rfl) (dem_cons rfl (le_vec_ro rfl el_rfl) (dem_cons rfl (le_ro rfl el_rfl) (dem_cons rfl (le_mp (fun _ h => h)) dem_nil))))))) ?_
       refine aw_cond (b := decide ((withV n.pipes (loadT n flows) need (atL n.pipes (loadT n flows) bores need) (k + 1) (plV n.pipes (loadT n flows) bores need n.pump (par n.pipes ((k + 1 : Nat) : Int)).toNat) (ix bores q)) = (refC (atL n.pipes (loadT n flows) bores need (k + 1) (plV n.pipes (loadT n flows) bores need n.pump (par n.pipes ((k + 1 : Nat) : Int)).toNat))))) rfl (fun h9 => ?_) (fun h9 => ?_)
       ·
        have h9p : (withV n.pipes (loadT n flows) need (atL n.pipes (loadT n flows) bores need) (k + 1) (plV n.pipes (loadT n flows) bores need n.pump (par n.pipes ((k + 1 : Nat) : Int)).toNat) (ix bores q)) = (refC (atL n.pipes (loadT n flows) bores need (k + 1) (plV n.pipes (loadT n flows) bores need n.pump (par n.pipes ((k + 1 : Nat) : Int)).toNat))) := dtr h9
        have hqi : (plC n.pipes (loadT n flows) bores need n.pump (k + 1)).index = ((q : Nat) : Int) := by
          have e := dtr h9
          rw [hbe] at e
          rcases Nat.lt_trichotomy q (plC n.pipes (loadT n flows) bores need n.pump (k + 1)).index.toNat with h | h | h
          · have h5 : (plC n.pipes (loadT n flows) bores need n.pump (k + 1)).cost < (withV n.pipes (loadT n flows) need (atL n.pipes (loadT n flows) bores need) (k + 1) (plV n.pipes (loadT n flows) bores need n.pump (par n.pipes ((k + 1 : Nat) : Int)).toNat) (ix bores q)) := b6 q h
            omega
          · omega
          · exact absurd (b2.trans hbe.symm) (hnot _ h)
        refine aw_seq ?_
        have hob := own_bd H (node := k + 1) (k := q) (by omega) (by omega) (by omega)
        have hob2 : 0 ≤ (ix n.pipes (k + 1)).length * (ix bores q).price ∧ (ix n.pipes (k + 1)).length * (ix bores q).price ≤ 100000000 := hob
        refine aw_d [(4, .new 1127), (5, .lst 1128 (k + 1) (Lst eI (((plTo n.pipes (loadT n flows) bores need n.pump k).2) ++ [((q : Nat) : Int)]))), (10, .call [1043, 1, 9501, 3] (.i (leftZ (ix n.pipes (k + 1)) (ix bores q) need (plV n.pipes (loadT n flows) bores need n.pump (par n.pipes ((k + 1 : Nat) : Int)).toNat) (ix (loadT n flows) (k + 1)))) []), (15, .idx (k + 1)), (20, .idx q), (26, .idx (k + 1)), (27, .lst 0 0 (Lst eI ((row n.pipes.length 0 (plTo n.pipes (loadT n flows) bores need n.pump k).1).set (k + 1) (leftZ (ix n.pipes (k + 1)) (ix bores q) need (plV n.pipes (loadT n flows) bores need n.pump (par n.pipes ((k + 1 : Nat) : Int)).toNat) (ix (loadT n flows) (k + 1))))))]
         ⟨151, [1, 2, 3], [(2, .ls 3), (4, .l (.ref 1004 0)), (13, .l (.ref 1043 0)), (16, .ls 1082), (17, .ls 1128), (18, .i ((plS n.pipes (loadT n flows) bores need n.pump (k + 1)) + ((ix n.pipes (k + 1)).length * (ix bores q).price))), (19, .i (((k + 1) : Nat) : Int))], [(1, some (refPlan_frK1 n)), (3, some (refPlan_frK3 bores)), (1004, some (.blk 24 [.i n.pump, .ls 1])), (1041, some (refPlan_frK5 n flows bores need)), (1043, some (refPlan_frK8 n need)), (1082, some (refPlan_frK18 n flows bores need k q)), (1128, some (refPlan_frK19 k n flows bores need q)), (9501, some (refPlan_frK12 n flows))]⟩
         [k + 1 ≤ 1000000000000, (k + 1) * 8 ≤ 140737488355328, AppOk 1 k 1 (Lst eI ((plTo n.pipes (loadT n flows) bores need n.pump k).2)) (exEl 1 [.i ((q : Nat) : Int)]) (k + 1) (Lst eI (((plTo n.pipes (loadT n flows) bores need n.pump k).2) ++ [((q : Nat) : Int)])), CallOK Try.prog 67 [.l (.ref 1043 0), .i (((k + 1) : Nat) : Int), .i (plV n.pipes (loadT n flows) bores need n.pump (par n.pipes ((k + 1 : Nat) : Int)).toNat), .i ((q : Nat) : Int)] [1043, 1, 9501, 3] [some (refPlan_frK8 n need), some (refPlan_frK1 n), some (refPlan_frK12 n flows), some (refPlan_frK3 bores)] (.i (leftZ (ix n.pipes (k + 1)) (ix bores q) need (plV n.pipes (loadT n flows) bores need n.pump (par n.pipes ((k + 1 : Nat) : Int)).toNat) (ix (loadT n flows) (k + 1)))) [], (((k + 1) : Nat) : Int) = (((k + 1) : Nat) : Int), (k + 1) < n.pipes.length, (k + 1) < n.pipes.length, (k + 1) < n.pipes.length, ((q : Nat) : Int) = ((q : Nat) : Int), q < bores.length, q < bores.length, q < bores.length, -9223372036854775808 ≤ ((ix n.pipes (k + 1)).length * (ix bores q).price) ∧ ((ix n.pipes (k + 1)).length * (ix bores q).price) < 9223372036854775808, -9223372036854775808 ≤ ((plS n.pipes (loadT n flows) bores need n.pump (k + 1)) + ((ix n.pipes (k + 1)).length * (ix bores q).price)) ∧ ((plS n.pipes (loadT n flows) bores need n.pump (k + 1)) + ((ix n.pipes (k + 1)).length * (ix bores q).price)) < 9223372036854775808, (((k + 1) : Nat) : Int) = (((k + 1) : Nat) : Int), (k + 1) < n.pipes.length, (k + 1) < n.pipes.length, StoreOk 1 n.pipes.length (Lst eI (row n.pipes.length 0 (plTo n.pipes (loadT n flows) bores need n.pump k).1)) (k + 1) 0 [.i (leftZ (ix n.pipes (k + 1)) (ix bores q) need (plV n.pipes (loadT n flows) bores need n.pump (par n.pipes ((k + 1 : Nat) : Int)).toNat) (ix (loadT n flows) (k + 1)))] (Lst eI ((row n.pipes.length 0 (plTo n.pipes (loadT n flows) bores need n.pump k).1).set (k + 1) (leftZ (ix n.pipes (k + 1)) (ix bores q) need (plV n.pipes (loadT n flows) bores need n.pump (par n.pipes ((k + 1 : Nat) : Int)).toNat) (ix (loadT n flows) (k + 1)))))] (by kernel_rfl) (by kernel_rfl) (al2 (by first | omega | rfl | assumption) (al2 (by first | omega | rfl | assumption) (al2 (app_one (by first | rfl | omega | (simp; done) | (rw [List.length_take]; omega)) (by first | rfl | omega | (simp; done) | (rw [List.length_take]; omega)) (fun | 0, _ => rfl | (n + 1), h => absurd h (by omega))) (al2 (CallFr.to (left_fr n (loadT n flows) bores need H (k + 1) (by omega) (by omega) (plV n.pipes (loadT n flows) bores need n.pump (par n.pipes ((k + 1 : Nat) : Int)).toNat) (by omega) (by omega) q (by omega)) [(5, 1043), (1, 1), (2, 9501), (3, 3), (4, 1041)] (by kernel_rfl) (by kernel_rfl) (by kernel_rfl) (by kernel_rfl) (by kernel_rfl) (dem_cons rfl (le_blk_r rfl) (dem_cons rfl (le_ro rfl el_rfl) (dem_cons rfl (le_vec_ro rfl el_rfl) (dem_cons rfl (le_ro rfl el_rfl) dem_nil))))) (al2 (by omega) (al2 (by omega) (al2 (by omega) (al2 (by omega) (al2 (by omega) (al2 (by omega) (al2 (by omega) (al2 (by omega) (al2 (by first | omega | rfl | assumption) (al2 (by first | omega | rfl | assumption) (al2 (by omega) (al2 (by omega) (al2 (by omega) (al1 (store_at (by first | rfl | omega | (simp; done) | (rw [List.length_take]; omega)) (fun | 0, _ => rfl | (n + 1), h => absurd h (by omega))))))))))))))))))))) ?_
        refine aw_exit (exit_out (by kernel_rfl) (exit_then (exit_then (exit_in ?_))))
        refine aw_r [(1, .num ((((k + 1) + 1) : Nat) : Int))]
         ⟨151, [1, 2, 3], [(2, .ls 3), (4, .l (.ref 1004 0)), (13, .l (.ref 1043 0)), (16, .ls 1082), (17, .ls 1128), (18, .i ((plS n.pipes (loadT n flows) bores need n.pump (k + 1)) + ((ix n.pipes (k + 1)).length * (ix bores q).price))), (19, .i ((((k + 1) + 1) : Nat) : Int))], [(1, some (refPlan_frK1 n)), (3, some (refPlan_frK3 bores)), (1004, some (.blk 24 [.i n.pump, .ls 1])), (1041, some (refPlan_frK5 n flows bores need)), (1043, some (refPlan_frK8 n need)), (1082, some (refPlan_frK18 n flows bores need k q)), (1128, some (refPlan_frK19 k n flows bores need q)), (9501, some (refPlan_frK12 n flows))]⟩
         [((((k + 1) : Nat) : Int) + 1) = ((((k + 1) + 1) : Nat) : Int), -9223372036854775808 ≤ ((((k + 1) + 1) : Nat) : Int) ∧ ((((k + 1) + 1) : Nat) : Int) < 9223372036854775808] (by kernel_rfl) (al2 (by first | omega | rfl | assumption) (al1 (by first | omega | rfl | assumption))) ?_
        have hS : plS n.pipes (loadT n flows) bores need n.pump (k + 1 + 1) = plS n.pipes (loadT n flows) bores need n.pump (k + 1) + (ix n.pipes (k + 1)).length * (ix bores q).price := by
         have h := plS_succ n.pipes (loadT n flows) bores need n.pump (k := k + 1) (by omega)
         rw [show (plC n.pipes (loadT n flows) bores need n.pump (k + 1)).index.toNat = q by omega] at h
         exact h
        have hO : (plTo n.pipes (loadT n flows) bores need n.pump k).2 ++ [((q : Nat) : Int)] = (plTo n.pipes (loadT n flows) bores need n.pump (k + 1)).2 := by
         rw [plTo_succ ht (loadT n flows) bores need n.pump (by omega), ← hqi]
        have hV : (row n.pipes.length 0 (plTo n.pipes (loadT n flows) bores need n.pump k).1).set (k + 1) (leftZ (ix n.pipes (k + 1)) (ix bores q) need (plV n.pipes (loadT n flows) bores need n.pump (par n.pipes ((k + 1 : Nat) : Int)).toNat) (ix (loadT n flows) (k + 1))) = row n.pipes.length 0 (plTo n.pipes (loadT n flows) bores need n.pump (k + 1)).1 := by
         rw [plTo_succ ht (loadT n flows) bores need n.pump (by omega), ← row_set (by omega), hpl.1]
         rw [show (plC n.pipes (loadT n flows) bores need n.pump (k + 1)).index.toNat = q by omega] at b3
         congr 1
         rw [b3] at b5
         rw [b3]
         exact if_neg b5
        exact ⟨k + 1, ⟨(by first | omega | rfl | assumption | (simp; done)), (by rw [hS]; omega), (by intro j a b; rcases Nat.lt_or_ge j (k + 1) with h | h; exact hall j a (by omega); rw [show j = k + 1 by omega]; exact hi0)⟩, (show n.pipes.length - (k + 1) < n.pipes.length - k by first | omega | rfl | assumption),
            (Ent.ren [(9601, 1128)] rfl rfl (by kernel_rfl) ⟨rfl, rfl, rfl, rfl, rfl, (slot_i rfl (by first | rfl | omega | assumption | (exact hS.symm) | (exact hO) | (exact hV))), rfl, trivial⟩ (cro rfl (cro rfl (cbl rfl rfl (cmp_ rfl (fun _ h => h) (cbl rfl rfl (conts_cons rfl (le_vec rfl (lst_eq (by first | rfl | omega | assumption | (exact hS.symm) | (exact hO) | (exact hV)))) (cve rfl (conts_cons rfl (le_vec rfl (lst_eq (by first | rfl | omega | assumption | (exact hS.symm) | (exact hO) | (exact hV)))) trivial)))))))) (by kernel_rfl))⟩
       ·
        have h9p : (withV n.pipes (loadT n flows) need (atL n.pipes (loadT n flows) bores need) (k + 1) (plV n.pipes (loadT n flows) bores need n.pump (par n.pipes ((k + 1 : Nat) : Int)).toNat) (ix bores q)) ≠ (refC (atL n.pipes (loadT n flows) bores need (k + 1) (plV n.pipes (loadT n flows) bores need n.pump (par n.pipes ((k + 1 : Nat) : Int)).toNat))) := deq h9
        refine aw_skip ?_
        refine aw_r [(1, .num (((q + 1) : Nat) : Int))]
         ⟨151, [1, 2, 3], [(2, .ls 3), (4, .l (.ref 1004 0)), (13, .l (.ref 1043 0)), (16, .ls 1082), (17, .ls 9601), (18, .i (plS n.pipes (loadT n flows) bores need n.pump (k + 1))), (19, .i (((k + 1) : Nat) : Int)), (20, .i (plV n.pipes (loadT n flows) bores need n.pump (par n.pipes ((k + 1 : Nat) : Int)).toNat)), (21, .i (refC (atL n.pipes (loadT n flows) bores need (k + 1) (plV n.pipes (loadT n flows) bores need n.pump (par n.pipes ((k + 1 : Nat) : Int)).toNat)))), (22, .i (((q + 1) : Nat) : Int))], [(1, some (refPlan_frK1 n)), (3, some (refPlan_frK3 bores)), (1004, some (.blk 24 [.i n.pump, .ls 1])), (1041, some (refPlan_frK5 n flows bores need)), (1043, some (refPlan_frK8 n need)), (1082, some (refPlan_frK16 n flows bores need k)), (9501, some (refPlan_frK12 n flows)), (9601, some (refPlan_frK17 k n flows bores need))]⟩
         [(((q : Nat) : Int) + 1) = (((q + 1) : Nat) : Int), -9223372036854775808 ≤ (((q + 1) : Nat) : Int) ∧ (((q + 1) : Nat) : Int) < 9223372036854775808] (by kernel_rfl) (al2 (by first | omega | rfl | assumption) (al1 (by first | omega | rfl | assumption))) ?_
        exact ⟨q + 1, ⟨(by first | omega | rfl | assumption | (simp; done)), (by intro p hp; rcases Nat.lt_or_ge p q with h | h; exact hnot p h; rw [show p = q by omega]; exact deq (by assumption))⟩, (show bores.length - (q + 1) < bores.length - q by first | omega | rfl | assumption),
            (Ent.ren [] rfl rfl (by kernel_rfl) ⟨rfl, rfl, rfl, rfl, rfl, rfl, rfl, rfl, rfl, rfl, trivial⟩ (cro rfl (cro rfl (cbl rfl rfl (cmp_ rfl (fun _ h => h) (cbl rfl rfl (cve rfl (cve rfl (cve rfl trivial)))))))) (by kernel_rfl))⟩
     ·
      have h6p : ((n.pipes.length : Nat) : Int) ≤ (((k + 1) : Nat) : Int) := dlt h6
      refine aw_exit (exit_then (exit_then (exit_in ?_)))
      refine aw_seq ?_
      have hk2 : n.pipes.length - 1 = k := by omega
      have hpc := plan_cost H hp0 hp1 (by omega) (fun j a b => hall j a (by omega))
      rw [hpc, hk2, show n.pipes.length = k + 1 by omega] at hpa
      refine aw_r []
       ⟨151, [1, 2, 3], [(8, .ls 9601), (9, .i (plS n.pipes (loadT n flows) bores need n.pump (k + 1))), (10, .i 0)], [(9601, some (refPlan_frK17 k n flows bores need))]⟩
       [] (by kernel_rfl) trivial ?_
      exact aw_ret ⟨.inr rfl, end_ok ⟨151, [1, 2, 3], [(8, .ls 9), (9, .i ((planA n flows bores need).2.1)), (10, .i ((planA n flows bores need).2.2))], [(9, some (refPlan_frK4 n flows bores need))]⟩
          (Ent.ren [(9, 9601)] rfl rfl (by kernel_rfl) ⟨rfl, (slot_i rfl (by first | rfl | omega | assumption | (rw [hpa]; done) | (rw [hpa]; rfl) | (rw [hpa]; exact (plTo_len _ _ _ _ _ (by omega)).2.symm))), (slot_i rfl (by first | rfl | omega | assumption | (rw [hpa]; done) | (rw [hpa]; rfl) | (rw [hpa]; exact (plTo_len _ _ _ _ _ (by omega)).2.symm))), trivial⟩ (conts_cons rfl (le_vec (by first | rfl | omega | assumption | (rw [hpa]; done) | (rw [hpa]; rfl) | (rw [hpa]; exact (plTo_len _ _ _ _ _ (by omega)).2.symm)) (lst_eq (by first | rfl | omega | assumption | (rw [hpa]; done) | (rw [hpa]; rfl) | (rw [hpa]; exact (plTo_len _ _ _ _ _ (by omega)).2.symm)))) trivial) (by kernel_rfl)) rfl (by kernel_rfl) (wr_cons rfl (plain_Lst plain_eI) wr_nil) (by kernel_rfl)⟩
end Go.Proofs.Ytepibjfmeibgcaa
