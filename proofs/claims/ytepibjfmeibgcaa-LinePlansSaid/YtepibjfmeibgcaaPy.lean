/- What Plan returns, whatever it is given; the document's helpers, brought over. -/
import Derived.Test.YtepibjfmeibgcaaB7
import Derived.Test.YtepibjfmeibgcaaM2
import Derived.Test.YtepibjfmeibgcaaPz
import Derived.Test.YtepibjfmeibgcaaSc
import Derived.Test.YtepibjfmeibgcaaRo
namespace Go.Proofs.Ytepibjfmeibgcaa
open Go.RowKit
set_option linter.unusedVariables false
def eO (b : Bor) : List DV := [.i b.size, .i b.price]
theorem plain_eO (x : Bor) (j : Nat) (hj : j < 2) : ∃ v, (eO x).getD j default = .v v := by
  match j, hj with
  | 0, _ => exact ⟨_, rfl⟩
  | 1, _ => exact ⟨_, rfl⟩
theorem heO (x : Bor) : eO x = (encO x).map DV.v := rfl
theorem mO {ids : List Nat} {cs : List (Option Cn)} {ν : Nat → Value} {sup : Nat → Nat → Prop} {w : World} (m : MW (cnOf ids cs) ν sup w) {i : Nat} {xs : List Bor} (h : cnOf ids cs i = some (.ro 2 xs.length (Lst eO xs))) : ∃ A c, ν i = .slice A xs.length c ∧ xs.length ≤ c ∧ RdO w 0 w.heap.size A xs := rd_of_ro heO (fun _ => rfl) rfl (m.cont i _ h) (fun b hb => m.supLt i _ h b hb)
/-- What flows at most through each pipe. -/
def loadT (n : Net) (flows : List Rng) : List Int := (List.range n.pipes.length).map fun j => ldV n.pipes (highF flows) [] j
theorem loadT_len (n : Net) (flows : List Rng) : (loadT n flows).length = n.pipes.length := by unfold loadT; simp
theorem loadT_at (n : Net) (flows : List Rng) {j : Nat} (h : j < n.pipes.length) : (loadT n flows).getD j 0 = ldV n.pipes (highF flows) [] j := by
  unfold loadT
  rw [List.getD_eq_getElem?_getD, List.getElem?_map, List.getElem?_range h]; rfl
theorem loadT_eq {n : Net} (ht : Tree n.pipes) (flows : List Rng) : loadsL n.pipes (highF flows) [] = loadT n flows := by
  have h1 := loadsL_len ht (highF flows) []
  refine List.ext_getElem (by rw [h1, loadT_len]) fun j a b => ?_
  have e1 := loadsL_at ht (highF flows) [] (j := j) (by omega)
  have e2 := loadT_at n flows (j := j) (by omega)
  rw [List.getD_eq_getElem?_getD, List.getElem?_eq_getElem (by omega)] at e1 e2
  exact e1.trans e2.symm
/-- What planning comes to. -/
def planA (n : Net) (flows : List Rng) (bores : List Bor) (need : Int) : List Int × Int × Int :=
  if flowE n flows [] = 0 then (if chV bores need = 0 then planF n.pipes (loadT n flows) bores need n.pump else ([], 0, chV bores need)) else ([], 0, flowE n flows [])
theorem planA_flow {n : Net} {flows : List Rng} {bores : List Bor} {need : Int} (h : flowE n flows [] ≠ 0) : planA n flows bores need = ([], 0, flowE n flows []) := if_neg h
theorem planA_ch {n : Net} {flows : List Rng} {bores : List Bor} {need : Int} (h : flowE n flows [] = 0) (h2 : chV bores need ≠ 0) : planA n flows bores need = ([], 0, chV bores need) := (if_pos h).trans (if_neg h2)
theorem planA_ok {n : Net} {flows : List Rng} {bores : List Bor} {need : Int} (h : flowE n flows [] = 0) (h2 : chV bores need = 0) : planA n flows bores need = planF n.pipes (loadT n flows) bores need n.pump := (if_pos h).trans (if_pos h2)
theorem flowE_zero {n : Net} {flows : List Rng} {zs : List Int} (h : flowE n flows zs = 0) : netB n = true ∧ chkF n.pipes.length flows zs = 0 := by
  unfold flowE at h
  cases hb : netB n with
  | false => rw [hb] at h; simp at h
  | true => rw [hb] at h; exact ⟨rfl, h⟩
theorem chV_zero {l : List Bor} {need : Int} (h : chV l need = 0) : l.length ≤ 6 ∧ boresB l = true ∧ 0 < l.length ∧ 0 ≤ need ∧ need ≤ 10000 := by
  unfold chV at h
  split at h
  · cases h
  · split at h
    · split at h
      · cases h
      · split at h
        · rename_i h1 h2 h3 h4
          have := inB_true h4
          exact ⟨by omega, h2, by omega, this.1, this.2⟩
        · cases h
    · cases h
theorem plan_ok {n : Net} {flows : List Rng} {bores : List Bor} {need : Int} (h : flowE n flows [] = 0) (h2 : chV bores need = 0) : PlOk n.pipes (loadT n flows) bores need n.pump ∧ (0 ≤ n.pump ∧ n.pump ≤ 10000) := by
  obtain ⟨hok, hk⟩ := flowE_zero h
  obtain ⟨hl, hf⟩ := chkF_zero hk
  obtain ⟨c1, c2, c3, c4, c5⟩ := chV_zero h2
  have hg := netB_good hok
  have hlen := netB_len hok
  have f2 : ∀ k, k < n.pipes.length → 0 ≤ highF flows k ∧ highF flows k ≤ 1000000000 := fun k hk => by have := flow_at hf (show k < flows.length by omega); omega
  refine ⟨⟨netB_tree hok, hlen.2, loadT_len n flows, fun j => ?_, hg.2, c2, c1, ⟨c4, c5⟩⟩, hg.1⟩
  by_cases hj : j < n.pipes.length
  · rw [loadT_at n flows hj]
    exact ldV_bd [] (netB_tree hok) hlen.2 f2 hj
  · rw [List.getD_eq_getElem?_getD, List.getElem?_eq_none (by rw [loadT_len]; omega)]
    simp
theorem Plan_fr (n : Net) (flows : List Rng) (bores : List Bor) (need : Int) (hn : n.pipes.length ≤ maxLen) (hfl : flows.length ≤ maxLen) (hbl : bores.length ≤ maxLen) :
    CallFr Try.prog 16 [.agg [.i n.pump, .ls 1], .ls 2, .ls 3, .i need] [1, 2, 3] [some (.ro 5 n.pipes.length (Lst eP n.pipes)), some (.ro 2 flows.length (Lst eR flows)), some (.ro 2 bores.length (Lst eO bores))]
      (.tup [.one (.ls 4), .one (.i (planA n flows bores need).2.1), .one (.i (planA n flows bores need).2.2)]) [(4, some (.vec 3 1 (planA n flows bores need).1.length (Lst eI (planA n flows bores need).1)))] :=
  callFr_vec (by rfl) (by omega) fun ν sup w m => by
    obtain ⟨A, c, e, h1, h2⟩ := mP m (i := 1) rfl
    obtain ⟨B, d, e2, h3, h4⟩ := mR m (i := 2) rfl
    obtain ⟨D, g, e3, h5, h6⟩ := mO m (i := 3) rfl
    simp only [List.map_cons, List.map_nil, SV.val, PV.val, LV.val, e, e2, e3]
    have fin : ∀ {e : Ending} {w' : World}, PlanR w.heap.size e w' (planA n flows bores need).1 (planA n flows bores need).2.1 (planA n flows bores need).2.2 ∧ Below w.heap.size w w' → (∃ v flat, e = .returned (.tuple #[(upd ν 4 v) 4, .int .i64 (planA n flows bores need).2.1, .int .i64 (planA n flows bores need).2.2]) ∧ w'.ownsRow w.heap.size 3 1 v (planA n flows bores need).1.length flat ∧ FlatOk flat (planA n flows bores need).1.length 1 (Lst eI (planA n flows bores need).1)) ∧ Below w.heap.size w w' := fun ⟨⟨v, q1, q2⟩, q3⟩ => by
      refine ⟨⟨v, _, ?_, by rw [map_I_flat] at q2; exact q2, fI _⟩, q3⟩
      rw [q1, upd_self]
    by_cases hE : flowE n flows [] = 0
    · obtain ⟨hok, hk⟩ := flowE_zero hE
      obtain ⟨hl, hf⟩ := chkF_zero hk
      have hb : ∀ o, Calls Try.prog 57 #[.agg #[.int .i64 n.pump, .slice A n.pipes.length c], .slice B flows.length d, .slice none 0 0] (w.alloc o) fun e w' => BothR (w.alloc o).heap.size e w' n.pipes.length (loadsL n.pipes (lowF flows) []) (vacsL n.pump n.pipes (lowF flows) []) (loadsL n.pipes (highF flows) []) (vacsL n.pump n.pipes (highF flows) []) 0 ∧ Below (w.alloc o).heap.size (w.alloc o) w' :=
        fun o => both_ok n A B none c d 0 flows [] _ 0 _ 0 _ 0 0 (h2.alloc (Nat.le_refl _) o) (by simp) h1 (h4.alloc (Nat.le_refl _) o) (by simp) hfl Rd.nil (Nat.zero_le _) (Nat.le_refl _) (Nat.zero_le _) hok hk hl hf
      by_cases hC : chV bores need = 0
      · obtain ⟨c1, c2, c3, c4, c5⟩ := chV_zero hC
        have hp := plan_ok hE hC
        have hpl := hp.1
        rw [planA_ok hE hC, ← loadT_eq (netB_tree hok)] at *
        exact (plan_main n A B D c flows.length d g 0 _ 0 _ need _ _ _ _ bores w h2 (Nat.le_refl _) h1 h6 (Nat.le_refl _) c3 (netB_len hok).1 hp.2 hpl hb).mono fun e w' h => fin h
      · rw [planA_ch hE hC] at *
        refine Calls.mono (R := fun e w' => PlanR w.heap.size e w' [] 0 (chV bores need) ∧ Below w.heap.size w w') ?_ fun e w' h => fin h
        unfold chV at hC ⊢
        by_cases k1 : 6 < bores.length
        · rw [if_pos k1]; exact plan_long n A B D c flows.length d bores.length g need _ _ _ _ _ w k1 hbl hb
        · rw [if_neg k1] at hC ⊢
          by_cases k2 : boresB bores = true
          · rw [if_pos k2] at hC ⊢
            by_cases k3 : bores.length = 0
            · rw [if_pos k3]; exact plan_bad n A B D c flows.length d g 0 _ need _ _ _ _ bores _ w h6 (Nat.le_refl _) (by omega) (.inl (List.length_eq_zero_iff.1 k3)) hb
            · rw [if_neg k3] at hC ⊢
              by_cases k4 : inB 0 10000 need = true
              · rw [if_pos k4] at hC; exact absurd rfl hC
              · rw [if_neg k4]; exact plan_need n A B D c flows.length d g 0 _ need _ _ _ _ bores _ w h6 (Nat.le_refl _) (by omega) (by omega) k2 (by simpa using k4) hb
          · rw [if_neg k2]; exact plan_bad n A B D c flows.length d g 0 _ need _ _ _ _ bores _ w h6 (Nat.le_refl _) (by omega) (.inr (by simpa using k2)) hb
    · rw [planA_flow hE] at *
      refine (plan_err n A B D c flows.length d bores.length g need [] [] [] [] 0 (flowE n flows []) w hE (fun o => ?_)).mono fun e w' h => fin h
      unfold flowE at hE ⊢
      cases hok : netB n with
      | false => exact both_arg n A B none c d 0 flows.length [] _ 0 _ (h2.alloc (Nat.le_refl _) o) (by simp) h1 hn hok
      | true =>
        rw [hok] at hE
        exact both_chk n A B none c d 0 flows [] _ 0 _ 0 _ 0 0 (h2.alloc (Nat.le_refl _) o) (by simp) h1 (h4.alloc (Nat.le_refl _) o) (by simp) hfl Rd.nil (Nat.zero_le _) (Nat.le_refl _) (Nat.zero_le _) hok (by simpa using hE)
theorem refChoices_fr (l : List Bor) (need : Int) (hn : l.length ≤ maxLen) : CallFr Try.prog 64 [.ls 1, .i need] [1] [some (.ro 2 l.length (Lst eO l))] (.i (chV l need)) [] :=
  callFr_val fun ν sup w m => by
    obtain ⟨A, c, e, h1, h2⟩ := mO m (i := 1) rfl
    simp only [List.map_cons, List.map_nil, SV.val, PV.val, LV.val, e]
    exact (refChoices_ l need A c 0 _ w h2 hn).mono fun e w' ⟨q1, q2⟩ => ⟨q1, q2 ▸ Below.refl _ _⟩
theorem refLoad_nil (n : Net) (fl : List Int) (f : Nat → Int) (hn : n.pipes.length ≤ 60) (ht : Tree n.pipes) (hf : ∀ j, j < n.pipes.length → 0 ≤ f j ∧ f j ≤ 1000000000) (hfl : fl.length = n.pipes.length) (hfv : ∀ j (h : j < fl.length), fl[j] = f j) (node : Nat) (hk : node < n.pipes.length) :
    CallFr Try.prog 79 [.agg [.i n.pump, .ls 1], .ls 2, .v (.slice none 0 0), .i ((node : Nat) : Int)] [1, 2] [some (.ro 5 n.pipes.length (Lst eP n.pipes)), some (.ro 1 fl.length (Lst eI fl))] (.i (ldV n.pipes f [] node)) [] :=
  callFr_val fun ν sup w m => by
    obtain ⟨A, c, e, h1, h2⟩ := mP m (i := 1) rfl
    obtain ⟨B, d, e2, h3, h4⟩ := mI m (i := 2) rfl
    simp only [List.map_cons, List.map_nil, SV.val, PV.val, LV.val, e, e2]
    exact refLoad_ n fl [] f A B none c d 0 0 _ 0 _ 0 0 hn ht hf hfl hfv (Nat.zero_le _) n.pipes.length node w h2 (Nat.le_refl _) h4 (Nat.le_refl _) Rd.nil (Nat.zero_le _) hk (by omega)
theorem refLoss_fr (p : Pipe) (flow : Int) (hp : PipeOk p) (h0 : 0 ≤ flow) (h1 : flow ≤ 60000000000) : CallFr Try.prog 39 [.agg [.i p.parent, .i p.length, .i p.bore, .i p.drop, .i p.taps], .i flow] [] [] (.i (lossZ p flow)) [] :=
  callFr_val fun ν sup w m => by
    simp only [List.map_cons, List.map_nil, SV.val, PV.val, LV.val]
    exact refLoss_ p flow w hp h0 h1
end Go.Proofs.Ytepibjfmeibgcaa
