/- The document's planner, walked. -/
import Derived.Test.YtepibjfmeibgcaaPw
import Derived.Test.YtepibjfmeibgcaaProg
namespace Go.Proofs.Ytepibjfmeibgcaa
open Go.RowKit
set_option linter.unusedVariables false
def left_frK1 (n : Net) (need : Int) : Cn := .rblk [.i n.pump, .ls 1, .ls 2, .ls 3, .i need, .ls 4]
def left_frK2 (n : Net) : Cn := .ro 5 n.pipes.length (Lst eP n.pipes)
def left_frK3 (loads : List Int) : Cn := .ro 1 loads.length (Lst eI loads)
def left_frK4 (bores : List Bor) : Cn := .ro 2 bores.length (Lst eO bores)
def left_frK5 (n : Net) (node : Nat) : Cn := .blk 54 [.i ((ix n.pipes node).parent), .i ((ix n.pipes node).length), .i ((ix n.pipes node).bore), .i ((ix n.pipes node).drop), .i ((ix n.pipes node).taps)]
def left_frK6 (n : Net) (node : Nat) (bores : List Bor) (k : Nat) : Cn := .blk 54 [.i ((ix n.pipes node).parent), .i ((ix n.pipes node).length), .i ((ix bores k).size), .i ((ix n.pipes node).drop), .i ((ix n.pipes node).taps)]
set_option maxRecDepth 100000 in
theorem left_fr (n : Net) (loads : List Int) (bores : List Bor) (need : Int) (H : PlOk n.pipes loads bores need n.pump) (node : Nat) (n0 : 0 < node) (n1 : node < n.pipes.length) (vac : Int) (v0 : 0 ≤ vac) (v1 : vac ≤ 10000) (k : Nat) (hk : k < bores.length) : CallFr Try.prog 67 [.l (.ref 5 0), .i ((node : Nat) : Int), .i vac, .i ((k : Nat) : Int)] [5, 1, 2, 3] [some (.rblk [.i n.pump, .ls 1, .ls 2, .ls 3, .i need, .ls 4]), some (.ro 5 n.pipes.length (Lst eP n.pipes)), some (.ro 1 loads.length (Lst eI loads)), some (.ro 2 bores.length (Lst eO bores))] (.i (leftZ (ix n.pipes node) (ix bores k) need vac (ix loads node))) [] := by
 have hn60 := H.n
 have hll := H.ll
 have hbn := H.bn
 have hneed := H.need
 obtain ⟨p1, p2, p3, p4, p5, p6⟩ := H.p node n0 n1
 have hb := bore_at H.b hk
 have hl := H.l node
 have hpo : PipeOk (⟨(ix n.pipes node).parent, (ix n.pipes node).length, (ix bores k).size, (ix n.pipes node).drop, (ix n.pipes node).taps⟩ : Pipe) := ⟨p1, p2, hb.1, hb.2.1, p5, p6⟩
 have hld : 0 ≤ (ix loads node) ∧ (ix loads node) ≤ 60000000000 := hl
 have hvb := vacB_bd H n0 n1 hk v0 v1
 have hvb2 : 0 ≤ (vacB (ix n.pipes node) (ix bores k) vac (ix loads node)) ∧ (vacB (ix n.pipes node) (ix bores k) vac (ix loads node)) ≤ 10000 := hvb
 have hls := lossZ_bd hpo hld.1 hld.2
 refine callFr_of (fn := Try.f67) (by kernel_rfl) rfl (by kernel_rfl) (by kernel_rfl) fun E => ?_
 refine aw_ent (T := ⟨52, [5, 1, 2, 3], [(0, .l (.ref 5 0)), (1, .i ((node : Nat) : Int)), (2, .i vac), (3, .i ((k : Nat) : Int))], [(5, some (left_frK1 n need)), (1, some (left_frK2 n)), (2, some (left_frK3 loads)), (3, some (left_frK4 bores))]⟩) (Ent.refl _) ?_
 refine aw_seq ?_
 refine aw_r []
  ⟨52, [5, 1, 2, 3], [(0, .l (.ref 5 0)), (1, .i ((node : Nat) : Int)), (2, .i vac), (3, .i ((k : Nat) : Int))], [(1, some (left_frK2 n)), (2, some (left_frK3 loads)), (3, some (left_frK4 bores)), (5, some (left_frK1 n need))]⟩
  [] (by kernel_rfl) trivial ?_
 refine aw_seq ?_
 refine aw_r [(6, .idx node), (8, .new 1009)]
  ⟨52, [5, 1, 2, 3], [(0, .l (.ref 5 0)), (1, .i ((node : Nat) : Int)), (2, .i vac), (3, .i ((k : Nat) : Int)), (9, .l (.ref 1009 0))], [(1, some (left_frK2 n)), (2, some (left_frK3 loads)), (3, some (left_frK4 bores)), (5, some (left_frK1 n need)), (1009, some (left_frK5 n node))]⟩
  [((node : Nat) : Int) = ((node : Nat) : Int), node < n.pipes.length, node < n.pipes.length] (by kernel_rfl) (al2 (by omega) (al2 (by omega) (al1 (by omega)))) ?_
 refine aw_seq ?_
 refine aw_r [(5, .idx k)]
  ⟨52, [5, 1, 2, 3], [(0, .l (.ref 5 0)), (1, .i ((node : Nat) : Int)), (2, .i vac), (9, .l (.ref 1009 0))], [(1, some (left_frK2 n)), (2, some (left_frK3 loads)), (3, some (left_frK4 bores)), (5, some (left_frK1 n need)), (1009, some (left_frK6 n node bores k))]⟩
  [((k : Nat) : Int) = ((k : Nat) : Int), k < bores.length, k < bores.length, k < bores.length] (by kernel_rfl) (al2 (by omega) (al2 (by omega) (al2 (by omega) (al1 (by omega))))) ?_
 refine aw_seq ?_
 refine aw_d [(7, .idx node), (9, .call [] (.i (lossZ (⟨(ix n.pipes node).parent, (ix n.pipes node).length, (ix bores k).size, (ix n.pipes node).drop, (ix n.pipes node).taps⟩ : Pipe) (ix loads node))) [])]
  ⟨52, [5, 1, 2, 3], [(0, .l (.ref 5 0)), (9, .l (.ref 1009 0)), (10, .i (max 0 (vac - (lossZ (⟨(ix n.pipes node).parent, (ix n.pipes node).length, (ix bores k).size, (ix n.pipes node).drop, (ix n.pipes node).taps⟩ : Pipe) (ix loads node)))))], [(1, some (left_frK2 n)), (2, some (left_frK3 loads)), (3, some (left_frK4 bores)), (5, some (left_frK1 n need)), (1009, some (left_frK6 n node bores k))]⟩
  [((node : Nat) : Int) = ((node : Nat) : Int), node < loads.length, node < loads.length, CallOK Try.prog 39 [.agg [.i ((ix n.pipes node).parent), .i ((ix n.pipes node).length), .i ((ix bores k).size), .i ((ix n.pipes node).drop), .i ((ix n.pipes node).taps)], .i (ix loads node)] [] [] (.i (lossZ (⟨(ix n.pipes node).parent, (ix n.pipes node).length, (ix bores k).size, (ix n.pipes node).drop, (ix n.pipes node).taps⟩ : Pipe) (ix loads node))) [], -9223372036854775808 ≤ (vac - (lossZ (⟨(ix n.pipes node).parent, (ix n.pipes node).length, (ix bores k).size, (ix n.pipes node).drop, (ix n.pipes node).taps⟩ : Pipe) (ix loads node))) ∧ (vac - (lossZ (⟨(ix n.pipes node).parent, (ix n.pipes node).length, (ix bores k).size, (ix n.pipes node).drop, (ix n.pipes node).taps⟩ : Pipe) (ix loads node))) < 9223372036854775808] (by kernel_rfl) (by kernel_rfl) (al2 (by omega) (al2 (by omega) (al2 (by omega) (al2 (CallFr.to (refLoss_fr (⟨(ix n.pipes node).parent, (ix n.pipes node).length, (ix bores k).size, (ix n.pipes node).drop, (ix n.pipes node).taps⟩ : Pipe) (ix loads node) (by assumption) (by omega) (by omega)) [] (by kernel_rfl) (by kernel_rfl) (by kernel_rfl) (by kernel_rfl) (by kernel_rfl) dem_nil) (al1 (by first | omega | rfl | assumption)))))) ?_
 refine aw_seq ?_
 refine aw_seq ?_
 rcases Bool.eq_false_or_eq_true (decide (0 < (ix n.pipes node).taps)) with h1 | h1
 ·
  rcases Bool.eq_false_or_eq_true (decide ((vacB (ix n.pipes node) (ix bores k) vac (ix loads node)) < need)) with h2 | h2
  ·
   refine aw_ent (T := ⟨52, [5, 1, 2, 3], [(0, .l (.ref 5 0)), (9, .l (.ref 1009 0)), (10, .i (vacB (ix n.pipes node) (ix bores k) vac (ix loads node)))], [(1, some (left_frK2 n)), (2, some (left_frK3 loads)), (3, some (left_frK4 bores)), (5, some (left_frK1 n need)), (1009, some (left_frK6 n node bores k))]⟩)
       (Ent.ren [] rfl rfl (by kernel_rfl) ⟨rfl, rfl, (slot_i rfl (by first | rfl | omega | assumption | (rfl))), trivial⟩ (cro rfl (cro rfl (cro rfl (crr rfl rfl (cbl rfl rfl trivial))))) (by kernel_rfl)) ?_
   refine aw_r [(3, .dec true)]
    ⟨52, [5, 1, 2, 3], [(10, .i (vacB (ix n.pipes node) (ix bores k) vac (ix loads node))), (50, .b (decide ((vacB (ix n.pipes node) (ix bores k) vac (ix loads node)) < need)))], []⟩
    [decide (0 < (ix n.pipes node).taps) = true] (by kernel_rfl) (al1 h1) ?_
   refine aw_cond (b := decide ((vacB (ix n.pipes node) (ix bores k) vac (ix loads node)) < need)) rfl (fun _ => ?_) (fun h => Bool.noConfusion (h2.symm.trans h))
   refine aw_seq ?_
   refine aw_r []
    ⟨52, [5, 1, 2, 3], [(8, .i (-1))], []⟩
    [] (by kernel_rfl) trivial ?_
   exact aw_ret (ret_then ⟨.inr rfl, end_ok ⟨52, [5, 1, 2, 3], [(8, .i (leftZ (ix n.pipes node) (ix bores k) need vac (ix loads node)))], []⟩
       (Ent.ren [] rfl rfl (by kernel_rfl) ⟨(slot_i rfl (by first | rfl | omega | assumption | (exact (if_pos ⟨dtr (by assumption), dtr (by assumption)⟩).symm) | (exact (if_neg (fun h => absurd h.1 (of_decide_eq_false (by assumption)))).symm) | (exact (if_neg (fun h => absurd h.2 (of_decide_eq_false (by assumption)))).symm))), trivial⟩ trivial (by kernel_rfl)) rfl (by kernel_rfl) wr_nil (by kernel_rfl)⟩)
  ·
   refine aw_ent (T := ⟨52, [5, 1, 2, 3], [(0, .l (.ref 5 0)), (9, .l (.ref 1009 0)), (10, .i (vacB (ix n.pipes node) (ix bores k) vac (ix loads node)))], [(1, some (left_frK2 n)), (2, some (left_frK3 loads)), (3, some (left_frK4 bores)), (5, some (left_frK1 n need)), (1009, some (left_frK6 n node bores k))]⟩)
       (Ent.ren [] rfl rfl (by kernel_rfl) ⟨rfl, rfl, (slot_i rfl (by first | rfl | omega | assumption | (rfl))), trivial⟩ (cro rfl (cro rfl (cro rfl (crr rfl rfl (cbl rfl rfl trivial))))) (by kernel_rfl)) ?_
   refine aw_r [(3, .dec true)]
    ⟨52, [5, 1, 2, 3], [(10, .i (vacB (ix n.pipes node) (ix bores k) vac (ix loads node))), (50, .b (decide ((vacB (ix n.pipes node) (ix bores k) vac (ix loads node)) < need)))], []⟩
    [decide (0 < (ix n.pipes node).taps) = true] (by kernel_rfl) (al1 h1) ?_
   refine aw_cond (b := decide ((vacB (ix n.pipes node) (ix bores k) vac (ix loads node)) < need)) rfl (fun h => Bool.noConfusion (h2.symm.trans h)) (fun _ => ?_)
   refine aw_skip ?_
   refine aw_seq ?_
   refine aw_r []
    ⟨52, [5, 1, 2, 3], [(8, .i (vacB (ix n.pipes node) (ix bores k) vac (ix loads node)))], []⟩
    [] (by kernel_rfl) trivial ?_
   exact aw_ret ⟨.inr rfl, end_ok ⟨52, [5, 1, 2, 3], [(8, .i (leftZ (ix n.pipes node) (ix bores k) need vac (ix loads node)))], []⟩
       (Ent.ren [] rfl rfl (by kernel_rfl) ⟨(slot_i rfl (by first | rfl | omega | assumption | (exact (if_pos ⟨dtr (by assumption), dtr (by assumption)⟩).symm) | (exact (if_neg (fun h => absurd h.1 (of_decide_eq_false (by assumption)))).symm) | (exact (if_neg (fun h => absurd h.2 (of_decide_eq_false (by assumption)))).symm))), trivial⟩ trivial (by kernel_rfl)) rfl (by kernel_rfl) wr_nil (by kernel_rfl)⟩
 ·
  rcases Bool.eq_false_or_eq_true (decide ((vacB (ix n.pipes node) (ix bores k) vac (ix loads node)) < need)) with h3 | h3
  ·
   refine aw_ent (T := ⟨52, [5, 1, 2, 3], [(0, .l (.ref 5 0)), (9, .l (.ref 1009 0)), (10, .i (vacB (ix n.pipes node) (ix bores k) vac (ix loads node)))], [(1, some (left_frK2 n)), (2, some (left_frK3 loads)), (3, some (left_frK4 bores)), (5, some (left_frK1 n need)), (1009, some (left_frK6 n node bores k))]⟩)
       (Ent.ren [] rfl rfl (by kernel_rfl) ⟨rfl, rfl, (slot_i rfl (by first | rfl | omega | assumption | (rfl))), trivial⟩ (cro rfl (cro rfl (cro rfl (crr rfl rfl (cbl rfl rfl trivial))))) (by kernel_rfl)) ?_
   refine aw_r [(3, .dec false)]
    ⟨52, [5, 1, 2, 3], [(10, .i (vacB (ix n.pipes node) (ix bores k) vac (ix loads node))), (50, .b false)], []⟩
    [decide (0 < (ix n.pipes node).taps) = false] (by kernel_rfl) (al1 h1) ?_
   refine aw_false rfl ?_
   refine aw_skip ?_
   refine aw_seq ?_
   refine aw_r []
    ⟨52, [5, 1, 2, 3], [(8, .i (vacB (ix n.pipes node) (ix bores k) vac (ix loads node)))], []⟩
    [] (by kernel_rfl) trivial ?_
   exact aw_ret ⟨.inr rfl, end_ok ⟨52, [5, 1, 2, 3], [(8, .i (leftZ (ix n.pipes node) (ix bores k) need vac (ix loads node)))], []⟩
       (Ent.ren [] rfl rfl (by kernel_rfl) ⟨(slot_i rfl (by first | rfl | omega | assumption | (exact (if_pos ⟨dtr (by assumption), dtr (by assumption)⟩).symm) | (exact (if_neg (fun h => absurd h.1 (of_decide_eq_false (by assumption)))).symm) | (exact (if_neg (fun h => absurd h.2 (of_decide_eq_false (by assumption)))).symm))), trivial⟩ trivial (by kernel_rfl)) rfl (by kernel_rfl) wr_nil (by kernel_rfl)⟩
  ·
   refine aw_ent (T := ⟨52, [5, 1, 2, 3], [(0, .l (.ref 5 0)), (9, .l (.ref 1009 0)), (10, .i (vacB (ix n.pipes node) (ix bores k) vac (ix loads node)))], [(1, some (left_frK2 n)), (2, some (left_frK3 loads)), (3, some (left_frK4 bores)), (5, some (left_frK1 n need)), (1009, some (left_frK6 n node bores k))]⟩)
       (Ent.ren [] rfl rfl (by kernel_rfl) ⟨rfl, rfl, (slot_i rfl (by first | rfl | omega | assumption | (rfl))), trivial⟩ (cro rfl (cro rfl (cro rfl (crr rfl rfl (cbl rfl rfl trivial))))) (by kernel_rfl)) ?_
   refine aw_r [(3, .dec false)]
    ⟨52, [5, 1, 2, 3], [(10, .i (vacB (ix n.pipes node) (ix bores k) vac (ix loads node))), (50, .b false)], []⟩
    [decide (0 < (ix n.pipes node).taps) = false] (by kernel_rfl) (al1 h1) ?_
   refine aw_false rfl ?_
   refine aw_skip ?_
   refine aw_seq ?_
   refine aw_r []
    ⟨52, [5, 1, 2, 3], [(8, .i (vacB (ix n.pipes node) (ix bores k) vac (ix loads node)))], []⟩
    [] (by kernel_rfl) trivial ?_
   exact aw_ret ⟨.inr rfl, end_ok ⟨52, [5, 1, 2, 3], [(8, .i (leftZ (ix n.pipes node) (ix bores k) need vac (ix loads node)))], []⟩
       (Ent.ren [] rfl rfl (by kernel_rfl) ⟨(slot_i rfl (by first | rfl | omega | assumption | (exact (if_pos ⟨dtr (by assumption), dtr (by assumption)⟩).symm) | (exact (if_neg (fun h => absurd h.1 (of_decide_eq_false (by assumption)))).symm) | (exact (if_neg (fun h => absurd h.2 (of_decide_eq_false (by assumption)))).symm))), trivial⟩ trivial (by kernel_rfl)) rfl (by kernel_rfl) wr_nil (by kernel_rfl)⟩
def with_stepK1 (n : Net) (need : Int) : Cn := .rblk [.i n.pump, .ls 1, .ls 2, .ls 3, .i need, .ls 4]
def with_stepK2 (n : Net) : Cn := .ro 5 n.pipes.length (Lst eP n.pipes)
def with_stepK3 (loads : List Int) : Cn := .ro 1 loads.length (Lst eI loads)
def with_stepK4 (bores : List Bor) : Cn := .ro 2 bores.length (Lst eO bores)
def with_stepK5 (n : Net) (loads : List Int) (bores : List Bor) (need : Int) : Cn := .mp (CostM n.pipes loads bores need)
set_option maxRecDepth 100000 in
theorem with_step (n : Net) (loads : List Int) (bores : List Bor) (need : Int) (H : PlOk n.pipes loads bores need n.pump) (f : Nat) (ih : ∀ x v, 0 < x → x < n.pipes.length → n.pipes.length - x ≤ f → 0 ≤ v → v ≤ 10000 → CallFr Try.prog 65 [.l (.ref 5 0), .i ((x : Nat) : Int), .i v] [5, 1, 2, 3, 4] [some (.rblk [.i n.pump, .ls 1, .ls 2, .ls 3, .i need, .ls 4]), some (.ro 5 n.pipes.length (Lst eP n.pipes)), some (.ro 1 loads.length (Lst eI loads)), some (.ro 2 bores.length (Lst eO bores)), some (.mp (CostM n.pipes loads bores need))] (.i (refC (atL n.pipes loads bores need x v))) [(4, some (.mp (CostM n.pipes loads bores need)))]) (node : Nat) (n0 : 0 < node) (n1 : node < n.pipes.length) (hf : n.pipes.length - node ≤ f + 1) (vac : Int) (v0 : 0 ≤ vac) (v1 : vac ≤ 10000) (k : Nat) (hk : k < bores.length) : CallFr Try.prog 66 [.l (.ref 5 0), .i ((node : Nat) : Int), .i vac, .i ((k : Nat) : Int)] [5, 1, 2, 3, 4] [some (.rblk [.i n.pump, .ls 1, .ls 2, .ls 3, .i need, .ls 4]), some (.ro 5 n.pipes.length (Lst eP n.pipes)), some (.ro 1 loads.length (Lst eI loads)), some (.ro 2 bores.length (Lst eO bores)), some (.mp (CostM n.pipes loads bores need))] (.i (withV n.pipes loads need (atL n.pipes loads bores need) node vac (ix bores k))) [(4, some (.mp (CostM n.pipes loads bores need)))] := by
 have hn60 := H.n
 have hll := H.ll
 have hbn := H.bn
 have hneed := H.need
 have ht := H.t
 have hvb := vacB_bd H n0 n1 hk v0 v1
 have hvb2 : 0 ≤ (vacB (ix n.pipes node) (ix bores k) vac (ix loads node)) ∧ (vacB (ix n.pipes node) (ix bores k) vac (ix loads node)) ≤ 10000 := hvb
 have ho := own_bd H n0 n1 hk
 have ho2 : 0 ≤ ((ix n.pipes node).length * (ix bores k).price) ∧ ((ix n.pipes node).length * (ix bores k).price) ≤ 100000000 := ho
 have hwb := with_bd H n0 n1 hk v0 v1
 refine callFr_of (fn := Try.f66) (by kernel_rfl) rfl (by kernel_rfl) (by kernel_rfl) fun E => ?_
 refine aw_ent (T := ⟨68, [5, 1, 2, 3, 4], [(0, .l (.ref 5 0)), (1, .i ((node : Nat) : Int)), (2, .i vac), (3, .i ((k : Nat) : Int))], [(5, some (with_stepK1 n need)), (1, some (with_stepK2 n)), (2, some (with_stepK3 loads)), (3, some (with_stepK4 bores)), (4, some (with_stepK5 n loads bores need))]⟩) (Ent.refl _) ?_
 refine aw_seq ?_
 refine aw_r []
  ⟨68, [5, 1, 2, 3, 4], [(0, .l (.ref 5 0)), (1, .i ((node : Nat) : Int)), (2, .i vac), (3, .i ((k : Nat) : Int))], [(1, some (with_stepK2 n)), (2, some (with_stepK3 loads)), (3, some (with_stepK4 bores)), (4, some (with_stepK5 n loads bores need)), (5, some (with_stepK1 n need))]⟩
  [] (by kernel_rfl) trivial ?_
 refine aw_seq ?_
 refine aw_r [(4, .call [5, 1, 2, 3] (.i (leftZ (ix n.pipes node) (ix bores k) need vac (ix loads node))) [])]
  ⟨68, [5, 1, 2, 3, 4], [(0, .l (.ref 5 0)), (1, .i ((node : Nat) : Int)), (3, .i ((k : Nat) : Int)), (9, .i (leftZ (ix n.pipes node) (ix bores k) need vac (ix loads node)))], [(1, some (with_stepK2 n)), (2, some (with_stepK3 loads)), (3, some (with_stepK4 bores)), (4, some (with_stepK5 n loads bores need)), (5, some (with_stepK1 n need))]⟩
  [CallOK Try.prog 67 [.l (.ref 5 0), .i ((node : Nat) : Int), .i vac, .i ((k : Nat) : Int)] [5, 1, 2, 3] [some (with_stepK1 n need), some (with_stepK2 n), some (with_stepK3 loads), some (with_stepK4 bores)] (.i (leftZ (ix n.pipes node) (ix bores k) need vac (ix loads node))) []] (by kernel_rfl) (al1 (CallFr.to (left_fr n loads bores need H node (by omega) (by omega) vac (by omega) (by omega) k (by omega)) [(5, 5), (1, 1), (2, 2), (3, 3), (4, 4)] (by kernel_rfl) (by kernel_rfl) (by kernel_rfl) (by kernel_rfl) (by kernel_rfl) (dem_cons rfl (le_rblk rfl) (dem_cons rfl (le_ro rfl el_rfl) (dem_cons rfl (le_ro rfl el_rfl) (dem_cons rfl (le_ro rfl el_rfl) dem_nil)))))) ?_
 refine aw_seq ?_
 refine aw_seq ?_
 rcases Bool.eq_false_or_eq_true (decide ((leftZ (ix n.pipes node) (ix bores k) need vac (ix loads node)) < 0)) with h1 | h1
 ·
  have hx : 0 < (ix n.pipes node).taps ∧ (vacB (ix n.pipes node) (ix bores k) vac (ix loads node)) < need := by
    rcases Classical.em (0 < (ix n.pipes node).taps ∧ (vacB (ix n.pipes node) (ix bores k) vac (ix loads node)) < need) with h | h
    · exact h
    · have e : (leftZ (ix n.pipes node) (ix bores k) need vac (ix loads node)) = (vacB (ix n.pipes node) (ix bores k) vac (ix loads node)) := if_neg h
      have := dtr h1
      omega
  refine aw_r []
   ⟨68, [5, 1, 2, 3, 4], [(0, .l (.ref 5 0)), (1, .i ((node : Nat) : Int)), (3, .i ((k : Nat) : Int)), (9, .i (leftZ (ix n.pipes node) (ix bores k) need vac (ix loads node))), (18, .b (decide ((leftZ (ix n.pipes node) (ix bores k) need vac (ix loads node)) < 0)))], [(1, some (with_stepK2 n)), (2, some (with_stepK3 loads)), (3, some (with_stepK4 bores)), (4, some (with_stepK5 n loads bores need)), (5, some (with_stepK1 n need))]⟩
   [] (by kernel_rfl) trivial ?_
  refine aw_cond (b := decide ((leftZ (ix n.pipes node) (ix bores k) need vac (ix loads node)) < 0)) rfl (fun _ => ?_) (fun h => Bool.noConfusion (h1.symm.trans h))
  refine aw_seq ?_
  refine aw_r []
   ⟨68, [5, 1, 2, 3, 4], [(8, .i 1000000000000)], [(4, some (with_stepK5 n loads bores need))]⟩
   [] (by kernel_rfl) trivial ?_
  exact aw_ret (ret_then ⟨.inr rfl, end_ok ⟨68, [5, 1, 2, 3, 4], [(8, .i (withV n.pipes loads need (atL n.pipes loads bores need) node vac (ix bores k)))], [(4, some (with_stepK5 n loads bores need))]⟩
      (Ent.ren [] rfl rfl (by kernel_rfl) ⟨(slot_i rfl (by first | rfl | omega | assumption | (exact (if_pos hx).symm) | (rw [show i = n.pipes.length by omega]; exact (if_neg hx).symm))), trivial⟩ (cmp_ rfl (fun _ h => h) trivial) (by kernel_rfl)) rfl (by kernel_rfl) (wr_cons rfl plain_mp wr_nil) (by kernel_rfl)⟩)
 ·
  have hx : ¬ (0 < (ix n.pipes node).taps ∧ (vacB (ix n.pipes node) (ix bores k) vac (ix loads node)) < need) := fun h => by
    have e : (leftZ (ix n.pipes node) (ix bores k) need vac (ix loads node)) = -1 := if_pos h
    have := dlt h1
    omega
  have hlz : (leftZ (ix n.pipes node) (ix bores k) need vac (ix loads node)) = (vacB (ix n.pipes node) (ix bores k) vac (ix loads node)) := if_neg hx
  refine aw_r []
   ⟨68, [5, 1, 2, 3, 4], [(0, .l (.ref 5 0)), (1, .i ((node : Nat) : Int)), (3, .i ((k : Nat) : Int)), (9, .i (leftZ (ix n.pipes node) (ix bores k) need vac (ix loads node))), (18, .b (decide ((leftZ (ix n.pipes node) (ix bores k) need vac (ix loads node)) < 0)))], [(1, some (with_stepK2 n)), (2, some (with_stepK3 loads)), (3, some (with_stepK4 bores)), (4, some (with_stepK5 n loads bores need)), (5, some (with_stepK1 n need))]⟩
   [] (by kernel_rfl) trivial ?_
  refine aw_cond (b := decide ((leftZ (ix n.pipes node) (ix bores k) need vac (ix loads node)) < 0)) rfl (fun h => Bool.noConfusion (h1.symm.trans h)) (fun _ => ?_)
  refine aw_skip ?_
  refine aw_seq ?_
  refine aw_ent (T := ⟨68, [5, 1, 2, 3, 4], [(0, .l (.ref 5 0)), (1, .i ((node : Nat) : Int)), (3, .i ((k : Nat) : Int)), (9, .i (vacB (ix n.pipes node) (ix bores k) vac (ix loads node))), (18, .b (decide ((leftZ (ix n.pipes node) (ix bores k) need vac (ix loads node)) < 0)))], [(1, some (with_stepK2 n)), (2, some (with_stepK3 loads)), (3, some (with_stepK4 bores)), (4, some (with_stepK5 n loads bores need)), (5, some (with_stepK1 n need))]⟩)
      (Ent.ren [] rfl rfl (by kernel_rfl) ⟨rfl, rfl, rfl, (slot_i rfl (by first | rfl | omega | assumption | (exact hlz))), rfl, trivial⟩ (cro rfl (cro rfl (cro rfl (cmp_ rfl (fun _ h => h) (crr rfl rfl trivial))))) (by kernel_rfl)) ?_
  refine aw_d [(6, .idx node), (14, .idx k)]
   ⟨68, [5, 1, 2, 3, 4], [(0, .l (.ref 5 0)), (1, .i ((node : Nat) : Int)), (9, .i (vacB (ix n.pipes node) (ix bores k) vac (ix loads node))), (10, .i ((ix n.pipes node).length * (ix bores k).price))], [(1, some (with_stepK2 n)), (2, some (with_stepK3 loads)), (3, some (with_stepK4 bores)), (4, some (with_stepK5 n loads bores need)), (5, some (with_stepK1 n need))]⟩
   [((node : Nat) : Int) = ((node : Nat) : Int), node < n.pipes.length, node < n.pipes.length, node < n.pipes.length, ((k : Nat) : Int) = ((k : Nat) : Int), k < bores.length, k < bores.length, k < bores.length, -9223372036854775808 ≤ ((ix n.pipes node).length * (ix bores k).price) ∧ ((ix n.pipes node).length * (ix bores k).price) < 9223372036854775808] (by kernel_rfl) (by kernel_rfl) (al2 (by omega) (al2 (by omega) (al2 (by omega) (al2 (by omega) (al2 (by omega) (al2 (by omega) (al2 (by omega) (al2 (by omega) (al1 (by first | omega | rfl | assumption)))))))))) ?_
  refine aw_seq ?_
  refine aw_seq ?_
  refine aw_r [(1, .num (((node + 1) : Nat) : Int))]
   ⟨68, [5, 1, 2, 3, 4], [(0, .l (.ref 5 0)), (1, .i ((node : Nat) : Int)), (9, .i (vacB (ix n.pipes node) (ix bores k) vac (ix loads node))), (10, .i ((ix n.pipes node).length * (ix bores k).price)), (11, .i (((node + 1) : Nat) : Int))], [(1, some (with_stepK2 n)), (2, some (with_stepK3 loads)), (3, some (with_stepK4 bores)), (4, some (with_stepK5 n loads bores need)), (5, some (with_stepK1 n need))]⟩
   [(((node : Nat) : Int) + 1) = (((node + 1) : Nat) : Int), -9223372036854775808 ≤ (((node + 1) : Nat) : Int) ∧ (((node + 1) : Nat) : Int) < 9223372036854775808] (by kernel_rfl) (al2 (by first | omega | rfl | assumption) (al1 (by first | omega | rfl | assumption))) ?_
  refine aw_block ?_
  refine aw_loop (ι := Nat) (fun zz => ⟨68, [5, 1, 2, 3, 4], [(0, .l (.ref 5 0)), (1, .i ((node : Nat) : Int)), (9, .i (vacB (ix n.pipes node) (ix bores k) vac (ix loads node))), (10, .i (sumV n.pipes (atL n.pipes loads bores need) node (vacB (ix n.pipes node) (ix bores k) vac (ix loads node)) ((ix n.pipes node).length * (ix bores k).price) zz)), (11, .i ((zz : Nat) : Int))], [(1, some (with_stepK2 n)), (2, some (with_stepK3 loads)), (3, some (with_stepK4 bores)), (4, some (with_stepK5 n loads bores need)), (5, some (with_stepK1 n need))]⟩) (fun zz => (node < zz) ∧ (zz ≤ n.pipes.length)) (fun zz => n.pipes.length - zz) (node + 1) ⟨(by first | omega | rfl | assumption | (simp; done)), (by first | omega | rfl | assumption | (simp; done))⟩
      (Ent.ren [] rfl rfl (by kernel_rfl) ⟨rfl, rfl, rfl, (slot_i rfl (by first | rfl | omega | assumption | (exact (sumV_zero H n1 hvb2.1 hvb2.2 ho2.1 ho2.2).symm))), rfl, trivial⟩ (cro rfl (cro rfl (cro rfl (cmp_ rfl (fun _ h => h) (crr rfl rfl trivial))))) (by kernel_rfl)) fun zz hp => ?_
  obtain ⟨i, rfl⟩ : ∃ x, x = zz := ⟨_, rfl⟩
  obtain ⟨hi0, hi⟩ := hp
  have hsb := sumV_bd H n1 hvb2.1 hvb2.2 ho2.1 ho2.2 (m := i) hi
  show AW _ E _ _ ⟨68, [5, 1, 2, 3, 4], [(0, .l (.ref 5 0)), (1, .i ((node : Nat) : Int)), (9, .i (vacB (ix n.pipes node) (ix bores k) vac (ix loads node))), (10, .i (sumV n.pipes (atL n.pipes loads bores need) node (vacB (ix n.pipes node) (ix bores k) vac (ix loads node)) ((ix n.pipes node).length * (ix bores k).price) i)), (11, .i ((i : Nat) : Int))], [(1, some (with_stepK2 n)), (2, some (with_stepK3 loads)), (3, some (with_stepK4 bores)), (4, some (with_stepK5 n loads bores need)), (5, some (with_stepK1 n need))]⟩
  refine aw_seq ?_
  refine aw_seq ?_
  refine aw_r []
   ⟨68, [5, 1, 2, 3, 4], [(0, .l (.ref 5 0)), (1, .i ((node : Nat) : Int)), (9, .i (vacB (ix n.pipes node) (ix bores k) vac (ix loads node))), (10, .i (sumV n.pipes (atL n.pipes loads bores need) node (vacB (ix n.pipes node) (ix bores k) vac (ix loads node)) ((ix n.pipes node).length * (ix bores k).price) i)), (11, .i ((i : Nat) : Int)), (46, .b (decide (((i : Nat) : Int) < ((n.pipes.length : Nat) : Int))))], [(1, some (with_stepK2 n)), (2, some (with_stepK3 loads)), (3, some (with_stepK4 bores)), (4, some (with_stepK5 n loads bores need)), (5, some (with_stepK1 n need))]⟩
   [] (by kernel_rfl) trivial ?_
  refine aw_cond (b := decide (((i : Nat) : Int) < ((n.pipes.length : Nat) : Int))) rfl (fun h2 => ?_) (fun h2 => ?_)
  ·
   have h2p : ((i : Nat) : Int) < ((n.pipes.length : Nat) : Int) := dtr h2
   refine aw_skip ?_
   refine aw_seq ?_
   refine aw_block ?_
   refine aw_seq ?_
   refine aw_r [(6, .idx i)]
    ⟨68, [5, 1, 2, 3, 4], [(0, .l (.ref 5 0)), (1, .i ((node : Nat) : Int)), (9, .i (vacB (ix n.pipes node) (ix bores k) vac (ix loads node))), (10, .i (sumV n.pipes (atL n.pipes loads bores need) node (vacB (ix n.pipes node) (ix bores k) vac (ix loads node)) ((ix n.pipes node).length * (ix bores k).price) i)), (11, .i ((i : Nat) : Int)), (59, .b (decide ((ix n.pipes i).parent = ((node : Nat) : Int))))], [(1, some (with_stepK2 n)), (2, some (with_stepK3 loads)), (3, some (with_stepK4 bores)), (4, some (with_stepK5 n loads bores need)), (5, some (with_stepK1 n need))]⟩
    [((i : Nat) : Int) = ((i : Nat) : Int), i < n.pipes.length, i < n.pipes.length, i < n.pipes.length] (by kernel_rfl) (al2 (by omega) (al2 (by omega) (al2 (by omega) (al1 (by omega))))) ?_
   refine aw_cond (b := decide ((ix n.pipes i).parent = ((node : Nat) : Int))) rfl (fun h3 => ?_) (fun h3 => ?_)
   ·
    have h3p : (ix n.pipes i).parent = ((node : Nat) : Int) := dtr h3
    have hrb := refC_bd H hvb2.1 hvb2.2 (m := i) (by omega) (by omega)
    unfold never at hrb hsb
    have hpar : par n.pipes i = node := by rw [← ix_par]; assumption
    refine aw_r [(4, .call [5, 1, 2, 3, 4] (.i (refC (atL n.pipes loads bores need i (vacB (ix n.pipes node) (ix bores k) vac (ix loads node))))) [(4, some (with_stepK5 n loads bores need))])]
     ⟨68, [5, 1, 2, 3, 4], [(0, .l (.ref 5 0)), (1, .i ((node : Nat) : Int)), (9, .i (vacB (ix n.pipes node) (ix bores k) vac (ix loads node))), (10, .i (min 1000000000000 ((sumV n.pipes (atL n.pipes loads bores need) node (vacB (ix n.pipes node) (ix bores k) vac (ix loads node)) ((ix n.pipes node).length * (ix bores k).price) i) + (refC (atL n.pipes loads bores need i (vacB (ix n.pipes node) (ix bores k) vac (ix loads node))))))), (11, .i ((i : Nat) : Int))], [(1, some (with_stepK2 n)), (2, some (with_stepK3 loads)), (3, some (with_stepK4 bores)), (4, some (with_stepK5 n loads bores need)), (5, some (with_stepK1 n need))]⟩
     [CallOK Try.prog 65 [.l (.ref 5 0), .i ((i : Nat) : Int), .i (vacB (ix n.pipes node) (ix bores k) vac (ix loads node))] [5, 1, 2, 3, 4] [some (with_stepK1 n need), some (with_stepK2 n), some (with_stepK3 loads), some (with_stepK4 bores), some (with_stepK5 n loads bores need)] (.i (refC (atL n.pipes loads bores need i (vacB (ix n.pipes node) (ix bores k) vac (ix loads node))))) [(4, some (with_stepK5 n loads bores need))], -9223372036854775808 ≤ ((sumV n.pipes (atL n.pipes loads bores need) node (vacB (ix n.pipes node) (ix bores k) vac (ix loads node)) ((ix n.pipes node).length * (ix bores k).price) i) + (refC (atL n.pipes loads bores need i (vacB (ix n.pipes node) (ix bores k) vac (ix loads node))))) ∧ ((sumV n.pipes (atL n.pipes loads bores need) node (vacB (ix n.pipes node) (ix bores k) vac (ix loads node)) ((ix n.pipes node).length * (ix bores k).price) i) + (refC (atL n.pipes loads bores need i (vacB (ix n.pipes node) (ix bores k) vac (ix loads node))))) < 9223372036854775808] (by kernel_rfl) (al2 (CallFr.to (ih i (vacB (ix n.pipes node) (ix bores k) vac (ix loads node)) (by omega) (by omega) (by omega) (by omega) (by omega)) [(5, 5), (1, 1), (2, 2), (3, 3), (4, 4)] (by kernel_rfl) (by kernel_rfl) (by kernel_rfl) (by kernel_rfl) (by kernel_rfl) (dem_cons rfl (le_rblk rfl) (dem_cons rfl (le_ro rfl el_rfl) (dem_cons rfl (le_ro rfl el_rfl) (dem_cons rfl (le_ro rfl el_rfl) (dem_cons rfl (le_mp (fun _ h => h)) dem_nil)))))) (al1 (by first | omega | rfl | assumption))) ?_
    try have hpar : ¬ par n.pipes i = node := by rw [← ix_par]; assumption
    refine aw_r [(1, .num (((i + 1) : Nat) : Int))]
     ⟨68, [5, 1, 2, 3, 4], [(0, .l (.ref 5 0)), (1, .i ((node : Nat) : Int)), (9, .i (vacB (ix n.pipes node) (ix bores k) vac (ix loads node))), (10, .i (min 1000000000000 ((sumV n.pipes (atL n.pipes loads bores need) node (vacB (ix n.pipes node) (ix bores k) vac (ix loads node)) ((ix n.pipes node).length * (ix bores k).price) i) + (refC (atL n.pipes loads bores need i (vacB (ix n.pipes node) (ix bores k) vac (ix loads node))))))), (11, .i (((i + 1) : Nat) : Int))], [(1, some (with_stepK2 n)), (2, some (with_stepK3 loads)), (3, some (with_stepK4 bores)), (4, some (with_stepK5 n loads bores need)), (5, some (with_stepK1 n need))]⟩
     [(((i : Nat) : Int) + 1) = (((i + 1) : Nat) : Int), -9223372036854775808 ≤ (((i + 1) : Nat) : Int) ∧ (((i + 1) : Nat) : Int) < 9223372036854775808] (by kernel_rfl) (al2 (by first | omega | rfl | assumption) (al1 (by first | omega | rfl | assumption))) ?_
    exact ⟨i + 1, ⟨(by first | omega | rfl | assumption | (simp; done)), (by first | omega | rfl | assumption | (simp; done))⟩, (show n.pipes.length - (i + 1) < n.pipes.length - i by first | omega | rfl | assumption),
        (Ent.ren [] rfl rfl (by kernel_rfl) ⟨rfl, rfl, rfl, (slot_i rfl (by first | rfl | omega | assumption | (exact (sumV_yes H n1 hvb2.1 hvb2.2 ho2.1 ho2.2 (by omega) (by omega) hpar).symm) | (exact (sumV_no H n1 hvb2.1 hvb2.2 ho2.1 ho2.2 hpar).symm))), rfl, trivial⟩ (cro rfl (cro rfl (cro rfl (cmp_ rfl (fun _ h => h) (crr rfl rfl trivial))))) (by kernel_rfl))⟩
   ·
    have h3p : (ix n.pipes i).parent ≠ ((node : Nat) : Int) := deq h3
    refine aw_skip ?_
    try have hpar : ¬ par n.pipes i = node := by rw [← ix_par]; assumption
    refine aw_r [(1, .num (((i + 1) : Nat) : Int))]
     ⟨68, [5, 1, 2, 3, 4], [(0, .l (.ref 5 0)), (1, .i ((node : Nat) : Int)), (9, .i (vacB (ix n.pipes node) (ix bores k) vac (ix loads node))), (10, .i (sumV n.pipes (atL n.pipes loads bores need) node (vacB (ix n.pipes node) (ix bores k) vac (ix loads node)) ((ix n.pipes node).length * (ix bores k).price) i)), (11, .i (((i + 1) : Nat) : Int))], [(1, some (with_stepK2 n)), (2, some (with_stepK3 loads)), (3, some (with_stepK4 bores)), (4, some (with_stepK5 n loads bores need)), (5, some (with_stepK1 n need))]⟩
     [(((i : Nat) : Int) + 1) = (((i + 1) : Nat) : Int), -9223372036854775808 ≤ (((i + 1) : Nat) : Int) ∧ (((i + 1) : Nat) : Int) < 9223372036854775808] (by kernel_rfl) (al2 (by first | omega | rfl | assumption) (al1 (by first | omega | rfl | assumption))) ?_
    exact ⟨i + 1, ⟨(by first | omega | rfl | assumption | (simp; done)), (by first | omega | rfl | assumption | (simp; done))⟩, (show n.pipes.length - (i + 1) < n.pipes.length - i by first | omega | rfl | assumption),
        (Ent.ren [] rfl rfl (by kernel_rfl) ⟨rfl, rfl, rfl, (slot_i rfl (by first | rfl | omega | assumption | (exact (sumV_yes H n1 hvb2.1 hvb2.2 ho2.1 ho2.2 (by omega) (by omega) hpar).symm) | (exact (sumV_no H n1 hvb2.1 hvb2.2 ho2.1 ho2.2 hpar).symm))), rfl, trivial⟩ (cro rfl (cro rfl (cro rfl (cmp_ rfl (fun _ h => h) (crr rfl rfl trivial))))) (by kernel_rfl))⟩
  ·
   have h2p : ((n.pipes.length : Nat) : Int) ≤ ((i : Nat) : Int) := dlt h2
   refine aw_exit (exit_then (exit_then (exit_in ?_)))
   refine aw_seq ?_
   refine aw_r []
    ⟨68, [5, 1, 2, 3, 4], [(8, .i (sumV n.pipes (atL n.pipes loads bores need) node (vacB (ix n.pipes node) (ix bores k) vac (ix loads node)) ((ix n.pipes node).length * (ix bores k).price) i))], [(4, some (with_stepK5 n loads bores need))]⟩
    [] (by kernel_rfl) trivial ?_
   exact aw_ret ⟨.inr rfl, end_ok ⟨68, [5, 1, 2, 3, 4], [(8, .i (withV n.pipes loads need (atL n.pipes loads bores need) node vac (ix bores k)))], [(4, some (with_stepK5 n loads bores need))]⟩
       (Ent.ren [] rfl rfl (by kernel_rfl) ⟨(slot_i rfl (by first | rfl | omega | assumption | (exact (if_pos hx).symm) | (rw [show i = n.pipes.length by omega]; exact (if_neg hx).symm))), trivial⟩ (cmp_ rfl (fun _ h => h) trivial) (by kernel_rfl)) rfl (by kernel_rfl) (wr_cons rfl plain_mp wr_nil) (by kernel_rfl)⟩
def cost_stepK1 (n : Net) (need : Int) : Cn := .rblk [.i n.pump, .ls 1, .ls 2, .ls 3, .i need, .ls 4]
def cost_stepK2 (n : Net) : Cn := .ro 5 n.pipes.length (Lst eP n.pipes)
def cost_stepK3 (loads : List Int) : Cn := .ro 1 loads.length (Lst eI loads)
def cost_stepK4 (bores : List Bor) : Cn := .ro 2 bores.length (Lst eO bores)
def cost_stepK5 (n : Net) (loads : List Int) (bores : List Bor) (need : Int) : Cn := .mp (CostM n.pipes loads bores need)
def cost_stepK6 (node : Nat) (vac : Int) : Cn := .blk 155 [.i ((node : Nat) : Int), .i vac]
set_option maxRecDepth 100000 in
theorem cost_step (n : Net) (loads : List Int) (bores : List Bor) (need : Int) (H : PlOk n.pipes loads bores need n.pump) (f : Nat) (ih : ∀ x v k, 0 < x → x < n.pipes.length → n.pipes.length - x ≤ f → 0 ≤ v → v ≤ 10000 → k < bores.length → CallFr Try.prog 66 [.l (.ref 5 0), .i ((x : Nat) : Int), .i v, .i ((k : Nat) : Int)] [5, 1, 2, 3, 4] [some (.rblk [.i n.pump, .ls 1, .ls 2, .ls 3, .i need, .ls 4]), some (.ro 5 n.pipes.length (Lst eP n.pipes)), some (.ro 1 loads.length (Lst eI loads)), some (.ro 2 bores.length (Lst eO bores)), some (.mp (CostM n.pipes loads bores need))] (.i (withV n.pipes loads need (atL n.pipes loads bores need) x v (ix bores k))) [(4, some (.mp (CostM n.pipes loads bores need)))]) (node : Nat) (n0 : 0 < node) (n1 : node < n.pipes.length) (hf : n.pipes.length - node ≤ f) (vac : Int) (v0 : 0 ≤ vac) (v1 : vac ≤ 10000) : CallFr Try.prog 65 [.l (.ref 5 0), .i ((node : Nat) : Int), .i vac] [5, 1, 2, 3, 4] [some (.rblk [.i n.pump, .ls 1, .ls 2, .ls 3, .i need, .ls 4]), some (.ro 5 n.pipes.length (Lst eP n.pipes)), some (.ro 1 loads.length (Lst eI loads)), some (.ro 2 bores.length (Lst eO bores)), some (.mp (CostM n.pipes loads bores need))] (.i (refC ((atL n.pipes loads bores need) node vac))) [(4, some (.mp (CostM n.pipes loads bores need)))] := by
 have hn60 := H.n
 have hll := H.ll
 have hbn := H.bn
 have hneed := H.need
 refine callFr_of (fn := Try.f65) (by kernel_rfl) rfl (by kernel_rfl) (by kernel_rfl) fun E => ?_
 refine aw_ent (T := ⟨49, [5, 1, 2, 3, 4], [(0, .l (.ref 5 0)), (1, .i ((node : Nat) : Int)), (2, .i vac)], [(5, some (cost_stepK1 n need)), (1, some (cost_stepK2 n)), (2, some (cost_stepK3 loads)), (3, some (cost_stepK4 bores)), (4, some (cost_stepK5 n loads bores need))]⟩) (Ent.refl _) ?_
 refine aw_seq ?_
 refine aw_r []
  ⟨49, [5, 1, 2, 3, 4], [(0, .l (.ref 5 0)), (1, .i ((node : Nat) : Int)), (2, .i vac)], [(1, some (cost_stepK2 n)), (2, some (cost_stepK3 loads)), (3, some (cost_stepK4 bores)), (4, some (cost_stepK5 n loads bores need)), (5, some (cost_stepK1 n need))]⟩
  [] (by kernel_rfl) trivial ?_
 refine aw_seq ?_
 refine aw_r [(3, .new 1007)]
  ⟨49, [5, 1, 2, 3, 4], [(0, .l (.ref 5 0)), (1, .i ((node : Nat) : Int)), (2, .i vac), (7, .l (.ref 1007 0))], [(1, some (cost_stepK2 n)), (2, some (cost_stepK3 loads)), (3, some (cost_stepK4 bores)), (4, some (cost_stepK5 n loads bores need)), (5, some (cost_stepK1 n need)), (1007, some (cost_stepK6 node vac))]⟩
  [] (by kernel_rfl) trivial ?_
 refine aw_seq ?_
 refine aw_seq ?_
 refine aw_open 4 rfl fun es => ?_
 refine aw_ent (T := ⟨49, [5, 1, 2, 3, 4], [(0, .l (.ref 5 0)), (1, .i ((node : Nat) : Int)), (2, .i vac), (7, .l (.ref 1007 0))], [(1, some (cost_stepK2 n)), (2, some (cost_stepK3 loads)), (3, some (cost_stepK4 bores)), (4, some (.mp (MapE Try.prog 155 es.1))), (5, some (cost_stepK1 n need)), (1007, some (cost_stepK6 node vac))]⟩)
  (Ent.ren [] rfl rfl (by kernel_rfl) ⟨rfl, rfl, rfl, rfl, trivial⟩ (cro rfl (cro rfl (cro rfl (cmp_ rfl (fun _ h => h) (crr rfl rfl (cbl rfl rfl trivial)))))) (by kernel_rfl)) ?_
 obtain ⟨z0, is0, hz0, hlk⟩ := cost_look (need := need) (loads := loads) (bores := bores) hn60 n1 v0 v1 (m := (.tmp 19)) (x := (.tmp 20)) (ty := 56) (id := 4) es
 refine aw_d [(5, .act [4] (.tup [.one (.i z0), .one (.v (.bool is0))]) [])]
  ⟨49, [5, 1, 2, 3, 4], [(0, .l (.ref 5 0)), (1, .i ((node : Nat) : Int)), (2, .i vac), (7, .l (.ref 1007 0)), (8, .i z0), (9, .b is0)], [(1, some (cost_stepK2 n)), (2, some (cost_stepK3 loads)), (3, some (cost_stepK4 bores)), (4, some (.mp (MapE Try.prog 155 es.1))), (5, some (cost_stepK1 n need)), (1007, some (cost_stepK6 node vac))]⟩
  [ActOK Try.prog (.lookup 124 (.tmp 19) (.tmp 20) true) 56 [.ls 4, .agg [.i ((node : Nat) : Int), .i vac]] [4] [some (.mp (MapE Try.prog 155 es.1))] (.tup [.one (.i z0), .one (.v (.bool is0))]) []] (by kernel_rfl) (by kernel_rfl) (al1 hlk) ?_
 refine aw_seq ?_
 refine aw_r []
  ⟨49, [5, 1, 2, 3, 4], [(0, .l (.ref 5 0)), (1, .i ((node : Nat) : Int)), (2, .i vac), (7, .l (.ref 1007 0)), (8, .i z0), (24, .b is0)], [(1, some (cost_stepK2 n)), (2, some (cost_stepK3 loads)), (3, some (cost_stepK4 bores)), (4, some (.mp (MapE Try.prog 155 es.1))), (5, some (cost_stepK1 n need)), (1007, some (cost_stepK6 node vac))]⟩
  [] (by kernel_rfl) trivial ?_
 refine aw_cond (b := is0) rfl (fun h1 => ?_) (fun h1 => ?_)
 ·
  refine aw_seq ?_
  refine aw_r []
   ⟨49, [5, 1, 2, 3, 4], [(6, .i z0)], [(4, some (.mp (MapE Try.prog 155 es.1)))]⟩
   [] (by kernel_rfl) trivial ?_
  exact aw_ret (ret_then ⟨.inr rfl, end_ok ⟨49, [5, 1, 2, 3, 4], [(6, .i (refC ((atL n.pipes loads bores need) node vac)))], [(4, some (cost_stepK5 n loads bores need))]⟩
      (Ent.ren [] rfl rfl (by kernel_rfl) ⟨(slot_i rfl (by first | rfl | omega | assumption | (exact hz0 (by assumption)))), trivial⟩ (cmp_ rfl (fun _ h => ⟨es, h⟩) trivial) (by kernel_rfl)) rfl (by kernel_rfl) (wr_cons rfl plain_mp wr_nil) (by kernel_rfl)⟩)
 ·
  refine aw_skip ?_
  refine aw_seq ?_
  refine aw_ent (T := ⟨49, [5, 1, 2, 3, 4], [(0, .l (.ref 5 0)), (1, .i ((node : Nat) : Int)), (2, .i vac), (7, .l (.ref 1007 0)), (8, .i z0), (24, .b is0)], [(1, some (cost_stepK2 n)), (2, some (cost_stepK3 loads)), (3, some (cost_stepK4 bores)), (4, some (cost_stepK5 n loads bores need)), (5, some (cost_stepK1 n need)), (1007, some (cost_stepK6 node vac))]⟩)
      (Ent.ren [] rfl rfl (by kernel_rfl) ⟨rfl, rfl, rfl, rfl, rfl, rfl, trivial⟩ (cro rfl (cro rfl (cro rfl (cmp_ rfl (fun _ h => ⟨es, h⟩) (crr rfl rfl (cbl rfl rfl trivial)))))) (by kernel_rfl)) ?_
  refine aw_r []
   ⟨49, [5, 1, 2, 3, 4], [(0, .l (.ref 5 0)), (1, .i ((node : Nat) : Int)), (2, .i vac), (7, .l (.ref 1007 0)), (10, .i 1000000000000)], [(1, some (cost_stepK2 n)), (2, some (cost_stepK3 loads)), (3, some (cost_stepK4 bores)), (4, some (cost_stepK5 n loads bores need)), (5, some (cost_stepK1 n need)), (1007, some (cost_stepK6 node vac))]⟩
   [] (by kernel_rfl) trivial ?_
  refine aw_seq ?_
  refine aw_seq ?_
  refine aw_r []
   ⟨49, [5, 1, 2, 3, 4], [(0, .l (.ref 5 0)), (1, .i ((node : Nat) : Int)), (2, .i vac), (7, .l (.ref 1007 0)), (10, .i 1000000000000), (11, .i 0)], [(1, some (cost_stepK2 n)), (2, some (cost_stepK3 loads)), (3, some (cost_stepK4 bores)), (4, some (cost_stepK5 n loads bores need)), (5, some (cost_stepK1 n need)), (1007, some (cost_stepK6 node vac))]⟩
   [] (by kernel_rfl) trivial ?_
  refine aw_block ?_
  refine aw_loop (ι := Nat) (fun zz => ⟨49, [5, 1, 2, 3, 4], [(0, .l (.ref 5 0)), (1, .i ((node : Nat) : Int)), (2, .i vac), (7, .l (.ref 1007 0)), (10, .i (refC (bTo n.pipes loads bores need node vac zz))), (11, .i ((zz : Nat) : Int))], [(1, some (cost_stepK2 n)), (2, some (cost_stepK3 loads)), (3, some (cost_stepK4 bores)), (4, some (cost_stepK5 n loads bores need)), (5, some (cost_stepK1 n need)), (1007, some (cost_stepK6 node vac))]⟩) (fun zz => (zz ≤ bores.length)) (fun zz => bores.length - zz) 0 (by first | omega | rfl | assumption | (simp; done))
      (Ent.ren [] rfl rfl (by kernel_rfl) ⟨rfl, rfl, rfl, rfl, (slot_i rfl (by first | rfl | omega | assumption | (exact (refC_zero n.pipes loads bores need node vac).symm))), rfl, trivial⟩ (cro rfl (cro rfl (cro rfl (cmp_ rfl (fun _ h => h) (crr rfl rfl (cbl rfl rfl trivial)))))) (by kernel_rfl)) fun zz hp => ?_
  obtain ⟨k, rfl⟩ : ∃ x, x = zz := ⟨_, rfl⟩
  have hk := hp
  show AW _ E _ _ ⟨49, [5, 1, 2, 3, 4], [(0, .l (.ref 5 0)), (1, .i ((node : Nat) : Int)), (2, .i vac), (7, .l (.ref 1007 0)), (10, .i (refC (bTo n.pipes loads bores need node vac k))), (11, .i ((k : Nat) : Int))], [(1, some (cost_stepK2 n)), (2, some (cost_stepK3 loads)), (3, some (cost_stepK4 bores)), (4, some (cost_stepK5 n loads bores need)), (5, some (cost_stepK1 n need)), (1007, some (cost_stepK6 node vac))]⟩
  refine aw_seq ?_
  refine aw_seq ?_
  refine aw_r []
   ⟨49, [5, 1, 2, 3, 4], [(0, .l (.ref 5 0)), (1, .i ((node : Nat) : Int)), (2, .i vac), (7, .l (.ref 1007 0)), (10, .i (refC (bTo n.pipes loads bores need node vac k))), (11, .i ((k : Nat) : Int)), (32, .b (decide (((k : Nat) : Int) < ((bores.length : Nat) : Int))))], [(1, some (cost_stepK2 n)), (2, some (cost_stepK3 loads)), (3, some (cost_stepK4 bores)), (4, some (cost_stepK5 n loads bores need)), (5, some (cost_stepK1 n need)), (1007, some (cost_stepK6 node vac))]⟩
   [] (by kernel_rfl) trivial ?_
  refine aw_cond (b := decide (((k : Nat) : Int) < ((bores.length : Nat) : Int))) rfl (fun h2 => ?_) (fun h2 => ?_)
  ·
   have h2p : ((k : Nat) : Int) < ((bores.length : Nat) : Int) := dtr h2
   refine aw_skip ?_
   refine aw_seq ?_
   refine aw_block ?_
   refine aw_r [(5, .call [5, 1, 2, 3, 4] (.i (withV n.pipes loads need (atL n.pipes loads bores need) node vac (ix bores k))) [(4, some (cost_stepK5 n loads bores need))])]
    ⟨49, [5, 1, 2, 3, 4], [(0, .l (.ref 5 0)), (1, .i ((node : Nat) : Int)), (2, .i vac), (7, .l (.ref 1007 0)), (10, .i (min (refC (bTo n.pipes loads bores need node vac k)) (withV n.pipes loads need (atL n.pipes loads bores need) node vac (ix bores k)))), (11, .i ((k : Nat) : Int))], [(1, some (cost_stepK2 n)), (2, some (cost_stepK3 loads)), (3, some (cost_stepK4 bores)), (4, some (cost_stepK5 n loads bores need)), (5, some (cost_stepK1 n need)), (1007, some (cost_stepK6 node vac))]⟩
    [CallOK Try.prog 66 [.l (.ref 5 0), .i ((node : Nat) : Int), .i vac, .i ((k : Nat) : Int)] [5, 1, 2, 3, 4] [some (cost_stepK1 n need), some (cost_stepK2 n), some (cost_stepK3 loads), some (cost_stepK4 bores), some (cost_stepK5 n loads bores need)] (.i (withV n.pipes loads need (atL n.pipes loads bores need) node vac (ix bores k))) [(4, some (cost_stepK5 n loads bores need))]] (by kernel_rfl) (al1 (CallFr.to (ih node vac k (by omega) (by omega) (by omega) (by omega) (by omega) (by omega)) [(5, 5), (1, 1), (2, 2), (3, 3), (4, 4)] (by kernel_rfl) (by kernel_rfl) (by kernel_rfl) (by kernel_rfl) (by kernel_rfl) (dem_cons rfl (le_rblk rfl) (dem_cons rfl (le_ro rfl el_rfl) (dem_cons rfl (le_ro rfl el_rfl) (dem_cons rfl (le_ro rfl el_rfl) (dem_cons rfl (le_mp (fun _ h => h)) dem_nil))))))) ?_
   refine aw_r [(1, .num (((k + 1) : Nat) : Int))]
    ⟨49, [5, 1, 2, 3, 4], [(0, .l (.ref 5 0)), (1, .i ((node : Nat) : Int)), (2, .i vac), (7, .l (.ref 1007 0)), (10, .i (min (refC (bTo n.pipes loads bores need node vac k)) (withV n.pipes loads need (atL n.pipes loads bores need) node vac (ix bores k)))), (11, .i (((k + 1) : Nat) : Int))], [(1, some (cost_stepK2 n)), (2, some (cost_stepK3 loads)), (3, some (cost_stepK4 bores)), (4, some (cost_stepK5 n loads bores need)), (5, some (cost_stepK1 n need)), (1007, some (cost_stepK6 node vac))]⟩
    [(((k : Nat) : Int) + 1) = (((k + 1) : Nat) : Int), -9223372036854775808 ≤ (((k + 1) : Nat) : Int) ∧ (((k + 1) : Nat) : Int) < 9223372036854775808] (by kernel_rfl) (al2 (by first | omega | rfl | assumption) (al1 (by first | omega | rfl | assumption))) ?_
   exact ⟨k + 1, (by first | omega | rfl | assumption | (simp; done)), (show bores.length - (k + 1) < bores.length - k by first | omega | rfl | assumption),
       (Ent.ren [] rfl rfl (by kernel_rfl) ⟨rfl, rfl, rfl, rfl, (slot_i rfl (by first | rfl | omega | assumption | (exact (cost_succ H n0 n1 v0 v1 (by omega)).symm))), rfl, trivial⟩ (cro rfl (cro rfl (cro rfl (cmp_ rfl (fun _ h => h) (crr rfl rfl (cbl rfl rfl trivial)))))) (by kernel_rfl))⟩
  ·
   have h2p : ((bores.length : Nat) : Int) ≤ ((k : Nat) : Int) := dlt h2
   refine aw_exit (exit_then (exit_then (exit_in ?_)))
   refine aw_seq ?_
   refine aw_ent (T := ⟨49, [5, 1, 2, 3, 4], [(0, .l (.ref 5 0)), (1, .i ((node : Nat) : Int)), (2, .i vac), (7, .l (.ref 1007 0)), (10, .i (refC ((atL n.pipes loads bores need) node vac))), (11, .i ((k : Nat) : Int)), (32, .b (decide (((k : Nat) : Int) < ((bores.length : Nat) : Int))))], [(1, some (cost_stepK2 n)), (2, some (cost_stepK3 loads)), (3, some (cost_stepK4 bores)), (4, some (cost_stepK5 n loads bores need)), (5, some (cost_stepK1 n need)), (1007, some (cost_stepK6 node vac))]⟩)
       (Ent.ren [] rfl rfl (by kernel_rfl) ⟨rfl, rfl, rfl, rfl, (slot_i rfl (by first | rfl | omega | assumption | (rw [show k = bores.length by omega, bTo_all H.t loads bores need vac n1]))), rfl, rfl, trivial⟩ (cro rfl (cro rfl (cro rfl (cmp_ rfl (fun _ h => h) (crr rfl rfl (cbl rfl rfl trivial)))))) (by kernel_rfl)) ?_
   refine aw_d [(6, .act [4] (.v undef) [(4, some (cost_stepK5 n loads bores need))])]
    ⟨49, [5, 1, 2, 3, 4], [(10, .i (refC ((atL n.pipes loads bores need) node vac)))], [(4, some (cost_stepK5 n loads bores need))]⟩
    [ActOK Try.prog (.mapUpdate 124 (.tmp 45) (.tmp 46) (.tmp 47)) 0 [.ls 4, .agg [.i ((node : Nat) : Int), .i vac], .i (refC ((atL n.pipes loads bores need) node vac))] [4] [some (cost_stepK5 n loads bores need)] (.v undef) [(4, some (cost_stepK5 n loads bores need))]] (by kernel_rfl) (by kernel_rfl) (al1 (cost_put hn60 n1 v0 v1 rfl)) ?_
   refine aw_seq ?_
   refine aw_r []
    ⟨49, [5, 1, 2, 3, 4], [(6, .i (refC ((atL n.pipes loads bores need) node vac)))], [(4, some (cost_stepK5 n loads bores need))]⟩
    [] (by kernel_rfl) trivial ?_
   exact aw_ret ⟨.inr rfl, end_ok ⟨49, [5, 1, 2, 3, 4], [(6, .i (refC ((atL n.pipes loads bores need) node vac)))], [(4, some (cost_stepK5 n loads bores need))]⟩
       (Ent.ren [] rfl rfl (by kernel_rfl) ⟨rfl, trivial⟩ (cmp_ rfl (fun _ h => h) trivial) (by kernel_rfl)) rfl (by kernel_rfl) (wr_cons rfl plain_mp wr_nil) (by kernel_rfl)⟩
theorem cost_all (n : Net) (loads : List Int) (bores : List Bor) (need : Int) (H : PlOk n.pipes loads bores need n.pump) : ∀ f x v, 0 < x → x < n.pipes.length → n.pipes.length - x ≤ f → 0 ≤ v → v ≤ 10000 → CallFr Try.prog 65 [.l (.ref 5 0), .i ((x : Nat) : Int), .i v] [5, 1, 2, 3, 4] [some (.rblk [.i n.pump, .ls 1, .ls 2, .ls 3, .i need, .ls 4]), some (.ro 5 n.pipes.length (Lst eP n.pipes)), some (.ro 1 loads.length (Lst eI loads)), some (.ro 2 bores.length (Lst eO bores)), some (.mp (CostM n.pipes loads bores need))] (.i (refC (atL n.pipes loads bores need x v))) [(4, some (.mp (CostM n.pipes loads bores need)))] := by
  intro f
  induction f with
  | zero => intro x v h0 h1 h2; omega
  | succ f ihf => exact fun x v h0 h1 h2 h3 h4 => cost_step n loads bores need H (f + 1) (fun y u k a b c d e g => with_step n loads bores need H f ihf y a b c u d e k g) x h0 h1 h2 v h3 h4
theorem cost_fr (n : Net) (loads : List Int) (bores : List Bor) (need : Int) (H : PlOk n.pipes loads bores need n.pump) (x : Nat) (v : Int) (h0 : 0 < x) (h1 : x < n.pipes.length) (h2 : 0 ≤ v) (h3 : v ≤ 10000) : CallFr Try.prog 65 [.l (.ref 5 0), .i ((x : Nat) : Int), .i v] [5, 1, 2, 3, 4] [some (.rblk [.i n.pump, .ls 1, .ls 2, .ls 3, .i need, .ls 4]), some (.ro 5 n.pipes.length (Lst eP n.pipes)), some (.ro 1 loads.length (Lst eI loads)), some (.ro 2 bores.length (Lst eO bores)), some (.mp (CostM n.pipes loads bores need))] (.i (refC (atL n.pipes loads bores need x v))) [(4, some (.mp (CostM n.pipes loads bores need)))] := cost_all n loads bores need H n.pipes.length x v h0 h1 (by omega) h2 h3
theorem with_fr (n : Net) (loads : List Int) (bores : List Bor) (need : Int) (H : PlOk n.pipes loads bores need n.pump) (x : Nat) (v : Int) (k : Nat) (h0 : 0 < x) (h1 : x < n.pipes.length) (h2 : 0 ≤ v) (h3 : v ≤ 10000) (h4 : k < bores.length) : CallFr Try.prog 66 [.l (.ref 5 0), .i ((x : Nat) : Int), .i v, .i ((k : Nat) : Int)] [5, 1, 2, 3, 4] [some (.rblk [.i n.pump, .ls 1, .ls 2, .ls 3, .i need, .ls 4]), some (.ro 5 n.pipes.length (Lst eP n.pipes)), some (.ro 1 loads.length (Lst eI loads)), some (.ro 2 bores.length (Lst eO bores)), some (.mp (CostM n.pipes loads bores need))] (.i (withV n.pipes loads need (atL n.pipes loads bores need) x v (ix bores k))) [(4, some (.mp (CostM n.pipes loads bores need)))] := with_step n loads bores need H n.pipes.length (cost_all n loads bores need H n.pipes.length) x h0 h1 (by omega) v h2 h3 k h4
end Go.Proofs.Ytepibjfmeibgcaa
