/- True flows without picks, walked. -/
import Derived.Test.YtepibjfmeibgcaaB7
import Derived.Test.YtepibjfmeibgcaaA26
import Derived.Test.YtepibjfmeibgcaaProg
namespace Go.Proofs.Ytepibjfmeibgcaa
open Go.RowKit
set_option linter.unusedVariables false
def truly_nil_okK1 (flows : List Rng) : Cn := .ro 2 flows.length (Lst eR flows)
def truly_nil_okK2 (k : Nat) (flows : List Rng) : Cn := .vec 52 2 k (Lst eR (pairT (lowF flows) (lowF flows) k))
def truly_nil_okK3 (flows : List Rng) (k : Nat) : Cn := .blk 52 [.i ((ix flows k).low), .i ((ix flows k).high)]
def truly_nil_okK4 (k : Nat) (flows : List Rng) : Cn := .vec 52 2 (k + 1) (Lst eR ((pairT (lowF flows) (lowF flows) k) ++ [(⟨(ix flows k).low, (ix flows k).low⟩ : Rng)]))
def truly_nil_okK5 (flows : List Rng) : Cn := .vec 52 2 flows.length (Lst eR (pairT (lowF flows) (lowF flows) flows.length))
set_option maxRecDepth 100000 in
theorem truly_nil_ok (flows : List Rng) (hn : flows.length ≤ 1000000) (hfb : flowsB flows = true) : CallFr Try.prog 22 [.ls 1, .l (.v (.slice none 0 0))] [1] [some (.ro 2 flows.length (Lst eR flows))] (.tup [.one (.ls 3), .one (.v (.bool true))]) [(3, some (.vec 52 2 flows.length (Lst eR (pairT (lowF flows) (lowF flows) flows.length))))] := by
 refine callFr_of (fn := Try.f22) (by kernel_rfl) rfl (by kernel_rfl) (by kernel_rfl) fun E => ?_
 refine aw_ent (T := ⟨64, [1], [(0, .ls 1), (1, .l (.v (.slice none 0 0)))], [(1, some (truly_nil_okK1 flows))]⟩) (Ent.refl _) ?_
 refine aw_seq ?_
 refine aw_r []
  ⟨64, [1], [(0, .ls 1), (1, .l (.v (.slice none 0 0)))], [(1, some (truly_nil_okK1 flows))]⟩
  [] (by kernel_rfl) trivial ?_
 refine aw_seq ?_
 refine aw_r [(0, .new 1010)]
  ⟨64, [1], [(0, .ls 1), (1, .l (.v (.slice none 0 0))), (6, .ls 1010)], [(1, some (truly_nil_okK1 flows)), (1010, some (.vec 52 2 0 (exEl 2 [])))]⟩
  [] (by kernel_rfl) trivial ?_
 refine aw_seq ?_
 refine aw_seq ?_
 refine aw_r []
  ⟨64, [1], [(0, .ls 1), (1, .l (.v (.slice none 0 0))), (6, .ls 1010), (7, .i 0)], [(1, some (truly_nil_okK1 flows)), (1010, some (.vec 52 2 0 (exEl 2 [])))]⟩
  [] (by kernel_rfl) trivial ?_
 refine aw_block ?_
 refine aw_loop (ι := Nat) (fun zz => ⟨64, [1], [(0, .ls 1), (1, .l (.v (.slice none 0 0))), (6, .ls 9001), (7, .i ((zz : Nat) : Int))], [(1, some (truly_nil_okK1 flows)), (9001, some (truly_nil_okK2 zz flows))]⟩) (fun zz => (zz ≤ flows.length)) (fun zz => flows.length - zz) 0 (by first | omega | rfl | assumption | (simp; done))
     (Ent.ren [(9001, 1010)] rfl rfl (by kernel_rfl) ⟨rfl, rfl, rfl, rfl, trivial⟩ (cro rfl (conts_cons rfl (le_vec rfl (fun i hi => absurd hi (by omega))) trivial)) (by kernel_rfl)) fun zz hp => ?_
 obtain ⟨k, rfl⟩ : ∃ x, x = zz := ⟨_, rfl⟩
 have hk := hp
 show AW _ E _ _ ⟨64, [1], [(0, .ls 1), (1, .l (.v (.slice none 0 0))), (6, .ls 9001), (7, .i ((k : Nat) : Int))], [(1, some (truly_nil_okK1 flows)), (9001, some (truly_nil_okK2 k flows))]⟩
 refine aw_seq ?_
 refine aw_seq ?_
 refine aw_r []
  ⟨64, [1], [(0, .ls 1), (1, .l (.v (.slice none 0 0))), (6, .ls 9001), (7, .i ((k : Nat) : Int)), (14, .b (decide (((k : Nat) : Int) < ((flows.length : Nat) : Int))))], [(1, some (truly_nil_okK1 flows)), (9001, some (truly_nil_okK2 k flows))]⟩
  [] (by kernel_rfl) trivial ?_
 refine aw_cond (b := decide (((k : Nat) : Int) < ((flows.length : Nat) : Int))) rfl (fun h1 => ?_) (fun h1 => ?_)
 ·
  have h1p : ((k : Nat) : Int) < ((flows.length : Nat) : Int) := dtr h1
  refine aw_skip ?_
  refine aw_seq ?_
  refine aw_block ?_
  refine aw_seq ?_
  refine aw_r [(2, .idx k), (4, .new 1008)]
   ⟨64, [1], [(0, .ls 1), (1, .l (.v (.slice none 0 0))), (6, .ls 9001), (7, .i ((k : Nat) : Int)), (8, .l (.ref 1008 0))], [(1, some (truly_nil_okK1 flows)), (1008, some (truly_nil_okK3 flows k)), (9001, some (truly_nil_okK2 k flows))]⟩
   [((k : Nat) : Int) = ((k : Nat) : Int), k < flows.length, k < flows.length] (by kernel_rfl) (al2 (by omega) (al2 (by omega) (al1 (by omega)))) ?_
  refine aw_seq ?_
  refine aw_seq ?_
  have hf := flow_at hfb (show k < flows.length by omega)
  rw [← lowF_ix, ← highF_ix] at hf
  have h2 : (decide ((ix flows k).low < 0)) = false := by refine decide_eq_false ?_; omega
  have h3 : (decide (1000000000 < (ix flows k).high)) = false := by refine decide_eq_false ?_; omega
  refine aw_r [(3, .dec false), (8, .dec false)]
   ⟨64, [1], [(0, .ls 1), (1, .l (.v (.slice none 0 0))), (6, .ls 9001), (7, .i ((k : Nat) : Int)), (8, .l (.ref 1008 0)), (35, .b (decide ((ix flows k).high < (ix flows k).low)))], [(1, some (truly_nil_okK1 flows)), (1008, some (truly_nil_okK3 flows k)), (9001, some (truly_nil_okK2 k flows))]⟩
   [decide ((ix flows k).low < 0) = false, decide (1000000000 < (ix flows k).high) = false] (by kernel_rfl) (al2 h2 (al1 h3)) ?_
  have h4 : (decide ((ix flows k).high < (ix flows k).low)) = false := by refine decide_eq_false ?_; omega
  refine aw_cond (b := decide ((ix flows k).high < (ix flows k).low)) rfl (fun h => Bool.noConfusion (h4.symm.trans h)) (fun _ => ?_)
  refine aw_skip ?_
  refine aw_seq ?_
  refine aw_r []
   ⟨64, [1], [(0, .ls 1), (1, .l (.v (.slice none 0 0))), (6, .ls 9001), (7, .i ((k : Nat) : Int)), (8, .l (.ref 1008 0)), (9, .i ((ix flows k).low))], [(1, some (truly_nil_okK1 flows)), (1008, some (truly_nil_okK3 flows k)), (9001, some (truly_nil_okK2 k flows))]⟩
   [] (by kernel_rfl) trivial ?_
  refine aw_seq ?_
  refine aw_seq ?_
  refine aw_r []
   ⟨64, [1], [(0, .ls 1), (1, .l (.v (.slice none 0 0))), (6, .ls 9001), (7, .i ((k : Nat) : Int)), (8, .l (.ref 1008 0)), (9, .i ((ix flows k).low)), (41, .b (decide (((k : Nat) : Int) < 0)))], [(1, some (truly_nil_okK1 flows)), (1008, some (truly_nil_okK3 flows k)), (9001, some (truly_nil_okK2 k flows))]⟩
   [] (by kernel_rfl) trivial ?_
  have h5 : (decide (((k : Nat) : Int) < 0)) = false := by refine decide_eq_false ?_; omega
  refine aw_cond (b := decide (((k : Nat) : Int) < 0)) rfl (fun h => Bool.noConfusion (h5.symm.trans h)) (fun _ => ?_)
  refine aw_skip ?_
  refine aw_r [(4, .new 1061), (5, .lst 1062 (k + 1) (Lst eR ((pairT (lowF flows) (lowF flows) k) ++ [(⟨(ix flows k).low, (ix flows k).low⟩ : Rng)])))]
   ⟨64, [1], [(0, .ls 1), (1, .l (.v (.slice none 0 0))), (6, .ls 1062), (7, .i ((k : Nat) : Int))], [(1, some (truly_nil_okK1 flows)), (1062, some (truly_nil_okK4 k flows))]⟩
   [k + 1 ≤ 1000000000000, (k + 1) * 16 ≤ 140737488355328, AppOk 2 k 1 (Lst eR (pairT (lowF flows) (lowF flows) k)) (exEl 2 [.i ((ix flows k).low), .i ((ix flows k).low)]) (k + 1) (Lst eR ((pairT (lowF flows) (lowF flows) k) ++ [(⟨(ix flows k).low, (ix flows k).low⟩ : Rng)]))] (by kernel_rfl) (al2 (by omega) (al2 (by omega) (al1 (app_one (by first | rfl | omega | (rw [pairT_len] <;> omega)) (by first | rfl | omega | (rw [pairT_len] <;> omega)) (fun | 0, _ => rfl | 1, _ => rfl | (n + 2), h => absurd h (by omega)))))) ?_
  refine aw_r [(1, .num (((k + 1) : Nat) : Int))]
   ⟨64, [1], [(0, .ls 1), (1, .l (.v (.slice none 0 0))), (6, .ls 1062), (7, .i (((k + 1) : Nat) : Int))], [(1, some (truly_nil_okK1 flows)), (1062, some (truly_nil_okK4 k flows))]⟩
   [(((k : Nat) : Int) + 1) = (((k + 1) : Nat) : Int), -9223372036854775808 ≤ (((k + 1) : Nat) : Int) ∧ (((k + 1) : Nat) : Int) < 9223372036854775808] (by kernel_rfl) (al2 (by omega) (al1 (by omega))) ?_
  exact ⟨k + 1, (by first | omega | rfl | assumption | (simp; done)), (show flows.length - (k + 1) < flows.length - k by first | omega | rfl | assumption),
      (Ent.ren [(9001, 1062)] rfl rfl (by kernel_rfl) ⟨rfl, rfl, rfl, rfl, trivial⟩ (cro rfl (conts_cons rfl (le_vec rfl (lst_eq (by first | rfl | omega | assumption | (rw [pairT_succ]; rfl)))) trivial)) (by kernel_rfl))⟩
 ·
  have h1p : ((flows.length : Nat) : Int) ≤ ((k : Nat) : Int) := dlt h1
  refine aw_exit (exit_then (exit_then (exit_in ?_)))
  refine aw_seq ?_
  refine aw_r []
   ⟨64, [1], [(4, .ls 9001), (5, .b true)], [(9001, some (truly_nil_okK2 k flows))]⟩
   [] (by kernel_rfl) trivial ?_
  exact aw_ret ⟨.inr rfl, end_ok ⟨64, [1], [(4, .ls 3), (5, .b true)], [(3, some (truly_nil_okK5 flows))]⟩
      (Ent.ren [(3, 9001)] rfl rfl (by kernel_rfl) ⟨rfl, rfl, trivial⟩ (conts_cons rfl (le_vec (by first | rfl | omega | assumption | (rw [show k = flows.length by omega])) (lst_eq (by first | rfl | omega | assumption | (rw [show k = flows.length by omega])))) trivial) (by kernel_rfl)) rfl (by kernel_rfl) (wr_cons rfl (plain_Lst plain_eR) wr_nil) (by kernel_rfl)⟩
def truly_nil_badK1 (flows : List Rng) : Cn := .ro 2 flows.length (Lst eR flows)
def truly_nil_badK2 (k : Nat) (flows : List Rng) : Cn := .vec 52 2 k (Lst eR (pairT (lowF flows) (lowF flows) k))
def truly_nil_badK3 (flows : List Rng) (k : Nat) : Cn := .blk 52 [.i ((ix flows k).low), .i ((ix flows k).high)]
def truly_nil_badK4 (k : Nat) (flows : List Rng) : Cn := .vec 52 2 (k + 1) (Lst eR ((pairT (lowF flows) (lowF flows) k) ++ [(⟨(ix flows k).low, (ix flows k).low⟩ : Rng)]))
set_option maxRecDepth 100000 in
theorem truly_nil_bad (flows : List Rng) (hn : flows.length ≤ 1000000) (hfb : flowsB flows = false) : CallFr Try.prog 22 [.ls 1, .l (.v (.slice none 0 0))] [1] [some (.ro 2 flows.length (Lst eR flows))] (.tup [.one (.v (.slice none 0 0)), .one (.v (.bool false))]) [] := by
 refine callFr_of (fn := Try.f22) (by kernel_rfl) rfl (by kernel_rfl) (by kernel_rfl) fun E => ?_
 refine aw_ent (T := ⟨64, [1], [(0, .ls 1), (1, .l (.v (.slice none 0 0)))], [(1, some (truly_nil_badK1 flows))]⟩) (Ent.refl _) ?_
 refine aw_seq ?_
 refine aw_r []
  ⟨64, [1], [(0, .ls 1), (1, .l (.v (.slice none 0 0)))], [(1, some (truly_nil_badK1 flows))]⟩
  [] (by kernel_rfl) trivial ?_
 refine aw_seq ?_
 refine aw_r [(0, .new 1010)]
  ⟨64, [1], [(0, .ls 1), (1, .l (.v (.slice none 0 0))), (6, .ls 1010)], [(1, some (truly_nil_badK1 flows)), (1010, some (.vec 52 2 0 (exEl 2 [])))]⟩
  [] (by kernel_rfl) trivial ?_
 refine aw_seq ?_
 refine aw_seq ?_
 refine aw_r []
  ⟨64, [1], [(0, .ls 1), (1, .l (.v (.slice none 0 0))), (6, .ls 1010), (7, .i 0)], [(1, some (truly_nil_badK1 flows)), (1010, some (.vec 52 2 0 (exEl 2 [])))]⟩
  [] (by kernel_rfl) trivial ?_
 refine aw_block ?_
 refine aw_loop (ι := Nat) (fun zz => ⟨64, [1], [(0, .ls 1), (1, .l (.v (.slice none 0 0))), (6, .ls 9001), (7, .i ((zz : Nat) : Int))], [(1, some (truly_nil_badK1 flows)), (9001, some (truly_nil_badK2 zz flows))]⟩) (fun zz => (zz ≤ flows.length) ∧ (flowsB (flows.take zz) = true)) (fun zz => flows.length - zz) 0 ⟨(by first | omega | rfl | assumption | (simp; done)), (by rfl)⟩
     (Ent.ren [(9001, 1010)] rfl rfl (by kernel_rfl) ⟨rfl, rfl, rfl, rfl, trivial⟩ (cro rfl (conts_cons rfl (le_vec rfl (fun i hi => absurd hi (by omega))) trivial)) (by kernel_rfl)) fun zz hp => ?_
 obtain ⟨k, rfl⟩ : ∃ x, x = zz := ⟨_, rfl⟩
 obtain ⟨hk, hpre⟩ := hp
 show AW _ E _ _ ⟨64, [1], [(0, .ls 1), (1, .l (.v (.slice none 0 0))), (6, .ls 9001), (7, .i ((k : Nat) : Int))], [(1, some (truly_nil_badK1 flows)), (9001, some (truly_nil_badK2 k flows))]⟩
 refine aw_seq ?_
 refine aw_seq ?_
 refine aw_r []
  ⟨64, [1], [(0, .ls 1), (1, .l (.v (.slice none 0 0))), (6, .ls 9001), (7, .i ((k : Nat) : Int)), (14, .b (decide (((k : Nat) : Int) < ((flows.length : Nat) : Int))))], [(1, some (truly_nil_badK1 flows)), (9001, some (truly_nil_badK2 k flows))]⟩
  [] (by kernel_rfl) trivial ?_
 refine aw_cond (b := decide (((k : Nat) : Int) < ((flows.length : Nat) : Int))) rfl (fun h1 => ?_) (fun h1 => ?_)
 ·
  have h1p : ((k : Nat) : Int) < ((flows.length : Nat) : Int) := dtr h1
  refine aw_skip ?_
  refine aw_seq ?_
  refine aw_block ?_
  refine aw_seq ?_
  refine aw_r [(2, .idx k), (4, .new 1008)]
   ⟨64, [1], [(0, .ls 1), (1, .l (.v (.slice none 0 0))), (6, .ls 9001), (7, .i ((k : Nat) : Int)), (8, .l (.ref 1008 0))], [(1, some (truly_nil_badK1 flows)), (1008, some (truly_nil_badK3 flows k)), (9001, some (truly_nil_badK2 k flows))]⟩
   [((k : Nat) : Int) = ((k : Nat) : Int), k < flows.length, k < flows.length] (by kernel_rfl) (al2 (by omega) (al2 (by omega) (al1 (by omega)))) ?_
  refine aw_seq ?_
  refine aw_seq ?_
  rcases Bool.eq_false_or_eq_true (decide ((ix flows k).low < 0)) with h2 | h2
  ·
   have h2p : (ix flows k).low < 0 := dtr h2
   refine aw_r [(3, .dec true)]
    ⟨64, [1], [(0, .ls 1), (1, .l (.v (.slice none 0 0))), (6, .ls 9001), (7, .i ((k : Nat) : Int)), (8, .l (.ref 1008 0)), (35, .b true)], [(1, some (truly_nil_badK1 flows)), (1008, some (truly_nil_badK3 flows k)), (9001, some (truly_nil_badK2 k flows))]⟩
    [decide ((ix flows k).low < 0) = true] (by kernel_rfl) (al1 h2) ?_
   refine aw_true rfl ?_
   refine aw_seq ?_
   refine aw_r []
    ⟨64, [1], [(4, .l (.v (.slice none 0 0))), (5, .b false)], []⟩
    [] (by kernel_rfl) trivial ?_
   exact aw_ret (ret_then (ret_block (ret_then (ret_then (ret_block (ret_then ⟨.inr rfl, end_ok ⟨64, [1], [(4, .l (.v (.slice none 0 0))), (5, .b false)], []⟩
       (Ent.ren [] rfl rfl (by kernel_rfl) ⟨rfl, rfl, trivial⟩ trivial (by kernel_rfl)) rfl (by kernel_rfl) wr_nil (by kernel_rfl)⟩))))))
  ·
   have h2p : 0 ≤ (ix flows k).low := dlt h2
   rcases Bool.eq_false_or_eq_true (decide (1000000000 < (ix flows k).high)) with h3 | h3
   ·
    have h3p : 1000000000 < (ix flows k).high := dtr h3
    refine aw_r [(3, .dec false), (8, .dec true)]
     ⟨64, [1], [(0, .ls 1), (1, .l (.v (.slice none 0 0))), (6, .ls 9001), (7, .i ((k : Nat) : Int)), (8, .l (.ref 1008 0)), (35, .b true)], [(1, some (truly_nil_badK1 flows)), (1008, some (truly_nil_badK3 flows k)), (9001, some (truly_nil_badK2 k flows))]⟩
     [decide ((ix flows k).low < 0) = false, decide (1000000000 < (ix flows k).high) = true] (by kernel_rfl) (al2 h2 (al1 h3)) ?_
    refine aw_true rfl ?_
    refine aw_seq ?_
    refine aw_r []
     ⟨64, [1], [(4, .l (.v (.slice none 0 0))), (5, .b false)], []⟩
     [] (by kernel_rfl) trivial ?_
    exact aw_ret (ret_then (ret_block (ret_then (ret_then (ret_block (ret_then ⟨.inr rfl, end_ok ⟨64, [1], [(4, .l (.v (.slice none 0 0))), (5, .b false)], []⟩
        (Ent.ren [] rfl rfl (by kernel_rfl) ⟨rfl, rfl, trivial⟩ trivial (by kernel_rfl)) rfl (by kernel_rfl) wr_nil (by kernel_rfl)⟩))))))
   ·
    have h3p : (ix flows k).high ≤ 1000000000 := dlt h3
    refine aw_r [(3, .dec false), (8, .dec false)]
     ⟨64, [1], [(0, .ls 1), (1, .l (.v (.slice none 0 0))), (6, .ls 9001), (7, .i ((k : Nat) : Int)), (8, .l (.ref 1008 0)), (35, .b (decide ((ix flows k).high < (ix flows k).low)))], [(1, some (truly_nil_badK1 flows)), (1008, some (truly_nil_badK3 flows k)), (9001, some (truly_nil_badK2 k flows))]⟩
     [decide ((ix flows k).low < 0) = false, decide (1000000000 < (ix flows k).high) = false] (by kernel_rfl) (al2 h2 (al1 h3)) ?_
    refine aw_cond (b := decide ((ix flows k).high < (ix flows k).low)) rfl (fun h4 => ?_) (fun h4 => ?_)
    ·
     have h4p : (ix flows k).high < (ix flows k).low := dtr h4
     refine aw_seq ?_
     refine aw_r []
      ⟨64, [1], [(4, .l (.v (.slice none 0 0))), (5, .b false)], []⟩
      [] (by kernel_rfl) trivial ?_
     exact aw_ret (ret_then (ret_block (ret_then (ret_then (ret_block (ret_then ⟨.inr rfl, end_ok ⟨64, [1], [(4, .l (.v (.slice none 0 0))), (5, .b false)], []⟩
         (Ent.ren [] rfl rfl (by kernel_rfl) ⟨rfl, rfl, trivial⟩ trivial (by kernel_rfl)) rfl (by kernel_rfl) wr_nil (by kernel_rfl)⟩))))))
    ·
     have h4p : (ix flows k).low ≤ (ix flows k).high := dlt h4
     refine aw_skip ?_
     refine aw_seq ?_
     refine aw_r []
      ⟨64, [1], [(0, .ls 1), (1, .l (.v (.slice none 0 0))), (6, .ls 9001), (7, .i ((k : Nat) : Int)), (8, .l (.ref 1008 0)), (9, .i ((ix flows k).low))], [(1, some (truly_nil_badK1 flows)), (1008, some (truly_nil_badK3 flows k)), (9001, some (truly_nil_badK2 k flows))]⟩
      [] (by kernel_rfl) trivial ?_
     refine aw_seq ?_
     refine aw_seq ?_
     refine aw_r []
      ⟨64, [1], [(0, .ls 1), (1, .l (.v (.slice none 0 0))), (6, .ls 9001), (7, .i ((k : Nat) : Int)), (8, .l (.ref 1008 0)), (9, .i ((ix flows k).low)), (41, .b (decide (((k : Nat) : Int) < 0)))], [(1, some (truly_nil_badK1 flows)), (1008, some (truly_nil_badK3 flows k)), (9001, some (truly_nil_badK2 k flows))]⟩
      [] (by kernel_rfl) trivial ?_
     have h5 : (decide (((k : Nat) : Int) < 0)) = false := by refine decide_eq_false ?_; omega
     refine aw_cond (b := decide (((k : Nat) : Int) < 0)) rfl (fun h => Bool.noConfusion (h5.symm.trans h)) (fun _ => ?_)
     refine aw_skip ?_
     refine aw_r [(4, .new 1061), (5, .lst 1062 (k + 1) (Lst eR ((pairT (lowF flows) (lowF flows) k) ++ [(⟨(ix flows k).low, (ix flows k).low⟩ : Rng)])))]
      ⟨64, [1], [(0, .ls 1), (1, .l (.v (.slice none 0 0))), (6, .ls 1062), (7, .i ((k : Nat) : Int))], [(1, some (truly_nil_badK1 flows)), (1062, some (truly_nil_badK4 k flows))]⟩
      [k + 1 ≤ 1000000000000, (k + 1) * 16 ≤ 140737488355328, AppOk 2 k 1 (Lst eR (pairT (lowF flows) (lowF flows) k)) (exEl 2 [.i ((ix flows k).low), .i ((ix flows k).low)]) (k + 1) (Lst eR ((pairT (lowF flows) (lowF flows) k) ++ [(⟨(ix flows k).low, (ix flows k).low⟩ : Rng)]))] (by kernel_rfl) (al2 (by omega) (al2 (by omega) (al1 (app_one (by first | rfl | omega | (rw [pairT_len] <;> omega)) (by first | rfl | omega | (rw [pairT_len] <;> omega)) (fun | 0, _ => rfl | 1, _ => rfl | (n + 2), h => absurd h (by omega)))))) ?_
     refine aw_r [(1, .num (((k + 1) : Nat) : Int))]
      ⟨64, [1], [(0, .ls 1), (1, .l (.v (.slice none 0 0))), (6, .ls 1062), (7, .i (((k + 1) : Nat) : Int))], [(1, some (truly_nil_badK1 flows)), (1062, some (truly_nil_badK4 k flows))]⟩
      [(((k : Nat) : Int) + 1) = (((k + 1) : Nat) : Int), -9223372036854775808 ≤ (((k + 1) : Nat) : Int) ∧ (((k + 1) : Nat) : Int) < 9223372036854775808] (by kernel_rfl) (al2 (by omega) (al1 (by omega))) ?_
     exact ⟨k + 1, ⟨(by first | omega | rfl | assumption | (simp; done)), (by rw [flowsB_snoc _ _ (by omega), hpre, ← ix_eq (by omega)]; unfold flowB; rw [inB_mk (by omega), inB_mk (by omega), decide_eq_true (by omega)]; rfl)⟩, (show flows.length - (k + 1) < flows.length - k by first | omega | rfl | assumption),
         (Ent.ren [(9001, 1062)] rfl rfl (by kernel_rfl) ⟨rfl, rfl, rfl, rfl, trivial⟩ (cro rfl (conts_cons rfl (le_vec rfl (lst_eq (by first | rfl | omega | assumption | (rw [pairT_succ]; rfl)))) trivial)) (by kernel_rfl))⟩
 ·
  have h1p : ((flows.length : Nat) : Int) ≤ ((k : Nat) : Int) := dlt h1
  refine aw_exit (exit_then (exit_then (exit_in ?_)))
  refine aw_seq ?_
  exact absurd hpre (by rw [List.take_of_length_le (by omega), hfb]; exact Bool.false_ne_true)
end Go.Proofs.Ytepibjfmeibgcaa
