/- Cut, walked. -/
import Derived.Test.YtepibjfmeibgcaaB7
import Derived.Test.YtepibjfmeibgcaaCt
import Derived.Test.YtepibjfmeibgcaaProg
namespace Go.Proofs.Ytepibjfmeibgcaa
open Go.RowKit
set_option linter.unusedVariables false
set_option maxHeartbeats 4000000 in
set_option maxRecDepth 100000 in
theorem Cut_bad (n : Net) (node : Int) (hn : n.pipes.length ≤ maxLen) (h0 : -9223372036854775808 ≤ node) (h1 : node < 9223372036854775808) (hbad : netB n = false) : CallFr Try.prog 49 [.agg [.i n.pump, .ls 1], .i node] [1] [some (.ro 5 n.pipes.length (Lst eP n.pipes))] (.tup [.agg [.i 0, .v (.slice none 0 0)], .one (.v (.slice none 0 0)), .one (.i 2)]) [] := by
  have hML : maxLen = 9223372036854775807 := rfl
  refine callFr_of (fn := Try.f49) (by kernel_rfl) rfl (by kernel_rfl) (by kernel_rfl) fun E => ?_
  refine aw_ent (T := ⟨70, [1], [(0, .agg [.i n.pump, .ls 1]), (1, .i node)], [(1, some (.ro 5 n.pipes.length (Lst eP n.pipes)))]⟩) (Ent.refl _) ?_
  refine aw_seq ?_
  refine aw_region [(0, .new 1002), (1, .new 1004)] [1, 2, 4, 5] [1, 1002, 1004]
      ⟨70, [1], [(1, .i node), (2, .l (.ref 1002 0)), (4, .l (.ref 1004 0)), (5, .l (.v (.slice none 0 0)))], [(1, some (.ro 5 n.pipes.length (Lst eP n.pipes))), (1002, some (.blk 24 [.i n.pump, .ls 1])), (1004, some (.blk 24 [.i 0, .v (.slice none 0 0)]))]⟩
      [] (by kernel_rfl) trivial ?_
  refine aw_seq ?_
  have v1 : CallOK Try.prog 69 [.agg [.i n.pump, .ls 1], .ls 1015] [1, 1015] [some (.ro 5 n.pipes.length (Lst eP n.pipes)), some (.vec 3 1 1 (exEl 1 [.i node]))] (.tup [.agg [.i 0, .v (.slice none 0 0)], .one (.i 2)]) [] := (CallFr.to (open_bad_fr n node (by omega) hbad) [(1, 1), (2, 1015)] (by kernel_rfl) (by kernel_rfl) (by kernel_rfl) (by kernel_rfl) (by kernel_rfl) (dem_cons rfl (le_ro rfl el_rfl) (dem_cons rfl (le_vec_ro rfl (fun | 0, _ => (fun | 0, _ => rfl | 1, _ => rfl | 2, _ => rfl | 3, _ => rfl | 4, _ => rfl | (n+5), h => absurd h (by omega)) | (n+1), h => absurd h (by omega))) dem_nil)))
  refine aw_region [(2, .new 1015), (3, .call [1, 1015] (.tup [.agg [.i 0, .v (.slice none 0 0)], .one (.i 2)]) []), (7, .new 1007)] [1, 2, 4, 5, 6, 7] [1, 1002, 1004, 1007]
      ⟨70, [1], [(1, .i node), (2, .l (.ref 1002 0)), (4, .l (.ref 1004 0)), (5, .l (.v (.slice none 0 0))), (6, .i 2), (7, .l (.ref 1007 0))], [(1, some (.ro 5 n.pipes.length (Lst eP n.pipes))), (1002, some (.blk 24 [.i n.pump, .ls 1])), (1004, some (.blk 24 [.i 0, .v (.slice none 0 0)])), (1007, some (.blk 111 [.i 0, .v (.slice none 0 0)]))]⟩
      [CallOK Try.prog 69 [.agg [.i n.pump, .ls 1], .ls 1015] [1, 1015] [some (.ro 5 n.pipes.length (Lst eP n.pipes)), some (.vec 3 1 1 (exEl 1 [.i node]))] (.tup [.agg [.i 0, .v (.slice none 0 0)], .one (.i 2)]) []] (by kernel_rfl) v1 ?_
  clear v1
  refine aw_seq ?_
  refine aw_block ?_
  refine aw_seq ?_
  refine aw_region [] [1, 2, 4, 5, 6, 7, 19] [1, 1002, 1004, 1007]
      ⟨70, [1], [(1, .i node), (2, .l (.ref 1002 0)), (4, .l (.ref 1004 0)), (5, .l (.v (.slice none 0 0))), (6, .i 2), (7, .l (.ref 1007 0)), (19, .b (decide ((2 : Int) ≠ (0 : Int))))], [(1, some (.ro 5 n.pipes.length (Lst eP n.pipes))), (1002, some (.blk 24 [.i n.pump, .ls 1])), (1004, some (.blk 24 [.i 0, .v (.slice none 0 0)])), (1007, some (.blk 111 [.i 0, .v (.slice none 0 0)]))]⟩
      [] (by kernel_rfl) trivial ?_
  have h2 : (decide ((2 : Int) ≠ (0 : Int))) = true := by decide
  refine aw_cond (b := decide ((2 : Int) ≠ (0 : Int))) rfl (fun _ => ?_) (fun h => Bool.noConfusion (h2.symm.trans h))
  refine aw_seq ?_
  refine aw_region [] [4, 5, 6] [1004]
      ⟨70, [1], [(4, .l (.ref 1004 0)), (5, .l (.v (.slice none 0 0))), (6, .i 2)], [(1004, some (.blk 24 [.i 0, .v (.slice none 0 0)]))]⟩
      [] (by kernel_rfl) trivial ?_
  exact aw_ret (ret_block (ret_then ⟨.inr rfl, end_ok ⟨70, [1], [(4, .l (.ref 8004 0)), (5, .l (.v (.slice none 0 0))), (6, .i 2)], [(8004, some (.blk 24 [.i 0, .v (.slice none 0 0)]))]⟩
      (Ent.ren [(8004, 1004)] rfl rfl (by kernel_rfl) (slots_cons rfl (slots_cons rfl (slots_cons rfl slots_nil))) (conts_cons rfl (le_blk rfl) conts_nil) (by kernel_rfl)) rfl (by kernel_rfl) wr_nil (by kernel_rfl)⟩))
set_option maxHeartbeats 4000000 in
set_option maxRecDepth 100000 in
theorem Cut_none (n : Net) (node : Int) (hn : n.pipes.length ≤ maxLen) (h0 : -9223372036854775808 ≤ node) (h1 : node < 9223372036854775808) (hok : netB n = true) (hin : inB 0 ((n.pipes.length : Int) - 1) node = false) : CallFr Try.prog 49 [.agg [.i n.pump, .ls 1], .i node] [1] [some (.ro 5 n.pipes.length (Lst eP n.pipes))] (.tup [.agg [.i 0, .v (.slice none 0 0)], .one (.v (.slice none 0 0)), .one (.i 7)]) [] := by
  have hML : maxLen = 9223372036854775807 := rfl
  refine callFr_of (fn := Try.f49) (by kernel_rfl) rfl (by kernel_rfl) (by kernel_rfl) fun E => ?_
  refine aw_ent (T := ⟨70, [1], [(0, .agg [.i n.pump, .ls 1]), (1, .i node)], [(1, some (.ro 5 n.pipes.length (Lst eP n.pipes)))]⟩) (Ent.refl _) ?_
  refine aw_seq ?_
  refine aw_region [(0, .new 1002), (1, .new 1004)] [1, 2, 4, 5] [1, 1002, 1004]
      ⟨70, [1], [(1, .i node), (2, .l (.ref 1002 0)), (4, .l (.ref 1004 0)), (5, .l (.v (.slice none 0 0)))], [(1, some (.ro 5 n.pipes.length (Lst eP n.pipes))), (1002, some (.blk 24 [.i n.pump, .ls 1])), (1004, some (.blk 24 [.i 0, .v (.slice none 0 0)]))]⟩
      [] (by kernel_rfl) trivial ?_
  refine aw_seq ?_
  have v1 : CallOK Try.prog 69 [.agg [.i n.pump, .ls 1], .ls 1015] [1, 1015] [some (.ro 5 n.pipes.length (Lst eP n.pipes)), some (.vec 3 1 1 (exEl 1 [.i node]))] (.tup [.agg [.i 0, .v (.slice none 0 0)], .one (.i 7)]) [] := (CallFr.to (open_none_fr n node hok hin) [(1, 1), (2, 1015)] (by kernel_rfl) (by kernel_rfl) (by kernel_rfl) (by kernel_rfl) (by kernel_rfl) (dem_cons rfl (le_ro rfl el_rfl) (dem_cons rfl (le_vec_ro rfl (fun | 0, _ => (fun | 0, _ => rfl | 1, _ => rfl | 2, _ => rfl | 3, _ => rfl | 4, _ => rfl | (n+5), h => absurd h (by omega)) | (n+1), h => absurd h (by omega))) dem_nil)))
  refine aw_region [(2, .new 1015), (3, .call [1, 1015] (.tup [.agg [.i 0, .v (.slice none 0 0)], .one (.i 7)]) []), (7, .new 1007)] [1, 2, 4, 5, 6, 7] [1, 1002, 1004, 1007]
      ⟨70, [1], [(1, .i node), (2, .l (.ref 1002 0)), (4, .l (.ref 1004 0)), (5, .l (.v (.slice none 0 0))), (6, .i 7), (7, .l (.ref 1007 0))], [(1, some (.ro 5 n.pipes.length (Lst eP n.pipes))), (1002, some (.blk 24 [.i n.pump, .ls 1])), (1004, some (.blk 24 [.i 0, .v (.slice none 0 0)])), (1007, some (.blk 111 [.i 0, .v (.slice none 0 0)]))]⟩
      [CallOK Try.prog 69 [.agg [.i n.pump, .ls 1], .ls 1015] [1, 1015] [some (.ro 5 n.pipes.length (Lst eP n.pipes)), some (.vec 3 1 1 (exEl 1 [.i node]))] (.tup [.agg [.i 0, .v (.slice none 0 0)], .one (.i 7)]) []] (by kernel_rfl) v1 ?_
  clear v1
  refine aw_seq ?_
  refine aw_block ?_
  refine aw_seq ?_
  refine aw_region [] [1, 2, 4, 5, 6, 7, 19] [1, 1002, 1004, 1007]
      ⟨70, [1], [(1, .i node), (2, .l (.ref 1002 0)), (4, .l (.ref 1004 0)), (5, .l (.v (.slice none 0 0))), (6, .i 7), (7, .l (.ref 1007 0)), (19, .b (decide ((7 : Int) ≠ (0 : Int))))], [(1, some (.ro 5 n.pipes.length (Lst eP n.pipes))), (1002, some (.blk 24 [.i n.pump, .ls 1])), (1004, some (.blk 24 [.i 0, .v (.slice none 0 0)])), (1007, some (.blk 111 [.i 0, .v (.slice none 0 0)]))]⟩
      [] (by kernel_rfl) trivial ?_
  have h2 : (decide ((7 : Int) ≠ (0 : Int))) = true := by decide
  refine aw_cond (b := decide ((7 : Int) ≠ (0 : Int))) rfl (fun _ => ?_) (fun h => Bool.noConfusion (h2.symm.trans h))
  refine aw_seq ?_
  refine aw_region [] [4, 5, 6] [1004]
      ⟨70, [1], [(4, .l (.ref 1004 0)), (5, .l (.v (.slice none 0 0))), (6, .i 7)], [(1004, some (.blk 24 [.i 0, .v (.slice none 0 0)]))]⟩
      [] (by kernel_rfl) trivial ?_
  exact aw_ret (ret_block (ret_then ⟨.inr rfl, end_ok ⟨70, [1], [(4, .l (.ref 8004 0)), (5, .l (.v (.slice none 0 0))), (6, .i 7)], [(8004, some (.blk 24 [.i 0, .v (.slice none 0 0)]))]⟩
      (Ent.ren [(8004, 1004)] rfl rfl (by kernel_rfl) (slots_cons rfl (slots_cons rfl (slots_cons rfl slots_nil))) (conts_cons rfl (le_blk rfl) conts_nil) (by kernel_rfl)) rfl (by kernel_rfl) wr_nil (by kernel_rfl)⟩))
set_option maxHeartbeats 4000000 in
set_option maxRecDepth 100000 in
theorem Cut_zero (n : Net) (hn : n.pipes.length ≤ maxLen) (hok : netB n = true) : CallFr Try.prog 49 [.agg [.i n.pump, .ls 1], .i 0] [1] [some (.ro 5 n.pipes.length (Lst eP n.pipes))] (.tup [.agg [.i 0, .v (.slice none 0 0)], .one (.v (.slice none 0 0)), .one (.i 3)]) [] := by
  have hML : maxLen = 9223372036854775807 := rfl
  have hnl := netB_len hok
  have hin : inB 0 ((n.pipes.length : Int) - 1) 0 = true := inB_mk (by omega)
  refine callFr_of (fn := Try.f49) (by kernel_rfl) rfl (by kernel_rfl) (by kernel_rfl) fun E => ?_
  refine aw_ent (T := ⟨70, [1], [(0, .agg [.i n.pump, .ls 1]), (1, .i 0)], [(1, some (.ro 5 n.pipes.length (Lst eP n.pipes)))]⟩) (Ent.refl _) ?_
  refine aw_seq ?_
  refine aw_region [(0, .new 1002), (1, .new 1004)] [1, 2, 4, 5] [1, 1002, 1004]
      ⟨70, [1], [(1, .i 0), (2, .l (.ref 1002 0)), (4, .l (.ref 1004 0)), (5, .l (.v (.slice none 0 0)))], [(1, some (.ro 5 n.pipes.length (Lst eP n.pipes))), (1002, some (.blk 24 [.i n.pump, .ls 1])), (1004, some (.blk 24 [.i 0, .v (.slice none 0 0)]))]⟩
      [] (by kernel_rfl) trivial ?_
  refine aw_seq ?_
  have v1 : CallOK Try.prog 69 [.agg [.i n.pump, .ls 1], .ls 1015] [1, 1015] [some (.ro 5 n.pipes.length (Lst eP n.pipes)), some (.vec 3 1 1 (exEl 1 [.i 0]))] (.tup [.agg [.i n.pump, .ls 1], .one (.i 0)]) [] := (CallFr.to (open_ok_fr n 0 hok hin) [(1, 1), (2, 1015)] (by kernel_rfl) (by kernel_rfl) (by kernel_rfl) (by kernel_rfl) (by kernel_rfl) (dem_cons rfl (le_ro rfl el_rfl) (dem_cons rfl (le_vec_ro rfl (fun | 0, _ => (fun | 0, _ => rfl | 1, _ => rfl | 2, _ => rfl | 3, _ => rfl | 4, _ => rfl | (n+5), h => absurd h (by omega)) | (n+1), h => absurd h (by omega))) dem_nil)))
  refine aw_region [(2, .new 1015), (3, .call [1, 1015] (.tup [.agg [.i n.pump, .ls 1], .one (.i 0)]) []), (7, .new 1007)] [1, 2, 4, 5, 6, 7] [1, 1002, 1004, 1007]
      ⟨70, [1], [(1, .i 0), (2, .l (.ref 1002 0)), (4, .l (.ref 1004 0)), (5, .l (.v (.slice none 0 0))), (6, .i 0), (7, .l (.ref 1007 0))], [(1, some (.ro 5 n.pipes.length (Lst eP n.pipes))), (1002, some (.blk 24 [.i n.pump, .ls 1])), (1004, some (.blk 24 [.i 0, .v (.slice none 0 0)])), (1007, some (.blk 111 [.i n.pump, .ls 1]))]⟩
      [CallOK Try.prog 69 [.agg [.i n.pump, .ls 1], .ls 1015] [1, 1015] [some (.ro 5 n.pipes.length (Lst eP n.pipes)), some (.vec 3 1 1 (exEl 1 [.i 0]))] (.tup [.agg [.i n.pump, .ls 1], .one (.i 0)]) []] (by kernel_rfl) v1 ?_
  clear v1
  refine aw_seq ?_
  refine aw_block ?_
  refine aw_seq ?_
  refine aw_region [] [1, 2, 4, 5, 6, 7, 19] [1, 1002, 1004, 1007]
      ⟨70, [1], [(1, .i 0), (2, .l (.ref 1002 0)), (4, .l (.ref 1004 0)), (5, .l (.v (.slice none 0 0))), (6, .i 0), (7, .l (.ref 1007 0)), (19, .b (decide ((0 : Int) ≠ (0 : Int))))], [(1, some (.ro 5 n.pipes.length (Lst eP n.pipes))), (1002, some (.blk 24 [.i n.pump, .ls 1])), (1004, some (.blk 24 [.i 0, .v (.slice none 0 0)])), (1007, some (.blk 111 [.i n.pump, .ls 1]))]⟩
      [] (by kernel_rfl) trivial ?_
  have h2 : (decide ((0 : Int) ≠ (0 : Int))) = false := by decide
  refine aw_cond (b := decide ((0 : Int) ≠ (0 : Int))) rfl (fun h => Bool.noConfusion (h2.symm.trans h)) (fun _ => ?_)
  refine aw_seq ?_
  refine aw_region [] [1, 2, 4, 5, 7, 24] [1, 1002, 1004, 1007]
      ⟨70, [1], [(1, .i 0), (2, .l (.ref 1002 0)), (4, .l (.ref 1004 0)), (5, .l (.v (.slice none 0 0))), (7, .l (.ref 1007 0)), (24, .b (decide ((0 : Int) = (0 : Int))))], [(1, some (.ro 5 n.pipes.length (Lst eP n.pipes))), (1002, some (.blk 24 [.i n.pump, .ls 1])), (1004, some (.blk 24 [.i 0, .v (.slice none 0 0)])), (1007, some (.blk 111 [.i n.pump, .ls 1]))]⟩
      [] (by kernel_rfl) trivial ?_
  have h3 : (decide ((0 : Int) = (0 : Int))) = true := by decide
  refine aw_cond (b := decide ((0 : Int) = (0 : Int))) rfl (fun _ => ?_) (fun h => Bool.noConfusion (h3.symm.trans h))
  refine aw_seq ?_
  refine aw_region [] [4, 5, 6] [1004]
      ⟨70, [1], [(4, .l (.ref 1004 0)), (5, .l (.v (.slice none 0 0))), (6, .i 3)], [(1004, some (.blk 24 [.i 0, .v (.slice none 0 0)]))]⟩
      [] (by kernel_rfl) trivial ?_
  exact aw_ret (ret_block (ret_then ⟨.inr rfl, end_ok ⟨70, [1], [(4, .l (.ref 8004 0)), (5, .l (.v (.slice none 0 0))), (6, .i 3)], [(8004, some (.blk 24 [.i 0, .v (.slice none 0 0)]))]⟩
      (Ent.ren [(8004, 1004)] rfl rfl (by kernel_rfl) (slots_cons rfl (slots_cons rfl (slots_cons rfl slots_nil))) (conts_cons rfl (le_blk rfl) conts_nil) (by kernel_rfl)) rfl (by kernel_rfl) wr_nil (by kernel_rfl)⟩))
set_option maxHeartbeats 4000000 in
set_option maxRecDepth 100000 in
theorem Cut_ok (n : Net) (node : Int) (hn : n.pipes.length ≤ maxLen) (h0 : -9223372036854775808 ≤ node) (h1 : node < 9223372036854775808) (hok : netB n = true) (hin : inB 0 ((n.pipes.length : Int) - 1) node = true) (hnz : node ≠ 0) : CallFr Try.prog 49 [.agg [.i n.pump, .ls 1], .i node] [1] [some (.ro 5 n.pipes.length (Lst eP n.pipes))] (.tup [.agg [.i n.pump, .ls 11], .one (.ls 12), .one (.i 0)]) [(11, some (.vec 54 5 ((keptT n.pipes node n.pipes.length).length) (Lst eP (keptT n.pipes node n.pipes.length)))), (12, some (.vec 3 1 ((numT n.pipes node n.pipes.length).length) (Lst eI (numT n.pipes node n.pipes.length))))] := by
  have hML : maxLen = 9223372036854775807 := rfl
  have hnl := netB_len hok
  have ht := netB_tree hok
  have hib := inB_true hin
  refine callFr_of (fn := Try.f49) (by kernel_rfl) rfl (by kernel_rfl) (by kernel_rfl) fun E => ?_
  refine aw_ent (T := ⟨70, [1], [(0, .agg [.i n.pump, .ls 1]), (1, .i node)], [(1, some (.ro 5 n.pipes.length (Lst eP n.pipes)))]⟩) (Ent.refl _) ?_
  refine aw_seq ?_
  refine aw_region [(0, .new 1002), (1, .new 1004)] [1, 2, 4, 5] [1, 1002, 1004]
      ⟨70, [1], [(1, .i node), (2, .l (.ref 1002 0)), (4, .l (.ref 1004 0)), (5, .l (.v (.slice none 0 0)))], [(1, some (.ro 5 n.pipes.length (Lst eP n.pipes))), (1002, some (.blk 24 [.i n.pump, .ls 1])), (1004, some (.blk 24 [.i 0, .v (.slice none 0 0)]))]⟩
      [] (by kernel_rfl) trivial ?_
  refine aw_seq ?_
  have v1 : CallOK Try.prog 69 [.agg [.i n.pump, .ls 1], .ls 1015] [1, 1015] [some (.ro 5 n.pipes.length (Lst eP n.pipes)), some (.vec 3 1 1 (exEl 1 [.i node]))] (.tup [.agg [.i n.pump, .ls 1], .one (.i 0)]) [] := (CallFr.to (open_ok_fr n node hok hin) [(1, 1), (2, 1015)] (by kernel_rfl) (by kernel_rfl) (by kernel_rfl) (by kernel_rfl) (by kernel_rfl) (dem_cons rfl (le_ro rfl el_rfl) (dem_cons rfl (le_vec_ro rfl (fun | 0, _ => (fun | 0, _ => rfl | 1, _ => rfl | 2, _ => rfl | 3, _ => rfl | 4, _ => rfl | (n+5), h => absurd h (by omega)) | (n+1), h => absurd h (by omega))) dem_nil)))
  refine aw_region [(2, .new 1015), (3, .call [1, 1015] (.tup [.agg [.i n.pump, .ls 1], .one (.i 0)]) []), (7, .new 1007)] [1, 2, 4, 5, 6, 7] [1, 1002, 1004, 1007]
      ⟨70, [1], [(1, .i node), (2, .l (.ref 1002 0)), (4, .l (.ref 1004 0)), (5, .l (.v (.slice none 0 0))), (6, .i 0), (7, .l (.ref 1007 0))], [(1, some (.ro 5 n.pipes.length (Lst eP n.pipes))), (1002, some (.blk 24 [.i n.pump, .ls 1])), (1004, some (.blk 24 [.i 0, .v (.slice none 0 0)])), (1007, some (.blk 111 [.i n.pump, .ls 1]))]⟩
      [CallOK Try.prog 69 [.agg [.i n.pump, .ls 1], .ls 1015] [1, 1015] [some (.ro 5 n.pipes.length (Lst eP n.pipes)), some (.vec 3 1 1 (exEl 1 [.i node]))] (.tup [.agg [.i n.pump, .ls 1], .one (.i 0)]) []] (by kernel_rfl) v1 ?_
  clear v1
  refine aw_seq ?_
  refine aw_block ?_
  refine aw_seq ?_
  refine aw_region [] [1, 2, 4, 5, 6, 7, 19] [1, 1002, 1004, 1007]
      ⟨70, [1], [(1, .i node), (2, .l (.ref 1002 0)), (4, .l (.ref 1004 0)), (5, .l (.v (.slice none 0 0))), (6, .i 0), (7, .l (.ref 1007 0)), (19, .b (decide ((0 : Int) ≠ (0 : Int))))], [(1, some (.ro 5 n.pipes.length (Lst eP n.pipes))), (1002, some (.blk 24 [.i n.pump, .ls 1])), (1004, some (.blk 24 [.i 0, .v (.slice none 0 0)])), (1007, some (.blk 111 [.i n.pump, .ls 1]))]⟩
      [] (by kernel_rfl) trivial ?_
  have h2 : (decide ((0 : Int) ≠ (0 : Int))) = false := by decide
  refine aw_cond (b := decide ((0 : Int) ≠ (0 : Int))) rfl (fun h => Bool.noConfusion (h2.symm.trans h)) (fun _ => ?_)
  refine aw_seq ?_
  refine aw_region [] [1, 2, 4, 5, 7, 24] [1, 1002, 1004, 1007]
      ⟨70, [1], [(1, .i node), (2, .l (.ref 1002 0)), (4, .l (.ref 1004 0)), (5, .l (.v (.slice none 0 0))), (7, .l (.ref 1007 0)), (24, .b (decide (node = 0)))], [(1, some (.ro 5 n.pipes.length (Lst eP n.pipes))), (1002, some (.blk 24 [.i n.pump, .ls 1])), (1004, some (.blk 24 [.i 0, .v (.slice none 0 0)])), (1007, some (.blk 111 [.i n.pump, .ls 1]))]⟩
      [] (by kernel_rfl) trivial ?_
  have h3 : (decide (node = 0)) = false := by simpa using hnz
  refine aw_cond (b := decide (node = 0)) rfl (fun h => Bool.noConfusion (h3.symm.trans h)) (fun _ => ?_)
  refine aw_skip ?_
  refine aw_seq ?_
  refine aw_region [] [1, 2, 4, 5, 7] [1, 1002, 1004, 1007]
      ⟨70, [1], [(1, .i node), (2, .l (.ref 1002 0)), (4, .l (.ref 1004 0)), (5, .l (.v (.slice none 0 0))), (7, .l (.ref 1007 0))], [(1, some (.ro 5 n.pipes.length (Lst eP n.pipes))), (1002, some (.blk 24 [.i n.pump, .ls 1])), (1004, some (.blk 24 [.i n.pump, .v (.slice none 0 0)])), (1007, some (.blk 111 [.i n.pump, .ls 1]))]⟩
      [] (by kernel_rfl) trivial ?_
  refine aw_seq ?_
  have v4 : CallOK Try.prog 81 [.agg [.i n.pump, .ls 1], .i node] [1] [some (.ro 5 n.pipes.length (Lst eP n.pipes))] (.ls 10330) [(10330, some (.ro 1 n.pipes.length (Lst eB (behL n.pipes node))))] := (CallFr.to (behind_fr n node hok (by omega)) [(1, 1), (4, 10330)] (by kernel_rfl) (by kernel_rfl) (by kernel_rfl) (by kernel_rfl) (by kernel_rfl) (dem_cons rfl (le_ro rfl el_rfl) dem_nil))
  have v5 : ActOK Try.prog (.makeMap 141 none) 141 [] [] [] (.ls 1034) [(1034, some (.mp (MapI Try.prog 3 0 (fun _ => none))))] := act_makeI
  have v6 : ActOK Try.prog (.insert 141 (.tmp 34) (.const (.int .i64 (-1))) (.const (.int .i64 (-1)))) 0 [.ls 1034, .i (-1), .i (-1)] [1034] [some (.mp (MapI Try.prog 3 0 (fun _ => none)))] (.v undef) [(1034, some (.mp (MapI Try.prog 3 (0 + 1) (putI (fun _ => none) (-1) (-1)))))] := (act_putI (e := 3) (by kernel_rfl) (by kernel_rfl) (.inr rfl) (by first | omega | rfl | assumption) (by first | omega | rfl | assumption) (by first | omega | rfl | assumption))
  refine aw_region [(2, .call [1] (.ls 10330) [(10330, some (.ro 1 n.pipes.length (Lst eB (behL n.pipes node))))]), (3, .act [] (.ls 1034) [(1034, some (.mp (MapI Try.prog 3 0 (fun _ => none))))]), (4, .act [1034] (.v undef) [(1034, some (.mp (MapI Try.prog 3 (0 + 1) (putI (fun _ => none) (-1) (-1)))))])] [2, 4, 5, 8, 9] [1, 1002, 1004, 1034, 10330]
      ⟨70, [1], [(2, .l (.ref 1002 0)), (4, .l (.ref 1004 0)), (5, .l (.v (.slice none 0 0))), (8, .ls 10330), (9, .ls 1034)], [(1, some (.ro 5 n.pipes.length (Lst eP n.pipes))), (1002, some (.blk 24 [.i n.pump, .ls 1])), (1004, some (.blk 24 [.i n.pump, .v (.slice none 0 0)])), (1034, some (.mp (MapI Try.prog 3 (0 + 1) (putI (fun _ => none) (-1) (-1))))), (10330, some (.ro 1 n.pipes.length (Lst eB (behL n.pipes node))))]⟩
      [CallOK Try.prog 81 [.agg [.i n.pump, .ls 1], .i node] [1] [some (.ro 5 n.pipes.length (Lst eP n.pipes))] (.ls 10330) [(10330, some (.ro 1 n.pipes.length (Lst eB (behL n.pipes node))))], ActOK Try.prog (.makeMap 141 none) 141 [] [] [] (.ls 1034) [(1034, some (.mp (MapI Try.prog 3 0 (fun _ => none))))], ActOK Try.prog (.insert 141 (.tmp 34) (.const (.int .i64 (-1))) (.const (.int .i64 (-1)))) 0 [.ls 1034, .i (-1), .i (-1)] [1034] [some (.mp (MapI Try.prog 3 0 (fun _ => none)))] (.v undef) [(1034, some (.mp (MapI Try.prog 3 (0 + 1) (putI (fun _ => none) (-1) (-1)))))]] (by kernel_rfl) ⟨v4, v5, v6⟩ ?_
  clear v4 v5 v6
  refine aw_seq ?_
  refine aw_seq ?_
  refine aw_region [] [4, 5, 8, 9, 37, 38, 39] [1, 1004, 1034, 10330]
      ⟨70, [1], [(4, .l (.ref 1004 0)), (5, .l (.v (.slice none 0 0))), (8, .ls 10330), (9, .ls 1034), (37, .ls 1), (38, .i ((n.pipes.length : Nat) : Int)), (39, .i 0)], [(1, some (.ro 5 n.pipes.length (Lst eP n.pipes))), (1004, some (.blk 24 [.i n.pump, .v (.slice none 0 0)])), (1034, some (.mp (MapI Try.prog 3 (0 + 1) (putI (fun _ => none) (-1) (-1))))), (10330, some (.ro 1 n.pipes.length (Lst eB (behL n.pipes node))))]⟩
      [] (by kernel_rfl) trivial ?_
  refine aw_block ?_
  refine aw_loop (ι := Nat) (fun zz => ⟨70, [1], [(4, .l (.ref 1004 0)), (5, .ls 9102), (8, .ls 10330), (9, .ls 1034), (37, .ls 1), (38, .i ((n.pipes.length : Nat) : Int)), (39, .i ((zz : Nat) : Int))], [(1, some (.ro 5 n.pipes.length (Lst eP n.pipes))), (1004, some (.blk 24 [.i n.pump, .ls 9101])), (1034, some (.mp (MapI Try.prog 3 (zz + 1) (toF n.pipes node zz)))), (9101, some (.vec 54 5 ((keptT n.pipes node zz).length) (Lst eP (keptT n.pipes node zz)))), (9102, some (.vec 3 1 ((numT n.pipes node zz).length) (Lst eI (numT n.pipes node zz)))), (10330, some (.ro 1 n.pipes.length (Lst eB (behL n.pipes node))))]⟩) (fun zz => (zz ≤ n.pipes.length)) (fun zz => n.pipes.length - zz) 0 (by first | omega | rfl | assumption | (simp; done))
      (Ent.trans (Ent.nilSlot 5 70001 3 1 (Lst eI (numT n.pipes node 0)) rfl (by omega) (by kernel_rfl)) (Ent.trans (Ent.nilCell 1004 70002 54 5 24 [.i n.pump, .v (.slice none 0 0)] 1 (Lst eP (keptT n.pipes node 0)) rfl rfl (by omega) (by kernel_rfl) (by kernel_rfl)) (Ent.ren [(9102, 70001), (9101, 70002)] rfl rfl (by kernel_rfl) (slots_cons rfl (slots_cons rfl (slots_cons rfl (slots_cons rfl (slots_cons rfl (slots_cons rfl (slots_cons rfl slots_nil))))))) (conts_cons rfl (le_ro rfl el_rfl) (conts_cons rfl (le_blk rfl) (conts_cons rfl (le_mpI (by omega) (by intro x; first | rfl | omega | assumption | (exact toF_zero _ _ _))) (conts_cons rfl (le_vec (by first | rfl | omega | assumption | (exact toF_zero _ _ _)) el_rfl) (conts_cons rfl (le_vec (by first | rfl | omega | assumption | (exact toF_zero _ _ _)) el_rfl) (conts_cons rfl (le_ro rfl el_rfl) conts_nil)))))) (by kernel_rfl)))) fun zz hp => ?_
  obtain ⟨k, rfl⟩ : ∃ x, x = zz := ⟨_, rfl⟩
  have hk := hp
  have hkl := keptT_len n.pipes node k
  have hnm := numT_len n.pipes node k
  show AW _ E _ _ ⟨70, [1], [(4, .l (.ref 1004 0)), (5, .ls 9102), (8, .ls 10330), (9, .ls 1034), (37, .ls 1), (38, .i ((n.pipes.length : Nat) : Int)), (39, .i ((k : Nat) : Int))], [(1, some (.ro 5 n.pipes.length (Lst eP n.pipes))), (1004, some (.blk 24 [.i n.pump, .ls 9101])), (1034, some (.mp (MapI Try.prog 3 (k + 1) (toF n.pipes node k)))), (9101, some (.vec 54 5 ((keptT n.pipes node k).length) (Lst eP (keptT n.pipes node k)))), (9102, some (.vec 3 1 ((numT n.pipes node k).length) (Lst eI (numT n.pipes node k)))), (10330, some (.ro 1 n.pipes.length (Lst eB (behL n.pipes node))))]⟩
  refine aw_seq ?_
  refine aw_region [] [4, 5, 8, 9, 37, 38, 39, 40] [1, 1004, 1034, 9101, 9102, 10330]
      ⟨70, [1], [(4, .l (.ref 1004 0)), (5, .ls 9102), (8, .ls 10330), (9, .ls 1034), (37, .ls 1), (38, .i ((n.pipes.length : Nat) : Int)), (39, .i ((k : Nat) : Int)), (40, .b (decide (((k : Nat) : Int) < ((n.pipes.length : Nat) : Int))))], [(1, some (.ro 5 n.pipes.length (Lst eP n.pipes))), (1004, some (.blk 24 [.i n.pump, .ls 9101])), (1034, some (.mp (MapI Try.prog 3 (k + 1) (toF n.pipes node k)))), (9101, some (.vec 54 5 ((keptT n.pipes node k).length) (Lst eP (keptT n.pipes node k)))), (9102, some (.vec 3 1 ((numT n.pipes node k).length) (Lst eI (numT n.pipes node k)))), (10330, some (.ro 1 n.pipes.length (Lst eB (behL n.pipes node))))]⟩
      [] (by kernel_rfl) trivial ?_
  refine aw_seq ?_
  refine aw_cond (b := decide (((k : Nat) : Int) < ((n.pipes.length : Nat) : Int))) rfl (fun h7 => ?_) (fun h7 => ?_)
  ·
    have h7p : ((k : Nat) : Int) < ((n.pipes.length : Nat) : Int) := by first | exact of_decide_eq_true h7 | (have := h7; simp at this; first | exact this | omega)
    refine aw_skip ?_
    refine aw_seq ?_
    refine aw_block ?_
    refine aw_seq ?_
    have v8 : ((k : Nat) : Int) = ((k : Nat) : Int) := (by first | omega | rfl | assumption)
    have v9 : k < n.pipes.length := (by first | omega | rfl | assumption)
    have v10 : k < n.pipes.length := (by first | omega | rfl | assumption)
    refine aw_region [(1, .idx k), (3, .new 1011)] [4, 5, 8, 9, 10, 11, 37, 38, 39] [1, 1004, 1011, 1034, 9101, 9102, 10330]
        ⟨70, [1], [(4, .l (.ref 1004 0)), (5, .ls 9102), (8, .ls 10330), (9, .ls 1034), (10, .i ((k : Nat) : Int)), (11, .l (.ref 1011 0)), (37, .ls 1), (38, .i ((n.pipes.length : Nat) : Int)), (39, .i ((k : Nat) : Int))], [(1, some (.ro 5 n.pipes.length (Lst eP n.pipes))), (1004, some (.blk 24 [.i n.pump, .ls 9101])), (1011, some (.blk 54 [.i ((ix n.pipes k).parent), .i ((ix n.pipes k).length), .i ((ix n.pipes k).bore), .i ((ix n.pipes k).drop), .i ((ix n.pipes k).taps)])), (1034, some (.mp (MapI Try.prog 3 (k + 1) (toF n.pipes node k)))), (9101, some (.vec 54 5 ((keptT n.pipes node k).length) (Lst eP (keptT n.pipes node k)))), (9102, some (.vec 3 1 ((numT n.pipes node k).length) (Lst eI (numT n.pipes node k)))), (10330, some (.ro 1 n.pipes.length (Lst eB (behL n.pipes node))))]⟩
        [((k : Nat) : Int) = ((k : Nat) : Int), k < n.pipes.length, k < n.pipes.length] (by kernel_rfl) ⟨v8, v9, v10⟩ ?_
    clear v8 v9 v10
    refine aw_seq ?_
    refine aw_seq ?_
    have hon : ix (behL n.pipes node) k = onB n.pipes node (k : Int) := behL_way ht (by omega) (by omega)
    have v11 : ((k : Nat) : Int) = ((k : Nat) : Int) := (by first | omega | rfl | assumption)
    have v12 : k < n.pipes.length := (by first | omega | rfl | assumption)
    have v13 : k < n.pipes.length := (by first | omega | rfl | assumption)
    refine aw_region [(2, .idx k)] [4, 5, 8, 9, 10, 11, 37, 38, 39, 47] [1, 1004, 1011, 1034, 9101, 9102, 10330]
        ⟨70, [1], [(4, .l (.ref 1004 0)), (5, .ls 9102), (8, .ls 10330), (9, .ls 1034), (10, .i ((k : Nat) : Int)), (11, .l (.ref 1011 0)), (37, .ls 1), (38, .i ((n.pipes.length : Nat) : Int)), (39, .i ((k : Nat) : Int)), (47, .b (ix (behL n.pipes node) k))], [(1, some (.ro 5 n.pipes.length (Lst eP n.pipes))), (1004, some (.blk 24 [.i n.pump, .ls 9101])), (1011, some (.blk 54 [.i ((ix n.pipes k).parent), .i ((ix n.pipes k).length), .i ((ix n.pipes k).bore), .i ((ix n.pipes k).drop), .i ((ix n.pipes k).taps)])), (1034, some (.mp (MapI Try.prog 3 (k + 1) (toF n.pipes node k)))), (9101, some (.vec 54 5 ((keptT n.pipes node k).length) (Lst eP (keptT n.pipes node k)))), (9102, some (.vec 3 1 ((numT n.pipes node k).length) (Lst eI (numT n.pipes node k)))), (10330, some (.ro 1 n.pipes.length (Lst eB (behL n.pipes node))))]⟩
        [((k : Nat) : Int) = ((k : Nat) : Int), k < n.pipes.length, k < n.pipes.length] (by kernel_rfl) ⟨v11, v12, v13⟩ ?_
    clear v11 v12 v13
    refine aw_cond (b := (ix (behL n.pipes node) k)) rfl (fun h14 => ?_) (fun h14 => ?_)
    ·
      refine aw_exit (exit_then (exit_in ?_))
      have v15 : (((k : Nat) : Int) + 1) = (((k + 1) : Nat) : Int) := (by first | omega | rfl | assumption)
      have v16 : -9223372036854775808 ≤ (((k + 1) : Nat) : Int) ∧ (((k + 1) : Nat) : Int) < 9223372036854775808 := (by first | omega | rfl | assumption)
      refine aw_region [(0, .num (((k + 1) : Nat) : Int))] [4, 5, 8, 9, 37, 38, 39] [1, 1004, 1034, 9101, 9102, 10330]
          ⟨70, [1], [(4, .l (.ref 1004 0)), (5, .ls 9102), (8, .ls 10330), (9, .ls 1034), (37, .ls 1), (38, .i ((n.pipes.length : Nat) : Int)), (39, .i (((k + 1) : Nat) : Int))], [(1, some (.ro 5 n.pipes.length (Lst eP n.pipes))), (1004, some (.blk 24 [.i n.pump, .ls 9101])), (1034, some (.mp (MapI Try.prog 3 (k + 1) (toF n.pipes node k)))), (9101, some (.vec 54 5 ((keptT n.pipes node k).length) (Lst eP (keptT n.pipes node k)))), (9102, some (.vec 3 1 ((numT n.pipes node k).length) (Lst eI (numT n.pipes node k)))), (10330, some (.ro 1 n.pipes.length (Lst eB (behL n.pipes node))))]⟩
          [(((k : Nat) : Int) + 1) = (((k + 1) : Nat) : Int), -9223372036854775808 ≤ (((k + 1) : Nat) : Int) ∧ (((k + 1) : Nat) : Int) < 9223372036854775808] (by kernel_rfl) ⟨v15, v16⟩ ?_
      clear v15 v16
      exact ⟨k + 1, (by first | omega | rfl | assumption | (simp; done)), (show n.pipes.length - (k + 1) < n.pipes.length - k by first | omega | rfl | assumption),
          (Ent.ren [] rfl rfl (by kernel_rfl) (slots_cons rfl (slots_cons rfl (slots_cons rfl (slots_cons rfl (slots_cons rfl (slots_cons rfl (slots_cons rfl slots_nil))))))) (conts_cons rfl (le_ro rfl el_rfl) (conts_cons rfl (le_blk rfl) (conts_cons rfl (le_mpI (by omega) (by intro x; first | rfl | omega | assumption | (exact toF_keep _ _ (by rw [← hon]; assumption) x) | (exact toF_skip _ _ (by rw [← hon]; assumption) x) | (rw [numT_keep _ _ (by rw [← hon]; assumption)]; done) | (rw [numT_skip _ _ (by rw [← hon]; assumption)]; done) | (rw [keptT_skip _ _ (by rw [← hon]; assumption)]; done) | (rw [keptT_keep _ _ (by rw [← hon]; assumption), hpar]; rfl) | (rw [keptT_keep _ _ (by rw [← hon]; assumption)]; simp; done) | (rw [numT_keep _ _ (by rw [← hon]; assumption)]; simp; done))) (conts_cons rfl (le_vec (by first | rfl | omega | assumption | (exact toF_keep _ _ (by rw [← hon]; assumption) x) | (exact toF_skip _ _ (by rw [← hon]; assumption) x) | (rw [numT_keep _ _ (by rw [← hon]; assumption)]; done) | (rw [numT_skip _ _ (by rw [← hon]; assumption)]; done) | (rw [keptT_skip _ _ (by rw [← hon]; assumption)]; done) | (rw [keptT_keep _ _ (by rw [← hon]; assumption), hpar]; rfl) | (rw [keptT_keep _ _ (by rw [← hon]; assumption)]; simp; done) | (rw [numT_keep _ _ (by rw [← hon]; assumption)]; simp; done)) (lst_eq (by first | rfl | omega | assumption | (exact toF_keep _ _ (by rw [← hon]; assumption) x) | (exact toF_skip _ _ (by rw [← hon]; assumption) x) | (rw [numT_keep _ _ (by rw [← hon]; assumption)]; done) | (rw [numT_skip _ _ (by rw [← hon]; assumption)]; done) | (rw [keptT_skip _ _ (by rw [← hon]; assumption)]; done) | (rw [keptT_keep _ _ (by rw [← hon]; assumption), hpar]; rfl) | (rw [keptT_keep _ _ (by rw [← hon]; assumption)]; simp; done) | (rw [numT_keep _ _ (by rw [← hon]; assumption)]; simp; done)))) (conts_cons rfl (le_vec (by first | rfl | omega | assumption | (exact toF_keep _ _ (by rw [← hon]; assumption) x) | (exact toF_skip _ _ (by rw [← hon]; assumption) x) | (rw [numT_keep _ _ (by rw [← hon]; assumption)]; done) | (rw [numT_skip _ _ (by rw [← hon]; assumption)]; done) | (rw [keptT_skip _ _ (by rw [← hon]; assumption)]; done) | (rw [keptT_keep _ _ (by rw [← hon]; assumption), hpar]; rfl) | (rw [keptT_keep _ _ (by rw [← hon]; assumption)]; simp; done) | (rw [numT_keep _ _ (by rw [← hon]; assumption)]; simp; done)) (lst_eq (by first | rfl | omega | assumption | (exact toF_keep _ _ (by rw [← hon]; assumption) x) | (exact toF_skip _ _ (by rw [← hon]; assumption) x) | (rw [numT_keep _ _ (by rw [← hon]; assumption)]; done) | (rw [numT_skip _ _ (by rw [← hon]; assumption)]; done) | (rw [keptT_skip _ _ (by rw [← hon]; assumption)]; done) | (rw [keptT_keep _ _ (by rw [← hon]; assumption), hpar]; rfl) | (rw [keptT_keep _ _ (by rw [← hon]; assumption)]; simp; done) | (rw [numT_keep _ _ (by rw [← hon]; assumption)]; simp; done)))) (conts_cons rfl (le_ro rfl el_rfl) conts_nil)))))) (by kernel_rfl))⟩
    ·
      refine aw_skip ?_
      refine aw_seq ?_
      have v17 : ActOK Try.prog (.mapUpdate 141 (.tmp 48) (.tmp 49) (.tmp 51)) 0 [.ls 1034, .i ((k : Nat) : Int), .i (((numT n.pipes node k).length : Nat) : Int)] [1034] [some (.mp (MapI Try.prog 3 (k + 1) (toF n.pipes node k)))] (.v undef) [(1034, some (.mp (MapI Try.prog 3 ((k + 1) + 1) (putI (toF n.pipes node k) ((k : Nat) : Int) (((numT n.pipes node k).length : Nat) : Int)))))] := (act_putI (e := 3) (by kernel_rfl) (by kernel_rfl) (.inl rfl) (by first | omega | rfl | assumption) (by first | omega | rfl | assumption) (by first | omega | rfl | assumption))
      refine aw_region [(4, .act [1034] (.v undef) [(1034, some (.mp (MapI Try.prog 3 ((k + 1) + 1) (putI (toF n.pipes node k) ((k : Nat) : Int) (((numT n.pipes node k).length : Nat) : Int)))))])] [4, 5, 8, 9, 10, 11, 37, 38, 39] [1, 1004, 1011, 1034, 9101, 9102, 10330]
          ⟨70, [1], [(4, .l (.ref 1004 0)), (5, .ls 9102), (8, .ls 10330), (9, .ls 1034), (10, .i ((k : Nat) : Int)), (11, .l (.ref 1011 0)), (37, .ls 1), (38, .i ((n.pipes.length : Nat) : Int)), (39, .i ((k : Nat) : Int))], [(1, some (.ro 5 n.pipes.length (Lst eP n.pipes))), (1004, some (.blk 24 [.i n.pump, .ls 9101])), (1011, some (.blk 54 [.i ((ix n.pipes k).parent), .i ((ix n.pipes k).length), .i ((ix n.pipes k).bore), .i ((ix n.pipes k).drop), .i ((ix n.pipes k).taps)])), (1034, some (.mp (MapI Try.prog 3 ((k + 1) + 1) (putI (toF n.pipes node k) ((k : Nat) : Int) (((numT n.pipes node k).length : Nat) : Int))))), (9101, some (.vec 54 5 ((keptT n.pipes node k).length) (Lst eP (keptT n.pipes node k)))), (9102, some (.vec 3 1 ((numT n.pipes node k).length) (Lst eI (numT n.pipes node k)))), (10330, some (.ro 1 n.pipes.length (Lst eB (behL n.pipes node))))]⟩
          [ActOK Try.prog (.mapUpdate 141 (.tmp 48) (.tmp 49) (.tmp 51)) 0 [.ls 1034, .i ((k : Nat) : Int), .i (((numT n.pipes node k).length : Nat) : Int)] [1034] [some (.mp (MapI Try.prog 3 (k + 1) (toF n.pipes node k)))] (.v undef) [(1034, some (.mp (MapI Try.prog 3 ((k + 1) + 1) (putI (toF n.pipes node k) ((k : Nat) : Int) (((numT n.pipes node k).length : Nat) : Int)))))]] (by kernel_rfl) v17 ?_
      clear v17
      refine aw_seq ?_
      have hof : onB n.pipes node (k : Int) = false := by rw [← hon]; assumption
      have hpar : ((putI (toF n.pipes node k) (k : Int) ((numT n.pipes node k).length : Int)) (ix n.pipes k).parent).getD 0 = newN n.pipes node (ix n.pipes k).parent := by rw [toF_keep _ _ hof]; exact toF_parent ht (by omega) hof
      have hpp := ht k (by omega)
      rw [← ix_par] at hpp
      have v18 : ActOK Try.prog (.lookup 141 (.tmp 52) (.tmp 54) false) 3 [.ls 1034, .i ((ix n.pipes k).parent)] [1034] [some (.mp (MapI Try.prog 3 ((k + 1) + 1) (putI (toF n.pipes node k) ((k : Nat) : Int) (((numT n.pipes node k).length : Nat) : Int))))] (.i (((putI (toF n.pipes node k) ((k : Nat) : Int) (((numT n.pipes node k).length : Nat) : Int)) ((ix n.pipes k).parent)).getD 0)) [] := (act_lookI (e := 3) (by kernel_rfl) (by kernel_rfl) (fun _ => rfl) (by first | omega | rfl | assumption) (by first | omega | rfl | assumption) rfl)
      refine aw_region [(3, .act [1034] (.i (((putI (toF n.pipes node k) ((k : Nat) : Int) (((numT n.pipes node k).length : Nat) : Int)) ((ix n.pipes k).parent)).getD 0)) [])] [4, 5, 8, 9, 10, 11, 37, 38, 39] [1, 1004, 1011, 1034, 9101, 9102, 10330]
          ⟨70, [1], [(4, .l (.ref 1004 0)), (5, .ls 9102), (8, .ls 10330), (9, .ls 1034), (10, .i ((k : Nat) : Int)), (11, .l (.ref 1011 0)), (37, .ls 1), (38, .i ((n.pipes.length : Nat) : Int)), (39, .i ((k : Nat) : Int))], [(1, some (.ro 5 n.pipes.length (Lst eP n.pipes))), (1004, some (.blk 24 [.i n.pump, .ls 9101])), (1011, some (.blk 54 [.i (((putI (toF n.pipes node k) ((k : Nat) : Int) (((numT n.pipes node k).length : Nat) : Int)) ((ix n.pipes k).parent)).getD 0), .i ((ix n.pipes k).length), .i ((ix n.pipes k).bore), .i ((ix n.pipes k).drop), .i ((ix n.pipes k).taps)])), (1034, some (.mp (MapI Try.prog 3 ((k + 1) + 1) (putI (toF n.pipes node k) ((k : Nat) : Int) (((numT n.pipes node k).length : Nat) : Int))))), (9101, some (.vec 54 5 ((keptT n.pipes node k).length) (Lst eP (keptT n.pipes node k)))), (9102, some (.vec 3 1 ((numT n.pipes node k).length) (Lst eI (numT n.pipes node k)))), (10330, some (.ro 1 n.pipes.length (Lst eB (behL n.pipes node))))]⟩
          [ActOK Try.prog (.lookup 141 (.tmp 52) (.tmp 54) false) 3 [.ls 1034, .i ((ix n.pipes k).parent)] [1034] [some (.mp (MapI Try.prog 3 ((k + 1) + 1) (putI (toF n.pipes node k) ((k : Nat) : Int) (((numT n.pipes node k).length : Nat) : Int))))] (.i (((putI (toF n.pipes node k) ((k : Nat) : Int) (((numT n.pipes node k).length : Nat) : Int)) ((ix n.pipes k).parent)).getD 0)) []] (by kernel_rfl) v18 ?_
      clear v18
      have v19 : (keptT n.pipes node k).length + 1 ≤ 1000000000000 := (by first | omega | rfl | assumption)
      have v20 : ((keptT n.pipes node k).length + 1) * 40 ≤ 140737488355328 := (by first | omega | rfl | assumption)
      have v21 : AppOk 5 ((keptT n.pipes node k).length) 1 (Lst eP (keptT n.pipes node k)) (exEl 5 [.i (((putI (toF n.pipes node k) ((k : Nat) : Int) (((numT n.pipes node k).length : Nat) : Int)) ((ix n.pipes k).parent)).getD 0), .i ((ix n.pipes k).length), .i ((ix n.pipes k).bore), .i ((ix n.pipes k).drop), .i ((ix n.pipes k).taps)]) ((keptT n.pipes node k).length + 1) (Lst eP ((keptT n.pipes node k) ++ [(⟨(((putI (toF n.pipes node k) ((k : Nat) : Int) (((numT n.pipes node k).length : Nat) : Int)) ((ix n.pipes k).parent)).getD 0), (ix n.pipes k).length, (ix n.pipes k).bore, (ix n.pipes k).drop, (ix n.pipes k).taps⟩ : Pipe)])) := (app_one (by first | omega | rfl | assumption) (by first | omega | rfl | assumption) (fun | 0, _ => rfl | 1, _ => rfl | 2, _ => rfl | 3, _ => rfl | 4, _ => rfl | (n + 5), h => absurd h (by omega)))
      have v22 : (numT n.pipes node k).length + 1 ≤ 1000000000000 := (by first | omega | rfl | assumption)
      have v23 : ((numT n.pipes node k).length + 1) * 8 ≤ 140737488355328 := (by first | omega | rfl | assumption)
      have v24 : AppOk 1 ((numT n.pipes node k).length) 1 (Lst eI (numT n.pipes node k)) (exEl 1 [.i ((k : Nat) : Int)]) ((numT n.pipes node k).length + 1) (Lst eI ((numT n.pipes node k) ++ [((k : Nat) : Int)])) := (app_one (by first | omega | rfl | assumption) (by first | omega | rfl | assumption) (fun | 0, _ => rfl | (n + 1), h => absurd h (by omega)))
      refine aw_region [(3, .new 1060), (4, .lst 1061 ((keptT n.pipes node k).length + 1) (Lst eP ((keptT n.pipes node k) ++ [(⟨(((putI (toF n.pipes node k) ((k : Nat) : Int) (((numT n.pipes node k).length : Nat) : Int)) ((ix n.pipes k).parent)).getD 0), (ix n.pipes k).length, (ix n.pipes k).bore, (ix n.pipes k).drop, (ix n.pipes k).taps⟩ : Pipe)]))), (7, .new 1064), (8, .lst 1065 ((numT n.pipes node k).length + 1) (Lst eI ((numT n.pipes node k) ++ [((k : Nat) : Int)])))] [4, 5, 8, 9, 37, 38, 39] [1, 1004, 1034, 1061, 1065, 10330]
          ⟨70, [1], [(4, .l (.ref 1004 0)), (5, .ls 1065), (8, .ls 10330), (9, .ls 1034), (37, .ls 1), (38, .i ((n.pipes.length : Nat) : Int)), (39, .i ((k : Nat) : Int))], [(1, some (.ro 5 n.pipes.length (Lst eP n.pipes))), (1004, some (.blk 24 [.i n.pump, .ls 1061])), (1034, some (.mp (MapI Try.prog 3 ((k + 1) + 1) (putI (toF n.pipes node k) ((k : Nat) : Int) (((numT n.pipes node k).length : Nat) : Int))))), (1061, some (.vec 54 5 ((keptT n.pipes node k).length + 1) (Lst eP ((keptT n.pipes node k) ++ [(⟨(((putI (toF n.pipes node k) ((k : Nat) : Int) (((numT n.pipes node k).length : Nat) : Int)) ((ix n.pipes k).parent)).getD 0), (ix n.pipes k).length, (ix n.pipes k).bore, (ix n.pipes k).drop, (ix n.pipes k).taps⟩ : Pipe)])))), (1065, some (.vec 3 1 ((numT n.pipes node k).length + 1) (Lst eI ((numT n.pipes node k) ++ [((k : Nat) : Int)])))), (10330, some (.ro 1 n.pipes.length (Lst eB (behL n.pipes node))))]⟩
          [(keptT n.pipes node k).length + 1 ≤ 1000000000000, ((keptT n.pipes node k).length + 1) * 40 ≤ 140737488355328, AppOk 5 ((keptT n.pipes node k).length) 1 (Lst eP (keptT n.pipes node k)) (exEl 5 [.i (((putI (toF n.pipes node k) ((k : Nat) : Int) (((numT n.pipes node k).length : Nat) : Int)) ((ix n.pipes k).parent)).getD 0), .i ((ix n.pipes k).length), .i ((ix n.pipes k).bore), .i ((ix n.pipes k).drop), .i ((ix n.pipes k).taps)]) ((keptT n.pipes node k).length + 1) (Lst eP ((keptT n.pipes node k) ++ [(⟨(((putI (toF n.pipes node k) ((k : Nat) : Int) (((numT n.pipes node k).length : Nat) : Int)) ((ix n.pipes k).parent)).getD 0), (ix n.pipes k).length, (ix n.pipes k).bore, (ix n.pipes k).drop, (ix n.pipes k).taps⟩ : Pipe)])), (numT n.pipes node k).length + 1 ≤ 1000000000000, ((numT n.pipes node k).length + 1) * 8 ≤ 140737488355328, AppOk 1 ((numT n.pipes node k).length) 1 (Lst eI (numT n.pipes node k)) (exEl 1 [.i ((k : Nat) : Int)]) ((numT n.pipes node k).length + 1) (Lst eI ((numT n.pipes node k) ++ [((k : Nat) : Int)]))] (by kernel_rfl) ⟨v19, v20, v21, v22, v23, v24⟩ ?_
      clear v19 v20 v21 v22 v23 v24
      have v25 : (((k : Nat) : Int) + 1) = (((k + 1) : Nat) : Int) := (by first | omega | rfl | assumption)
      have v26 : -9223372036854775808 ≤ (((k + 1) : Nat) : Int) ∧ (((k + 1) : Nat) : Int) < 9223372036854775808 := (by first | omega | rfl | assumption)
      refine aw_region [(0, .num (((k + 1) : Nat) : Int))] [4, 5, 8, 9, 37, 38, 39] [1, 1004, 1034, 1061, 1065, 10330]
          ⟨70, [1], [(4, .l (.ref 1004 0)), (5, .ls 1065), (8, .ls 10330), (9, .ls 1034), (37, .ls 1), (38, .i ((n.pipes.length : Nat) : Int)), (39, .i (((k + 1) : Nat) : Int))], [(1, some (.ro 5 n.pipes.length (Lst eP n.pipes))), (1004, some (.blk 24 [.i n.pump, .ls 1061])), (1034, some (.mp (MapI Try.prog 3 ((k + 1) + 1) (putI (toF n.pipes node k) ((k : Nat) : Int) (((numT n.pipes node k).length : Nat) : Int))))), (1061, some (.vec 54 5 ((keptT n.pipes node k).length + 1) (Lst eP ((keptT n.pipes node k) ++ [(⟨(((putI (toF n.pipes node k) ((k : Nat) : Int) (((numT n.pipes node k).length : Nat) : Int)) ((ix n.pipes k).parent)).getD 0), (ix n.pipes k).length, (ix n.pipes k).bore, (ix n.pipes k).drop, (ix n.pipes k).taps⟩ : Pipe)])))), (1065, some (.vec 3 1 ((numT n.pipes node k).length + 1) (Lst eI ((numT n.pipes node k) ++ [((k : Nat) : Int)])))), (10330, some (.ro 1 n.pipes.length (Lst eB (behL n.pipes node))))]⟩
          [(((k : Nat) : Int) + 1) = (((k + 1) : Nat) : Int), -9223372036854775808 ≤ (((k + 1) : Nat) : Int) ∧ (((k + 1) : Nat) : Int) < 9223372036854775808] (by kernel_rfl) ⟨v25, v26⟩ ?_
      clear v25 v26
      exact ⟨k + 1, (by first | omega | rfl | assumption | (simp; done)), (show n.pipes.length - (k + 1) < n.pipes.length - k by first | omega | rfl | assumption),
          (Ent.ren [(9102, 1065), (9101, 1061)] rfl rfl (by kernel_rfl) (slots_cons rfl (slots_cons rfl (slots_cons rfl (slots_cons rfl (slots_cons rfl (slots_cons rfl (slots_cons rfl slots_nil))))))) (conts_cons rfl (le_ro rfl el_rfl) (conts_cons rfl (le_blk rfl) (conts_cons rfl (le_mpI (by omega) (by intro x; first | rfl | omega | assumption | (exact toF_keep _ _ (by rw [← hon]; assumption) x) | (exact toF_skip _ _ (by rw [← hon]; assumption) x) | (rw [numT_keep _ _ (by rw [← hon]; assumption)]; done) | (rw [numT_skip _ _ (by rw [← hon]; assumption)]; done) | (rw [keptT_skip _ _ (by rw [← hon]; assumption)]; done) | (rw [keptT_keep _ _ (by rw [← hon]; assumption), hpar]; rfl) | (rw [keptT_keep _ _ (by rw [← hon]; assumption)]; simp; done) | (rw [numT_keep _ _ (by rw [← hon]; assumption)]; simp; done))) (conts_cons rfl (le_vec (by first | rfl | omega | assumption | (exact toF_keep _ _ (by rw [← hon]; assumption) x) | (exact toF_skip _ _ (by rw [← hon]; assumption) x) | (rw [numT_keep _ _ (by rw [← hon]; assumption)]; done) | (rw [numT_skip _ _ (by rw [← hon]; assumption)]; done) | (rw [keptT_skip _ _ (by rw [← hon]; assumption)]; done) | (rw [keptT_keep _ _ (by rw [← hon]; assumption), hpar]; rfl) | (rw [keptT_keep _ _ (by rw [← hon]; assumption)]; simp; done) | (rw [numT_keep _ _ (by rw [← hon]; assumption)]; simp; done)) (lst_eq (by first | rfl | omega | assumption | (exact toF_keep _ _ (by rw [← hon]; assumption) x) | (exact toF_skip _ _ (by rw [← hon]; assumption) x) | (rw [numT_keep _ _ (by rw [← hon]; assumption)]; done) | (rw [numT_skip _ _ (by rw [← hon]; assumption)]; done) | (rw [keptT_skip _ _ (by rw [← hon]; assumption)]; done) | (rw [keptT_keep _ _ (by rw [← hon]; assumption), hpar]; rfl) | (rw [keptT_keep _ _ (by rw [← hon]; assumption)]; simp; done) | (rw [numT_keep _ _ (by rw [← hon]; assumption)]; simp; done)))) (conts_cons rfl (le_vec (by first | rfl | omega | assumption | (exact toF_keep _ _ (by rw [← hon]; assumption) x) | (exact toF_skip _ _ (by rw [← hon]; assumption) x) | (rw [numT_keep _ _ (by rw [← hon]; assumption)]; done) | (rw [numT_skip _ _ (by rw [← hon]; assumption)]; done) | (rw [keptT_skip _ _ (by rw [← hon]; assumption)]; done) | (rw [keptT_keep _ _ (by rw [← hon]; assumption), hpar]; rfl) | (rw [keptT_keep _ _ (by rw [← hon]; assumption)]; simp; done) | (rw [numT_keep _ _ (by rw [← hon]; assumption)]; simp; done)) (lst_eq (by first | rfl | omega | assumption | (exact toF_keep _ _ (by rw [← hon]; assumption) x) | (exact toF_skip _ _ (by rw [← hon]; assumption) x) | (rw [numT_keep _ _ (by rw [← hon]; assumption)]; done) | (rw [numT_skip _ _ (by rw [← hon]; assumption)]; done) | (rw [keptT_skip _ _ (by rw [← hon]; assumption)]; done) | (rw [keptT_keep _ _ (by rw [← hon]; assumption), hpar]; rfl) | (rw [keptT_keep _ _ (by rw [← hon]; assumption)]; simp; done) | (rw [numT_keep _ _ (by rw [← hon]; assumption)]; simp; done)))) (conts_cons rfl (le_ro rfl el_rfl) conts_nil)))))) (by kernel_rfl))⟩
  ·
    have h7p : ((n.pipes.length : Nat) : Int) ≤ ((k : Nat) : Int) := by first | (have := of_decide_eq_false h7; omega) | (have := h7; simp at this; first | exact this | omega)
    refine aw_exit (exit_then (exit_then (exit_in ?_)))
    refine aw_seq ?_
    refine aw_region [] [4, 5, 6] [1004, 9101, 9102]
        ⟨70, [1], [(4, .l (.ref 1004 0)), (5, .ls 9102), (6, .i 0)], [(1004, some (.blk 24 [.i n.pump, .ls 9101])), (9101, some (.vec 54 5 ((keptT n.pipes node k).length) (Lst eP (keptT n.pipes node k)))), (9102, some (.vec 3 1 ((numT n.pipes node k).length) (Lst eI (numT n.pipes node k))))]⟩
        [] (by kernel_rfl) trivial ?_
    exact aw_ret ⟨.inr rfl, end_ok ⟨70, [1], [(4, .l (.ref 8004 0)), (5, .ls 12), (6, .i 0)], [(11, some (.vec 54 5 ((keptT n.pipes node n.pipes.length).length) (Lst eP (keptT n.pipes node n.pipes.length)))), (12, some (.vec 3 1 ((numT n.pipes node n.pipes.length).length) (Lst eI (numT n.pipes node n.pipes.length)))), (8004, some (.blk 24 [.i n.pump, .ls 11]))]⟩
        (Ent.ren [(8004, 1004), (12, 9102), (11, 9101)] rfl rfl (by kernel_rfl) (slots_cons rfl (slots_cons rfl (slots_cons rfl slots_nil))) (conts_cons rfl (le_vec (by first | rfl | omega | assumption | (rw [show k = n.pipes.length by omega])) (lst_eq (by first | rfl | omega | assumption | (rw [show k = n.pipes.length by omega])))) (conts_cons rfl (le_vec (by first | rfl | omega | assumption | (rw [show k = n.pipes.length by omega])) (lst_eq (by first | rfl | omega | assumption | (rw [show k = n.pipes.length by omega])))) (conts_cons rfl (le_blk rfl) conts_nil))) (by kernel_rfl)) rfl (by kernel_rfl) (wr_cons rfl (plain_Lst plain_eP) (wr_cons rfl (plain_Lst plain_eI) wr_nil)) (by kernel_rfl)⟩
end Go.Proofs.Ytepibjfmeibgcaa
/- Graft, walked, and what the document says of it. -/
namespace Go.Proofs.Ytepibjfmeibgcaa
open Go.RowKit
set_option linter.unusedVariables false
/-- A pipe of other tubing, behind so many nodes. -/
def graftP (L : Nat) (node : Int) (q : Pipe) : Pipe := { q with parent := if q.parent = 0 then node else q.parent + ((L : Int) - 1) }
def graftT (ps qs : List Pipe) (node : Int) (k : Nat) : List Pipe := ps ++ ((qs.drop 1).take k).map (graftP ps.length node)
theorem graftT_zero (ps qs : List Pipe) (node : Int) : graftT ps qs node 0 = ps := by simp [graftT]
theorem graftT_len (ps qs : List Pipe) (node : Int) {k : Nat} (h : k ≤ qs.length - 1) : (graftT ps qs node k).length = ps.length + k := by
  unfold graftT; rw [List.length_append, List.length_map, List.length_take, List.length_drop]; omega
theorem graftT_succ (ps qs : List Pipe) (node : Int) {k : Nat} (h : 1 + k < qs.length) : graftT ps qs node (k + 1) = graftT ps qs node k ++ [graftP ps.length node (ix qs (1 + k))] := by
  unfold graftT
  rw [List.take_succ_eq_append_getElem (by rw [List.length_drop]; omega), List.map_append, ← List.append_assoc, List.getElem_drop, ix_eq h]; rfl
theorem graftP_zero (L : Nat) (node : Int) {q : Pipe} (h : q.parent = 0) : graftP L node q = { q with parent := node } := by unfold graftP; rw [if_pos h]
theorem graftP_pos (L : Nat) (node : Int) {q : Pipe} (h : q.parent ≠ 0) : graftP L node q = { q with parent := q.parent + ((L : Int) - 1) } := by unfold graftP; rw [if_neg h]
set_option maxRecDepth 100000 in
theorem clone_fr (l : List Pipe) (h0 : 0 < l.length) (h1 : l.length ≤ 1000000) : CallFr Try.prog 83 [.ls 1] [1] [some (.ro 5 l.length (Lst eP l))] (.ls 2) [(2, some (.vec 54 5 l.length (Lst eP l)))] := by
  refine callFr_of (fn := Try.f83) (by kernel_rfl) rfl (by kernel_rfl) (by kernel_rfl) fun E => ?_
  refine aw_ent (T := ⟨8, [1], [(0, .ls 1)], [(1, some (.ro 5 l.length (Lst eP l)))]⟩) (Ent.refl _) ?_
  refine aw_seq ?_
  refine aw_region [] [0] [1]
      ⟨8, [1], [(0, .ls 1)], [(1, some (.ro 5 l.length (Lst eP l)))]⟩
      [] (by kernel_rfl) trivial ?_
  refine aw_seq ?_
  refine aw_seq ?_
  have v1 : ActOK Try.prog (.binOp .eql 22 (.tmp 3) (.const (.slice none 0 0)) 22) 4 [.ls 1, .v (.slice none 0 0)] [1] [some (.ro 5 l.length (Lst eP l))] (.b false) [] := (act_nonil (u := 54) (by kernel_rfl) (by first | omega | rfl | assumption))
  refine aw_region [(1, .act [1] (.b false) [])] [0, 4] [1]
      ⟨8, [1], [(0, .ls 1), (4, .b false)], [(1, some (.ro 5 l.length (Lst eP l)))]⟩
      [ActOK Try.prog (.binOp .eql 22 (.tmp 3) (.const (.slice none 0 0)) 22) 4 [.ls 1, .v (.slice none 0 0)] [1] [some (.ro 5 l.length (Lst eP l))] (.b false) []] (by kernel_rfl) v1 ?_
  clear v1
  refine aw_false rfl ?_
  refine aw_skip ?_
  refine aw_seq ?_
  have v2 : 0 + l.length ≤ 1000000000000 := (by first | omega | rfl | assumption)
  have v3 : (0 + l.length) * 40 ≤ 140737488355328 := (by first | omega | rfl | assumption)
  have v4 : AppOk 5 0 l.length (exEl 5 []) (Lst eP l) l.length (Lst eP l) := (app_nil (by first | omega | rfl | assumption))
  refine aw_region [(0, .new 1005), (2, .lst 1007 l.length (Lst eP l))] [2] [1007]
      ⟨8, [1], [(2, .ls 1007)], [(1007, some (.vec 54 5 l.length (Lst eP l)))]⟩
      [0 + l.length ≤ 1000000000000, (0 + l.length) * 40 ≤ 140737488355328, AppOk 5 0 l.length (exEl 5 []) (Lst eP l) l.length (Lst eP l)] (by kernel_rfl) ⟨v2, v3, v4⟩ ?_
  clear v2 v3 v4
  exact aw_ret ⟨.inr rfl, end_ok ⟨8, [1], [(2, .ls 2)], [(2, some (.vec 54 5 l.length (Lst eP l)))]⟩
      (Ent.ren [(2, 1007)] rfl rfl (by kernel_rfl) (slots_cons rfl slots_nil) (conts_cons rfl (le_vec rfl el_rfl) conts_nil) (by kernel_rfl)) rfl (by kernel_rfl) (wr_cons rfl (plain_Lst plain_eP) wr_nil) (by kernel_rfl)⟩
set_option maxHeartbeats 4000000 in
set_option maxRecDepth 100000 in
theorem Graft_bad (n o : Net) (node : Int) (hn : n.pipes.length ≤ maxLen) (ho : o.pipes.length ≤ maxLen) (h0 : -9223372036854775808 ≤ node) (h1 : node < 9223372036854775808) (hbad : netB n = false) : CallFr Try.prog 50 [.agg [.i n.pump, .ls 1], .i node, .agg [.i o.pump, .ls 2]] [1, 2] [some (.ro 5 n.pipes.length (Lst eP n.pipes)), some (.ro 5 o.pipes.length (Lst eP o.pipes))] (.tup [.agg [.i 0, .v (.slice none 0 0)], .one (.i 2)]) [] := by
  have hML : maxLen = 9223372036854775807 := rfl
  refine callFr_of (fn := Try.f50) (by kernel_rfl) rfl (by kernel_rfl) (by kernel_rfl) fun E => ?_
  refine aw_ent (T := ⟨81, [1, 2], [(0, .agg [.i n.pump, .ls 1]), (1, .i node), (2, .agg [.i o.pump, .ls 2])], [(1, some (.ro 5 n.pipes.length (Lst eP n.pipes))), (2, some (.ro 5 o.pipes.length (Lst eP o.pipes)))]⟩) (Ent.refl _) ?_
  refine aw_seq ?_
  refine aw_region [(0, .new 1003), (1, .new 1005), (2, .new 1006)] [1, 3, 5, 6] [1, 2, 1003, 1005, 1006]
      ⟨81, [1, 2], [(1, .i node), (3, .l (.ref 1003 0)), (5, .l (.ref 1005 0)), (6, .l (.ref 1006 0))], [(1, some (.ro 5 n.pipes.length (Lst eP n.pipes))), (2, some (.ro 5 o.pipes.length (Lst eP o.pipes))), (1003, some (.blk 24 [.i n.pump, .ls 1])), (1005, some (.blk 24 [.i o.pump, .ls 2])), (1006, some (.blk 24 [.i 0, .v (.slice none 0 0)]))]⟩
      [] (by kernel_rfl) trivial ?_
  refine aw_seq ?_
  refine aw_seq ?_
  have v1 : CallOK Try.prog 43 [.agg [.i n.pump, .ls 1]] [1] [some (.ro 5 n.pipes.length (Lst eP n.pipes))] (.i (chk n)) [] := (CallFr.to (check_fr n (by omega)) [(1, 1)] (by kernel_rfl) (by kernel_rfl) (by kernel_rfl) (by kernel_rfl) (by kernel_rfl) (dem_cons rfl (le_ro rfl el_rfl) dem_nil))
  refine aw_region [(1, .call [1] (.i (chk n)) [])] [1, 3, 5, 6, 8] [1, 2, 1003, 1005, 1006]
      ⟨81, [1, 2], [(1, .i node), (3, .l (.ref 1003 0)), (5, .l (.ref 1005 0)), (6, .l (.ref 1006 0)), (8, .i (chk n))], [(1, some (.ro 5 n.pipes.length (Lst eP n.pipes))), (2, some (.ro 5 o.pipes.length (Lst eP o.pipes))), (1003, some (.blk 24 [.i n.pump, .ls 1])), (1005, some (.blk 24 [.i o.pump, .ls 2])), (1006, some (.blk 24 [.i 0, .v (.slice none 0 0)]))]⟩
      [CallOK Try.prog 43 [.agg [.i n.pump, .ls 1]] [1] [some (.ro 5 n.pipes.length (Lst eP n.pipes))] (.i (chk n)) []] (by kernel_rfl) v1 ?_
  clear v1
  refine aw_seq ?_
  refine aw_region [] [1, 3, 5, 6, 8, 16] [1, 2, 1003, 1005, 1006]
      ⟨81, [1, 2], [(1, .i node), (3, .l (.ref 1003 0)), (5, .l (.ref 1005 0)), (6, .l (.ref 1006 0)), (8, .i (chk n)), (16, .b (decide (chk n ≠ 0)))], [(1, some (.ro 5 n.pipes.length (Lst eP n.pipes))), (2, some (.ro 5 o.pipes.length (Lst eP o.pipes))), (1003, some (.blk 24 [.i n.pump, .ls 1])), (1005, some (.blk 24 [.i o.pump, .ls 2])), (1006, some (.blk 24 [.i 0, .v (.slice none 0 0)]))]⟩
      [] (by kernel_rfl) trivial ?_
  have h2 : (decide (chk n ≠ 0)) = true := by rw [chk_bad hbad]; rfl
  refine aw_cond (b := decide (chk n ≠ 0)) rfl (fun _ => ?_) (fun h => Bool.noConfusion (h2.symm.trans h))
  refine aw_seq ?_
  refine aw_region [] [6, 7] [1006]
      ⟨81, [1, 2], [(6, .l (.ref 1006 0)), (7, .i (chk n))], [(1006, some (.blk 24 [.i 0, .v (.slice none 0 0)]))]⟩
      [] (by kernel_rfl) trivial ?_
  exact aw_ret (ret_then ⟨.inr rfl, end_ok ⟨81, [1, 2], [(6, .l (.ref 8006 0)), (7, .i 2)], [(8006, some (.blk 24 [.i 0, .v (.slice none 0 0)]))]⟩
      (Ent.ren [(8006, 1006)] rfl rfl (by kernel_rfl) (slots_cons rfl (slots_cons (slot_i rfl (by first | rfl | omega | assumption | (exact chk_bad hbad))) slots_nil)) (conts_cons rfl (le_blk rfl) conts_nil) (by kernel_rfl)) rfl (by kernel_rfl) wr_nil (by kernel_rfl)⟩)
set_option maxHeartbeats 4000000 in
set_option maxRecDepth 100000 in
theorem Graft_bad2 (n o : Net) (node : Int) (hn : n.pipes.length ≤ maxLen) (ho : o.pipes.length ≤ maxLen) (h0 : -9223372036854775808 ≤ node) (h1 : node < 9223372036854775808) (hok : netB n = true) (hbad : netB o = false) : CallFr Try.prog 50 [.agg [.i n.pump, .ls 1], .i node, .agg [.i o.pump, .ls 2]] [1, 2] [some (.ro 5 n.pipes.length (Lst eP n.pipes)), some (.ro 5 o.pipes.length (Lst eP o.pipes))] (.tup [.agg [.i 0, .v (.slice none 0 0)], .one (.i 2)]) [] := by
  have hML : maxLen = 9223372036854775807 := rfl
  refine callFr_of (fn := Try.f50) (by kernel_rfl) rfl (by kernel_rfl) (by kernel_rfl) fun E => ?_
  refine aw_ent (T := ⟨81, [1, 2], [(0, .agg [.i n.pump, .ls 1]), (1, .i node), (2, .agg [.i o.pump, .ls 2])], [(1, some (.ro 5 n.pipes.length (Lst eP n.pipes))), (2, some (.ro 5 o.pipes.length (Lst eP o.pipes)))]⟩) (Ent.refl _) ?_
  refine aw_seq ?_
  refine aw_region [(0, .new 1003), (1, .new 1005), (2, .new 1006)] [1, 3, 5, 6] [1, 2, 1003, 1005, 1006]
      ⟨81, [1, 2], [(1, .i node), (3, .l (.ref 1003 0)), (5, .l (.ref 1005 0)), (6, .l (.ref 1006 0))], [(1, some (.ro 5 n.pipes.length (Lst eP n.pipes))), (2, some (.ro 5 o.pipes.length (Lst eP o.pipes))), (1003, some (.blk 24 [.i n.pump, .ls 1])), (1005, some (.blk 24 [.i o.pump, .ls 2])), (1006, some (.blk 24 [.i 0, .v (.slice none 0 0)]))]⟩
      [] (by kernel_rfl) trivial ?_
  refine aw_seq ?_
  refine aw_seq ?_
  have v1 : CallOK Try.prog 43 [.agg [.i n.pump, .ls 1]] [1] [some (.ro 5 n.pipes.length (Lst eP n.pipes))] (.i (chk n)) [] := (CallFr.to (check_fr n (by omega)) [(1, 1)] (by kernel_rfl) (by kernel_rfl) (by kernel_rfl) (by kernel_rfl) (by kernel_rfl) (dem_cons rfl (le_ro rfl el_rfl) dem_nil))
  refine aw_region [(1, .call [1] (.i (chk n)) [])] [1, 3, 5, 6, 8] [1, 2, 1003, 1005, 1006]
      ⟨81, [1, 2], [(1, .i node), (3, .l (.ref 1003 0)), (5, .l (.ref 1005 0)), (6, .l (.ref 1006 0)), (8, .i (chk n))], [(1, some (.ro 5 n.pipes.length (Lst eP n.pipes))), (2, some (.ro 5 o.pipes.length (Lst eP o.pipes))), (1003, some (.blk 24 [.i n.pump, .ls 1])), (1005, some (.blk 24 [.i o.pump, .ls 2])), (1006, some (.blk 24 [.i 0, .v (.slice none 0 0)]))]⟩
      [CallOK Try.prog 43 [.agg [.i n.pump, .ls 1]] [1] [some (.ro 5 n.pipes.length (Lst eP n.pipes))] (.i (chk n)) []] (by kernel_rfl) v1 ?_
  clear v1
  refine aw_seq ?_
  refine aw_region [] [1, 3, 5, 6, 8, 16] [1, 2, 1003, 1005, 1006]
      ⟨81, [1, 2], [(1, .i node), (3, .l (.ref 1003 0)), (5, .l (.ref 1005 0)), (6, .l (.ref 1006 0)), (8, .i (chk n)), (16, .b (decide (chk n ≠ 0)))], [(1, some (.ro 5 n.pipes.length (Lst eP n.pipes))), (2, some (.ro 5 o.pipes.length (Lst eP o.pipes))), (1003, some (.blk 24 [.i n.pump, .ls 1])), (1005, some (.blk 24 [.i o.pump, .ls 2])), (1006, some (.blk 24 [.i 0, .v (.slice none 0 0)]))]⟩
      [] (by kernel_rfl) trivial ?_
  have h2 : (decide (chk n ≠ 0)) = false := by rw [chk_ok hok]; rfl
  refine aw_cond (b := decide (chk n ≠ 0)) rfl (fun h => Bool.noConfusion (h2.symm.trans h)) (fun _ => ?_)
  refine aw_skip ?_
  refine aw_seq ?_
  refine aw_seq ?_
  have v3 : CallOK Try.prog 43 [.agg [.i o.pump, .ls 2]] [2] [some (.ro 5 o.pipes.length (Lst eP o.pipes))] (.i (chk o)) [] := (CallFr.to (check_fr o (by omega)) [(1, 2)] (by kernel_rfl) (by kernel_rfl) (by kernel_rfl) (by kernel_rfl) (by kernel_rfl) (dem_cons rfl (le_ro rfl el_rfl) dem_nil))
  refine aw_region [(1, .call [2] (.i (chk o)) [])] [1, 3, 5, 6, 9] [1, 2, 1003, 1005, 1006]
      ⟨81, [1, 2], [(1, .i node), (3, .l (.ref 1003 0)), (5, .l (.ref 1005 0)), (6, .l (.ref 1006 0)), (9, .i (chk o))], [(1, some (.ro 5 n.pipes.length (Lst eP n.pipes))), (2, some (.ro 5 o.pipes.length (Lst eP o.pipes))), (1003, some (.blk 24 [.i n.pump, .ls 1])), (1005, some (.blk 24 [.i o.pump, .ls 2])), (1006, some (.blk 24 [.i 0, .v (.slice none 0 0)]))]⟩
      [CallOK Try.prog 43 [.agg [.i o.pump, .ls 2]] [2] [some (.ro 5 o.pipes.length (Lst eP o.pipes))] (.i (chk o)) []] (by kernel_rfl) v3 ?_
  clear v3
  refine aw_seq ?_
  refine aw_region [] [1, 3, 5, 6, 9, 22] [1, 2, 1003, 1005, 1006]
      ⟨81, [1, 2], [(1, .i node), (3, .l (.ref 1003 0)), (5, .l (.ref 1005 0)), (6, .l (.ref 1006 0)), (9, .i (chk o)), (22, .b (decide (chk o ≠ 0)))], [(1, some (.ro 5 n.pipes.length (Lst eP n.pipes))), (2, some (.ro 5 o.pipes.length (Lst eP o.pipes))), (1003, some (.blk 24 [.i n.pump, .ls 1])), (1005, some (.blk 24 [.i o.pump, .ls 2])), (1006, some (.blk 24 [.i 0, .v (.slice none 0 0)]))]⟩
      [] (by kernel_rfl) trivial ?_
  have h4 : (decide (chk o ≠ 0)) = true := by rw [chk_bad hbad]; rfl
  refine aw_cond (b := decide (chk o ≠ 0)) rfl (fun _ => ?_) (fun h => Bool.noConfusion (h4.symm.trans h))
  refine aw_seq ?_
  refine aw_region [] [6, 7] [1006]
      ⟨81, [1, 2], [(6, .l (.ref 1006 0)), (7, .i (chk o))], [(1006, some (.blk 24 [.i 0, .v (.slice none 0 0)]))]⟩
      [] (by kernel_rfl) trivial ?_
  exact aw_ret (ret_then ⟨.inr rfl, end_ok ⟨81, [1, 2], [(6, .l (.ref 8006 0)), (7, .i 2)], [(8006, some (.blk 24 [.i 0, .v (.slice none 0 0)]))]⟩
      (Ent.ren [(8006, 1006)] rfl rfl (by kernel_rfl) (slots_cons rfl (slots_cons (slot_i rfl (by first | rfl | omega | assumption | (exact chk_bad hbad))) slots_nil)) (conts_cons rfl (le_blk rfl) conts_nil) (by kernel_rfl)) rfl (by kernel_rfl) wr_nil (by kernel_rfl)⟩)
set_option maxHeartbeats 4000000 in
set_option maxRecDepth 100000 in
theorem Graft_none (n o : Net) (node : Int) (hn : n.pipes.length ≤ maxLen) (ho : o.pipes.length ≤ maxLen) (h0 : -9223372036854775808 ≤ node) (h1 : node < 9223372036854775808) (hok : netB n = true) (hob : netB o = true) (hin : inB 0 (((n.pipes.length : Nat) : Int) - 1) node = false) : CallFr Try.prog 50 [.agg [.i n.pump, .ls 1], .i node, .agg [.i o.pump, .ls 2]] [1, 2] [some (.ro 5 n.pipes.length (Lst eP n.pipes)), some (.ro 5 o.pipes.length (Lst eP o.pipes))] (.tup [.agg [.i 0, .v (.slice none 0 0)], .one (.i 7)]) [] := by
  have hML : maxLen = 9223372036854775807 := rfl
  have hnl := netB_len hok
  have hol := netB_len hob
  refine callFr_of (fn := Try.f50) (by kernel_rfl) rfl (by kernel_rfl) (by kernel_rfl) fun E => ?_
  refine aw_ent (T := ⟨81, [1, 2], [(0, .agg [.i n.pump, .ls 1]), (1, .i node), (2, .agg [.i o.pump, .ls 2])], [(1, some (.ro 5 n.pipes.length (Lst eP n.pipes))), (2, some (.ro 5 o.pipes.length (Lst eP o.pipes)))]⟩) (Ent.refl _) ?_
  refine aw_seq ?_
  refine aw_region [(0, .new 1003), (1, .new 1005), (2, .new 1006)] [1, 3, 5, 6] [1, 2, 1003, 1005, 1006]
      ⟨81, [1, 2], [(1, .i node), (3, .l (.ref 1003 0)), (5, .l (.ref 1005 0)), (6, .l (.ref 1006 0))], [(1, some (.ro 5 n.pipes.length (Lst eP n.pipes))), (2, some (.ro 5 o.pipes.length (Lst eP o.pipes))), (1003, some (.blk 24 [.i n.pump, .ls 1])), (1005, some (.blk 24 [.i o.pump, .ls 2])), (1006, some (.blk 24 [.i 0, .v (.slice none 0 0)]))]⟩
      [] (by kernel_rfl) trivial ?_
  refine aw_seq ?_
  refine aw_seq ?_
  have v1 : CallOK Try.prog 43 [.agg [.i n.pump, .ls 1]] [1] [some (.ro 5 n.pipes.length (Lst eP n.pipes))] (.i (chk n)) [] := (CallFr.to (check_fr n (by omega)) [(1, 1)] (by kernel_rfl) (by kernel_rfl) (by kernel_rfl) (by kernel_rfl) (by kernel_rfl) (dem_cons rfl (le_ro rfl el_rfl) dem_nil))
  refine aw_region [(1, .call [1] (.i (chk n)) [])] [1, 3, 5, 6, 8] [1, 2, 1003, 1005, 1006]
      ⟨81, [1, 2], [(1, .i node), (3, .l (.ref 1003 0)), (5, .l (.ref 1005 0)), (6, .l (.ref 1006 0)), (8, .i (chk n))], [(1, some (.ro 5 n.pipes.length (Lst eP n.pipes))), (2, some (.ro 5 o.pipes.length (Lst eP o.pipes))), (1003, some (.blk 24 [.i n.pump, .ls 1])), (1005, some (.blk 24 [.i o.pump, .ls 2])), (1006, some (.blk 24 [.i 0, .v (.slice none 0 0)]))]⟩
      [CallOK Try.prog 43 [.agg [.i n.pump, .ls 1]] [1] [some (.ro 5 n.pipes.length (Lst eP n.pipes))] (.i (chk n)) []] (by kernel_rfl) v1 ?_
  clear v1
  refine aw_seq ?_
  refine aw_region [] [1, 3, 5, 6, 8, 16] [1, 2, 1003, 1005, 1006]
      ⟨81, [1, 2], [(1, .i node), (3, .l (.ref 1003 0)), (5, .l (.ref 1005 0)), (6, .l (.ref 1006 0)), (8, .i (chk n)), (16, .b (decide (chk n ≠ 0)))], [(1, some (.ro 5 n.pipes.length (Lst eP n.pipes))), (2, some (.ro 5 o.pipes.length (Lst eP o.pipes))), (1003, some (.blk 24 [.i n.pump, .ls 1])), (1005, some (.blk 24 [.i o.pump, .ls 2])), (1006, some (.blk 24 [.i 0, .v (.slice none 0 0)]))]⟩
      [] (by kernel_rfl) trivial ?_
  have h2 : (decide (chk n ≠ 0)) = false := by rw [chk_ok hok]; rfl
  refine aw_cond (b := decide (chk n ≠ 0)) rfl (fun h => Bool.noConfusion (h2.symm.trans h)) (fun _ => ?_)
  refine aw_skip ?_
  refine aw_seq ?_
  refine aw_seq ?_
  have v3 : CallOK Try.prog 43 [.agg [.i o.pump, .ls 2]] [2] [some (.ro 5 o.pipes.length (Lst eP o.pipes))] (.i (chk o)) [] := (CallFr.to (check_fr o (by omega)) [(1, 2)] (by kernel_rfl) (by kernel_rfl) (by kernel_rfl) (by kernel_rfl) (by kernel_rfl) (dem_cons rfl (le_ro rfl el_rfl) dem_nil))
  refine aw_region [(1, .call [2] (.i (chk o)) [])] [1, 3, 5, 6, 9] [1, 2, 1003, 1005, 1006]
      ⟨81, [1, 2], [(1, .i node), (3, .l (.ref 1003 0)), (5, .l (.ref 1005 0)), (6, .l (.ref 1006 0)), (9, .i (chk o))], [(1, some (.ro 5 n.pipes.length (Lst eP n.pipes))), (2, some (.ro 5 o.pipes.length (Lst eP o.pipes))), (1003, some (.blk 24 [.i n.pump, .ls 1])), (1005, some (.blk 24 [.i o.pump, .ls 2])), (1006, some (.blk 24 [.i 0, .v (.slice none 0 0)]))]⟩
      [CallOK Try.prog 43 [.agg [.i o.pump, .ls 2]] [2] [some (.ro 5 o.pipes.length (Lst eP o.pipes))] (.i (chk o)) []] (by kernel_rfl) v3 ?_
  clear v3
  refine aw_seq ?_
  refine aw_region [] [1, 3, 5, 6, 9, 22] [1, 2, 1003, 1005, 1006]
      ⟨81, [1, 2], [(1, .i node), (3, .l (.ref 1003 0)), (5, .l (.ref 1005 0)), (6, .l (.ref 1006 0)), (9, .i (chk o)), (22, .b (decide (chk o ≠ 0)))], [(1, some (.ro 5 n.pipes.length (Lst eP n.pipes))), (2, some (.ro 5 o.pipes.length (Lst eP o.pipes))), (1003, some (.blk 24 [.i n.pump, .ls 1])), (1005, some (.blk 24 [.i o.pump, .ls 2])), (1006, some (.blk 24 [.i 0, .v (.slice none 0 0)]))]⟩
      [] (by kernel_rfl) trivial ?_
  have h4 : (decide (chk o ≠ 0)) = false := by rw [chk_ok hob]; rfl
  refine aw_cond (b := decide (chk o ≠ 0)) rfl (fun h => Bool.noConfusion (h4.symm.trans h)) (fun _ => ?_)
  refine aw_skip ?_
  refine aw_seq ?_
  refine aw_block ?_
  refine aw_seq ?_
  have v5 : -9223372036854775808 ≤ (((n.pipes.length : Nat) : Int) - 1) ∧ (((n.pipes.length : Nat) : Int) - 1) < 9223372036854775808 := (by first | omega | rfl | assumption)
  have v6 : CallOK Try.prog 61 [.i 0, .i (((n.pipes.length : Nat) : Int) - 1), .ls 1031] [1031] [some (.vec 3 1 1 (exEl 1 [.i node]))] (.b (inB 0 (((n.pipes.length : Nat) : Int) - 1) node)) [] := (CallFr.to (within_fr 0 (((n.pipes.length : Nat) : Int) - 1) node) [(1, 1031)] (by kernel_rfl) (by kernel_rfl) (by kernel_rfl) (by kernel_rfl) (by kernel_rfl) (dem_cons rfl (le_vec_ro rfl (fun | 0, _ => (fun | 0, _ => rfl | 1, _ => rfl | 2, _ => rfl | 3, _ => rfl | 4, _ => rfl | (n+5), h => absurd h (by omega)) | (n+1), h => absurd h (by omega))) dem_nil))
  refine aw_region [(5, .new 1031), (6, .call [1031] (.b (inB 0 (((n.pipes.length : Nat) : Int) - 1) node)) [])] [1, 3, 5, 6, 25] [1, 2, 1003, 1005, 1006]
      ⟨81, [1, 2], [(1, .i node), (3, .l (.ref 1003 0)), (5, .l (.ref 1005 0)), (6, .l (.ref 1006 0)), (25, .b (!(inB 0 (((n.pipes.length : Nat) : Int) - 1) node)))], [(1, some (.ro 5 n.pipes.length (Lst eP n.pipes))), (2, some (.ro 5 o.pipes.length (Lst eP o.pipes))), (1003, some (.blk 24 [.i n.pump, .ls 1])), (1005, some (.blk 24 [.i o.pump, .ls 2])), (1006, some (.blk 24 [.i 0, .v (.slice none 0 0)]))]⟩
      [-9223372036854775808 ≤ (((n.pipes.length : Nat) : Int) - 1) ∧ (((n.pipes.length : Nat) : Int) - 1) < 9223372036854775808, CallOK Try.prog 61 [.i 0, .i (((n.pipes.length : Nat) : Int) - 1), .ls 1031] [1031] [some (.vec 3 1 1 (exEl 1 [.i node]))] (.b (inB 0 (((n.pipes.length : Nat) : Int) - 1) node)) []] (by kernel_rfl) ⟨v5, v6⟩ ?_
  clear v5 v6
  have h7 : (!(inB 0 (((n.pipes.length : Nat) : Int) - 1) node)) = true := by rw [hin] <;> rfl
  refine aw_cond (b := (!(inB 0 (((n.pipes.length : Nat) : Int) - 1) node))) rfl (fun _ => ?_) (fun h => Bool.noConfusion (h7.symm.trans h))
  refine aw_seq ?_
  refine aw_region [] [6, 7] [1006]
      ⟨81, [1, 2], [(6, .l (.ref 1006 0)), (7, .i 7)], [(1006, some (.blk 24 [.i 0, .v (.slice none 0 0)]))]⟩
      [] (by kernel_rfl) trivial ?_
  exact aw_ret (ret_block (ret_then ⟨.inr rfl, end_ok ⟨81, [1, 2], [(6, .l (.ref 8006 0)), (7, .i 7)], [(8006, some (.blk 24 [.i 0, .v (.slice none 0 0)]))]⟩
      (Ent.ren [(8006, 1006)] rfl rfl (by kernel_rfl) (slots_cons rfl (slots_cons rfl slots_nil)) (conts_cons rfl (le_blk rfl) conts_nil) (by kernel_rfl)) rfl (by kernel_rfl) wr_nil (by kernel_rfl)⟩))
set_option maxHeartbeats 4000000 in
set_option maxRecDepth 100000 in
theorem Graft_full (n o : Net) (node : Int) (hn : n.pipes.length ≤ maxLen) (ho : o.pipes.length ≤ maxLen) (h0 : -9223372036854775808 ≤ node) (h1 : node < 9223372036854775808) (hok : netB n = true) (hob : netB o = true) (hin : inB 0 (((n.pipes.length : Nat) : Int) - 1) node = true) (hfu : decide (60 < (((n.pipes.length + o.pipes.length : Nat) : Int) - 1)) = true) : CallFr Try.prog 50 [.agg [.i n.pump, .ls 1], .i node, .agg [.i o.pump, .ls 2]] [1, 2] [some (.ro 5 n.pipes.length (Lst eP n.pipes)), some (.ro 5 o.pipes.length (Lst eP o.pipes))] (.tup [.agg [.i 0, .v (.slice none 0 0)], .one (.i 8)]) [] := by
  have hML : maxLen = 9223372036854775807 := rfl
  have hnl := netB_len hok
  have hol := netB_len hob
  refine callFr_of (fn := Try.f50) (by kernel_rfl) rfl (by kernel_rfl) (by kernel_rfl) fun E => ?_
  refine aw_ent (T := ⟨81, [1, 2], [(0, .agg [.i n.pump, .ls 1]), (1, .i node), (2, .agg [.i o.pump, .ls 2])], [(1, some (.ro 5 n.pipes.length (Lst eP n.pipes))), (2, some (.ro 5 o.pipes.length (Lst eP o.pipes)))]⟩) (Ent.refl _) ?_
  refine aw_seq ?_
  refine aw_region [(0, .new 1003), (1, .new 1005), (2, .new 1006)] [1, 3, 5, 6] [1, 2, 1003, 1005, 1006]
      ⟨81, [1, 2], [(1, .i node), (3, .l (.ref 1003 0)), (5, .l (.ref 1005 0)), (6, .l (.ref 1006 0))], [(1, some (.ro 5 n.pipes.length (Lst eP n.pipes))), (2, some (.ro 5 o.pipes.length (Lst eP o.pipes))), (1003, some (.blk 24 [.i n.pump, .ls 1])), (1005, some (.blk 24 [.i o.pump, .ls 2])), (1006, some (.blk 24 [.i 0, .v (.slice none 0 0)]))]⟩
      [] (by kernel_rfl) trivial ?_
  refine aw_seq ?_
  refine aw_seq ?_
  have v1 : CallOK Try.prog 43 [.agg [.i n.pump, .ls 1]] [1] [some (.ro 5 n.pipes.length (Lst eP n.pipes))] (.i (chk n)) [] := (CallFr.to (check_fr n (by omega)) [(1, 1)] (by kernel_rfl) (by kernel_rfl) (by kernel_rfl) (by kernel_rfl) (by kernel_rfl) (dem_cons rfl (le_ro rfl el_rfl) dem_nil))
  refine aw_region [(1, .call [1] (.i (chk n)) [])] [1, 3, 5, 6, 8] [1, 2, 1003, 1005, 1006]
      ⟨81, [1, 2], [(1, .i node), (3, .l (.ref 1003 0)), (5, .l (.ref 1005 0)), (6, .l (.ref 1006 0)), (8, .i (chk n))], [(1, some (.ro 5 n.pipes.length (Lst eP n.pipes))), (2, some (.ro 5 o.pipes.length (Lst eP o.pipes))), (1003, some (.blk 24 [.i n.pump, .ls 1])), (1005, some (.blk 24 [.i o.pump, .ls 2])), (1006, some (.blk 24 [.i 0, .v (.slice none 0 0)]))]⟩
      [CallOK Try.prog 43 [.agg [.i n.pump, .ls 1]] [1] [some (.ro 5 n.pipes.length (Lst eP n.pipes))] (.i (chk n)) []] (by kernel_rfl) v1 ?_
  clear v1
  refine aw_seq ?_
  refine aw_region [] [1, 3, 5, 6, 8, 16] [1, 2, 1003, 1005, 1006]
      ⟨81, [1, 2], [(1, .i node), (3, .l (.ref 1003 0)), (5, .l (.ref 1005 0)), (6, .l (.ref 1006 0)), (8, .i (chk n)), (16, .b (decide (chk n ≠ 0)))], [(1, some (.ro 5 n.pipes.length (Lst eP n.pipes))), (2, some (.ro 5 o.pipes.length (Lst eP o.pipes))), (1003, some (.blk 24 [.i n.pump, .ls 1])), (1005, some (.blk 24 [.i o.pump, .ls 2])), (1006, some (.blk 24 [.i 0, .v (.slice none 0 0)]))]⟩
      [] (by kernel_rfl) trivial ?_
  have h2 : (decide (chk n ≠ 0)) = false := by rw [chk_ok hok]; rfl
  refine aw_cond (b := decide (chk n ≠ 0)) rfl (fun h => Bool.noConfusion (h2.symm.trans h)) (fun _ => ?_)
  refine aw_skip ?_
  refine aw_seq ?_
  refine aw_seq ?_
  have v3 : CallOK Try.prog 43 [.agg [.i o.pump, .ls 2]] [2] [some (.ro 5 o.pipes.length (Lst eP o.pipes))] (.i (chk o)) [] := (CallFr.to (check_fr o (by omega)) [(1, 2)] (by kernel_rfl) (by kernel_rfl) (by kernel_rfl) (by kernel_rfl) (by kernel_rfl) (dem_cons rfl (le_ro rfl el_rfl) dem_nil))
  refine aw_region [(1, .call [2] (.i (chk o)) [])] [1, 3, 5, 6, 9] [1, 2, 1003, 1005, 1006]
      ⟨81, [1, 2], [(1, .i node), (3, .l (.ref 1003 0)), (5, .l (.ref 1005 0)), (6, .l (.ref 1006 0)), (9, .i (chk o))], [(1, some (.ro 5 n.pipes.length (Lst eP n.pipes))), (2, some (.ro 5 o.pipes.length (Lst eP o.pipes))), (1003, some (.blk 24 [.i n.pump, .ls 1])), (1005, some (.blk 24 [.i o.pump, .ls 2])), (1006, some (.blk 24 [.i 0, .v (.slice none 0 0)]))]⟩
      [CallOK Try.prog 43 [.agg [.i o.pump, .ls 2]] [2] [some (.ro 5 o.pipes.length (Lst eP o.pipes))] (.i (chk o)) []] (by kernel_rfl) v3 ?_
  clear v3
  refine aw_seq ?_
  refine aw_region [] [1, 3, 5, 6, 9, 22] [1, 2, 1003, 1005, 1006]
      ⟨81, [1, 2], [(1, .i node), (3, .l (.ref 1003 0)), (5, .l (.ref 1005 0)), (6, .l (.ref 1006 0)), (9, .i (chk o)), (22, .b (decide (chk o ≠ 0)))], [(1, some (.ro 5 n.pipes.length (Lst eP n.pipes))), (2, some (.ro 5 o.pipes.length (Lst eP o.pipes))), (1003, some (.blk 24 [.i n.pump, .ls 1])), (1005, some (.blk 24 [.i o.pump, .ls 2])), (1006, some (.blk 24 [.i 0, .v (.slice none 0 0)]))]⟩
      [] (by kernel_rfl) trivial ?_
  have h4 : (decide (chk o ≠ 0)) = false := by rw [chk_ok hob]; rfl
  refine aw_cond (b := decide (chk o ≠ 0)) rfl (fun h => Bool.noConfusion (h4.symm.trans h)) (fun _ => ?_)
  refine aw_skip ?_
  refine aw_seq ?_
  refine aw_block ?_
  refine aw_seq ?_
  have v5 : -9223372036854775808 ≤ (((n.pipes.length : Nat) : Int) - 1) ∧ (((n.pipes.length : Nat) : Int) - 1) < 9223372036854775808 := (by first | omega | rfl | assumption)
  have v6 : CallOK Try.prog 61 [.i 0, .i (((n.pipes.length : Nat) : Int) - 1), .ls 1031] [1031] [some (.vec 3 1 1 (exEl 1 [.i node]))] (.b (inB 0 (((n.pipes.length : Nat) : Int) - 1) node)) [] := (CallFr.to (within_fr 0 (((n.pipes.length : Nat) : Int) - 1) node) [(1, 1031)] (by kernel_rfl) (by kernel_rfl) (by kernel_rfl) (by kernel_rfl) (by kernel_rfl) (dem_cons rfl (le_vec_ro rfl (fun | 0, _ => (fun | 0, _ => rfl | 1, _ => rfl | 2, _ => rfl | 3, _ => rfl | 4, _ => rfl | (n+5), h => absurd h (by omega)) | (n+1), h => absurd h (by omega))) dem_nil))
  refine aw_region [(5, .new 1031), (6, .call [1031] (.b (inB 0 (((n.pipes.length : Nat) : Int) - 1) node)) [])] [1, 3, 5, 6, 25] [1, 2, 1003, 1005, 1006]
      ⟨81, [1, 2], [(1, .i node), (3, .l (.ref 1003 0)), (5, .l (.ref 1005 0)), (6, .l (.ref 1006 0)), (25, .b (!(inB 0 (((n.pipes.length : Nat) : Int) - 1) node)))], [(1, some (.ro 5 n.pipes.length (Lst eP n.pipes))), (2, some (.ro 5 o.pipes.length (Lst eP o.pipes))), (1003, some (.blk 24 [.i n.pump, .ls 1])), (1005, some (.blk 24 [.i o.pump, .ls 2])), (1006, some (.blk 24 [.i 0, .v (.slice none 0 0)]))]⟩
      [-9223372036854775808 ≤ (((n.pipes.length : Nat) : Int) - 1) ∧ (((n.pipes.length : Nat) : Int) - 1) < 9223372036854775808, CallOK Try.prog 61 [.i 0, .i (((n.pipes.length : Nat) : Int) - 1), .ls 1031] [1031] [some (.vec 3 1 1 (exEl 1 [.i node]))] (.b (inB 0 (((n.pipes.length : Nat) : Int) - 1) node)) []] (by kernel_rfl) ⟨v5, v6⟩ ?_
  clear v5 v6
  have h7 : (!(inB 0 (((n.pipes.length : Nat) : Int) - 1) node)) = false := by rw [hin] <;> rfl
  refine aw_cond (b := (!(inB 0 (((n.pipes.length : Nat) : Int) - 1) node))) rfl (fun h => Bool.noConfusion (h7.symm.trans h)) (fun _ => ?_)
  refine aw_seq ?_
  have v8 : (((n.pipes.length : Nat) : Int) + ((o.pipes.length : Nat) : Int)) = (((n.pipes.length + o.pipes.length) : Nat) : Int) := (by first | omega | rfl | assumption)
  have v9 : -9223372036854775808 ≤ (((n.pipes.length + o.pipes.length) : Nat) : Int) ∧ (((n.pipes.length + o.pipes.length) : Nat) : Int) < 9223372036854775808 := (by first | omega | rfl | assumption)
  have v10 : -9223372036854775808 ≤ ((((n.pipes.length + o.pipes.length) : Nat) : Int) - 1) ∧ ((((n.pipes.length + o.pipes.length) : Nat) : Int) - 1) < 9223372036854775808 := (by first | omega | rfl | assumption)
  refine aw_region [(6, .num (((n.pipes.length + o.pipes.length) : Nat) : Int))] [1, 3, 5, 6, 35] [1, 2, 1003, 1005, 1006]
      ⟨81, [1, 2], [(1, .i node), (3, .l (.ref 1003 0)), (5, .l (.ref 1005 0)), (6, .l (.ref 1006 0)), (35, .b (decide (60 < ((((n.pipes.length + o.pipes.length) : Nat) : Int) - 1))))], [(1, some (.ro 5 n.pipes.length (Lst eP n.pipes))), (2, some (.ro 5 o.pipes.length (Lst eP o.pipes))), (1003, some (.blk 24 [.i n.pump, .ls 1])), (1005, some (.blk 24 [.i o.pump, .ls 2])), (1006, some (.blk 24 [.i 0, .v (.slice none 0 0)]))]⟩
      [(((n.pipes.length : Nat) : Int) + ((o.pipes.length : Nat) : Int)) = (((n.pipes.length + o.pipes.length) : Nat) : Int), -9223372036854775808 ≤ (((n.pipes.length + o.pipes.length) : Nat) : Int) ∧ (((n.pipes.length + o.pipes.length) : Nat) : Int) < 9223372036854775808, -9223372036854775808 ≤ ((((n.pipes.length + o.pipes.length) : Nat) : Int) - 1) ∧ ((((n.pipes.length + o.pipes.length) : Nat) : Int) - 1) < 9223372036854775808] (by kernel_rfl) ⟨v8, v9, v10⟩ ?_
  clear v8 v9 v10
  refine aw_cond (b := decide (60 < ((((n.pipes.length + o.pipes.length) : Nat) : Int) - 1))) rfl (fun _ => ?_) (fun h => Bool.noConfusion (hfu.symm.trans h))
  refine aw_seq ?_
  refine aw_region [] [6, 7] [1006]
      ⟨81, [1, 2], [(6, .l (.ref 1006 0)), (7, .i 8)], [(1006, some (.blk 24 [.i 0, .v (.slice none 0 0)]))]⟩
      [] (by kernel_rfl) trivial ?_
  exact aw_ret (ret_block (ret_then ⟨.inr rfl, end_ok ⟨81, [1, 2], [(6, .l (.ref 8006 0)), (7, .i 8)], [(8006, some (.blk 24 [.i 0, .v (.slice none 0 0)]))]⟩
      (Ent.ren [(8006, 1006)] rfl rfl (by kernel_rfl) (slots_cons rfl (slots_cons rfl slots_nil)) (conts_cons rfl (le_blk rfl) conts_nil) (by kernel_rfl)) rfl (by kernel_rfl) wr_nil (by kernel_rfl)⟩))
set_option maxHeartbeats 4000000 in
set_option maxRecDepth 100000 in
theorem Graft_ok (n o : Net) (node : Int) (hn : n.pipes.length ≤ maxLen) (ho : o.pipes.length ≤ maxLen) (h0 : -9223372036854775808 ≤ node) (h1 : node < 9223372036854775808) (hok : netB n = true) (hob : netB o = true) (hin : inB 0 (((n.pipes.length : Nat) : Int) - 1) node = true) (hfu : decide (60 < (((n.pipes.length + o.pipes.length : Nat) : Int) - 1)) = false) : CallFr Try.prog 50 [.agg [.i n.pump, .ls 1], .i node, .agg [.i o.pump, .ls 2]] [1, 2] [some (.ro 5 n.pipes.length (Lst eP n.pipes)), some (.ro 5 o.pipes.length (Lst eP o.pipes))] (.tup [.agg [.i n.pump, .ls 11], .one (.i 0)]) [(11, some (.vec 54 5 (n.pipes.length + (o.pipes.length - 1)) (Lst eP (graftT n.pipes o.pipes node (o.pipes.length - 1)))))] := by
  have hML : maxLen = 9223372036854775807 := rfl
  have hnl := netB_len hok
  have hol := netB_len hob
  have hib := inB_true hin
  have hot := netB_tree hob
  refine callFr_of (fn := Try.f50) (by kernel_rfl) rfl (by kernel_rfl) (by kernel_rfl) fun E => ?_
  refine aw_ent (T := ⟨81, [1, 2], [(0, .agg [.i n.pump, .ls 1]), (1, .i node), (2, .agg [.i o.pump, .ls 2])], [(1, some (.ro 5 n.pipes.length (Lst eP n.pipes))), (2, some (.ro 5 o.pipes.length (Lst eP o.pipes)))]⟩) (Ent.refl _) ?_
  refine aw_seq ?_
  refine aw_region [(0, .new 1003), (1, .new 1005), (2, .new 1006)] [1, 3, 5, 6] [1, 2, 1003, 1005, 1006]
      ⟨81, [1, 2], [(1, .i node), (3, .l (.ref 1003 0)), (5, .l (.ref 1005 0)), (6, .l (.ref 1006 0))], [(1, some (.ro 5 n.pipes.length (Lst eP n.pipes))), (2, some (.ro 5 o.pipes.length (Lst eP o.pipes))), (1003, some (.blk 24 [.i n.pump, .ls 1])), (1005, some (.blk 24 [.i o.pump, .ls 2])), (1006, some (.blk 24 [.i 0, .v (.slice none 0 0)]))]⟩
      [] (by kernel_rfl) trivial ?_
  refine aw_seq ?_
  refine aw_seq ?_
  have v1 : CallOK Try.prog 43 [.agg [.i n.pump, .ls 1]] [1] [some (.ro 5 n.pipes.length (Lst eP n.pipes))] (.i (chk n)) [] := (CallFr.to (check_fr n (by omega)) [(1, 1)] (by kernel_rfl) (by kernel_rfl) (by kernel_rfl) (by kernel_rfl) (by kernel_rfl) (dem_cons rfl (le_ro rfl el_rfl) dem_nil))
  refine aw_region [(1, .call [1] (.i (chk n)) [])] [1, 3, 5, 6, 8] [1, 2, 1003, 1005, 1006]
      ⟨81, [1, 2], [(1, .i node), (3, .l (.ref 1003 0)), (5, .l (.ref 1005 0)), (6, .l (.ref 1006 0)), (8, .i (chk n))], [(1, some (.ro 5 n.pipes.length (Lst eP n.pipes))), (2, some (.ro 5 o.pipes.length (Lst eP o.pipes))), (1003, some (.blk 24 [.i n.pump, .ls 1])), (1005, some (.blk 24 [.i o.pump, .ls 2])), (1006, some (.blk 24 [.i 0, .v (.slice none 0 0)]))]⟩
      [CallOK Try.prog 43 [.agg [.i n.pump, .ls 1]] [1] [some (.ro 5 n.pipes.length (Lst eP n.pipes))] (.i (chk n)) []] (by kernel_rfl) v1 ?_
  clear v1
  refine aw_seq ?_
  refine aw_region [] [1, 3, 5, 6, 8, 16] [1, 2, 1003, 1005, 1006]
      ⟨81, [1, 2], [(1, .i node), (3, .l (.ref 1003 0)), (5, .l (.ref 1005 0)), (6, .l (.ref 1006 0)), (8, .i (chk n)), (16, .b (decide (chk n ≠ 0)))], [(1, some (.ro 5 n.pipes.length (Lst eP n.pipes))), (2, some (.ro 5 o.pipes.length (Lst eP o.pipes))), (1003, some (.blk 24 [.i n.pump, .ls 1])), (1005, some (.blk 24 [.i o.pump, .ls 2])), (1006, some (.blk 24 [.i 0, .v (.slice none 0 0)]))]⟩
      [] (by kernel_rfl) trivial ?_
  have h2 : (decide (chk n ≠ 0)) = false := by rw [chk_ok hok]; rfl
  refine aw_cond (b := decide (chk n ≠ 0)) rfl (fun h => Bool.noConfusion (h2.symm.trans h)) (fun _ => ?_)
  refine aw_skip ?_
  refine aw_seq ?_
  refine aw_seq ?_
  have v3 : CallOK Try.prog 43 [.agg [.i o.pump, .ls 2]] [2] [some (.ro 5 o.pipes.length (Lst eP o.pipes))] (.i (chk o)) [] := (CallFr.to (check_fr o (by omega)) [(1, 2)] (by kernel_rfl) (by kernel_rfl) (by kernel_rfl) (by kernel_rfl) (by kernel_rfl) (dem_cons rfl (le_ro rfl el_rfl) dem_nil))
  refine aw_region [(1, .call [2] (.i (chk o)) [])] [1, 3, 5, 6, 9] [1, 2, 1003, 1005, 1006]
      ⟨81, [1, 2], [(1, .i node), (3, .l (.ref 1003 0)), (5, .l (.ref 1005 0)), (6, .l (.ref 1006 0)), (9, .i (chk o))], [(1, some (.ro 5 n.pipes.length (Lst eP n.pipes))), (2, some (.ro 5 o.pipes.length (Lst eP o.pipes))), (1003, some (.blk 24 [.i n.pump, .ls 1])), (1005, some (.blk 24 [.i o.pump, .ls 2])), (1006, some (.blk 24 [.i 0, .v (.slice none 0 0)]))]⟩
      [CallOK Try.prog 43 [.agg [.i o.pump, .ls 2]] [2] [some (.ro 5 o.pipes.length (Lst eP o.pipes))] (.i (chk o)) []] (by kernel_rfl) v3 ?_
  clear v3
  refine aw_seq ?_
  refine aw_region [] [1, 3, 5, 6, 9, 22] [1, 2, 1003, 1005, 1006]
      ⟨81, [1, 2], [(1, .i node), (3, .l (.ref 1003 0)), (5, .l (.ref 1005 0)), (6, .l (.ref 1006 0)), (9, .i (chk o)), (22, .b (decide (chk o ≠ 0)))], [(1, some (.ro 5 n.pipes.length (Lst eP n.pipes))), (2, some (.ro 5 o.pipes.length (Lst eP o.pipes))), (1003, some (.blk 24 [.i n.pump, .ls 1])), (1005, some (.blk 24 [.i o.pump, .ls 2])), (1006, some (.blk 24 [.i 0, .v (.slice none 0 0)]))]⟩
      [] (by kernel_rfl) trivial ?_
  have h4 : (decide (chk o ≠ 0)) = false := by rw [chk_ok hob]; rfl
  refine aw_cond (b := decide (chk o ≠ 0)) rfl (fun h => Bool.noConfusion (h4.symm.trans h)) (fun _ => ?_)
  refine aw_skip ?_
  refine aw_seq ?_
  refine aw_block ?_
  refine aw_seq ?_
  have v5 : -9223372036854775808 ≤ (((n.pipes.length : Nat) : Int) - 1) ∧ (((n.pipes.length : Nat) : Int) - 1) < 9223372036854775808 := (by first | omega | rfl | assumption)
  have v6 : CallOK Try.prog 61 [.i 0, .i (((n.pipes.length : Nat) : Int) - 1), .ls 1031] [1031] [some (.vec 3 1 1 (exEl 1 [.i node]))] (.b (inB 0 (((n.pipes.length : Nat) : Int) - 1) node)) [] := (CallFr.to (within_fr 0 (((n.pipes.length : Nat) : Int) - 1) node) [(1, 1031)] (by kernel_rfl) (by kernel_rfl) (by kernel_rfl) (by kernel_rfl) (by kernel_rfl) (dem_cons rfl (le_vec_ro rfl (fun | 0, _ => (fun | 0, _ => rfl | 1, _ => rfl | 2, _ => rfl | 3, _ => rfl | 4, _ => rfl | (n+5), h => absurd h (by omega)) | (n+1), h => absurd h (by omega))) dem_nil))
  refine aw_region [(5, .new 1031), (6, .call [1031] (.b (inB 0 (((n.pipes.length : Nat) : Int) - 1) node)) [])] [1, 3, 5, 6, 25] [1, 2, 1003, 1005, 1006]
      ⟨81, [1, 2], [(1, .i node), (3, .l (.ref 1003 0)), (5, .l (.ref 1005 0)), (6, .l (.ref 1006 0)), (25, .b (!(inB 0 (((n.pipes.length : Nat) : Int) - 1) node)))], [(1, some (.ro 5 n.pipes.length (Lst eP n.pipes))), (2, some (.ro 5 o.pipes.length (Lst eP o.pipes))), (1003, some (.blk 24 [.i n.pump, .ls 1])), (1005, some (.blk 24 [.i o.pump, .ls 2])), (1006, some (.blk 24 [.i 0, .v (.slice none 0 0)]))]⟩
      [-9223372036854775808 ≤ (((n.pipes.length : Nat) : Int) - 1) ∧ (((n.pipes.length : Nat) : Int) - 1) < 9223372036854775808, CallOK Try.prog 61 [.i 0, .i (((n.pipes.length : Nat) : Int) - 1), .ls 1031] [1031] [some (.vec 3 1 1 (exEl 1 [.i node]))] (.b (inB 0 (((n.pipes.length : Nat) : Int) - 1) node)) []] (by kernel_rfl) ⟨v5, v6⟩ ?_
  clear v5 v6
  have h7 : (!(inB 0 (((n.pipes.length : Nat) : Int) - 1) node)) = false := by rw [hin] <;> rfl
  refine aw_cond (b := (!(inB 0 (((n.pipes.length : Nat) : Int) - 1) node))) rfl (fun h => Bool.noConfusion (h7.symm.trans h)) (fun _ => ?_)
  refine aw_seq ?_
  have v8 : (((n.pipes.length : Nat) : Int) + ((o.pipes.length : Nat) : Int)) = (((n.pipes.length + o.pipes.length) : Nat) : Int) := (by first | omega | rfl | assumption)
  have v9 : -9223372036854775808 ≤ (((n.pipes.length + o.pipes.length) : Nat) : Int) ∧ (((n.pipes.length + o.pipes.length) : Nat) : Int) < 9223372036854775808 := (by first | omega | rfl | assumption)
  have v10 : -9223372036854775808 ≤ ((((n.pipes.length + o.pipes.length) : Nat) : Int) - 1) ∧ ((((n.pipes.length + o.pipes.length) : Nat) : Int) - 1) < 9223372036854775808 := (by first | omega | rfl | assumption)
  refine aw_region [(6, .num (((n.pipes.length + o.pipes.length) : Nat) : Int))] [1, 3, 5, 6, 35] [1, 2, 1003, 1005, 1006]
      ⟨81, [1, 2], [(1, .i node), (3, .l (.ref 1003 0)), (5, .l (.ref 1005 0)), (6, .l (.ref 1006 0)), (35, .b (decide (60 < ((((n.pipes.length + o.pipes.length) : Nat) : Int) - 1))))], [(1, some (.ro 5 n.pipes.length (Lst eP n.pipes))), (2, some (.ro 5 o.pipes.length (Lst eP o.pipes))), (1003, some (.blk 24 [.i n.pump, .ls 1])), (1005, some (.blk 24 [.i o.pump, .ls 2])), (1006, some (.blk 24 [.i 0, .v (.slice none 0 0)]))]⟩
      [(((n.pipes.length : Nat) : Int) + ((o.pipes.length : Nat) : Int)) = (((n.pipes.length + o.pipes.length) : Nat) : Int), -9223372036854775808 ≤ (((n.pipes.length + o.pipes.length) : Nat) : Int) ∧ (((n.pipes.length + o.pipes.length) : Nat) : Int) < 9223372036854775808, -9223372036854775808 ≤ ((((n.pipes.length + o.pipes.length) : Nat) : Int) - 1) ∧ ((((n.pipes.length + o.pipes.length) : Nat) : Int) - 1) < 9223372036854775808] (by kernel_rfl) ⟨v8, v9, v10⟩ ?_
  clear v8 v9 v10
  refine aw_cond (b := decide (60 < ((((n.pipes.length + o.pipes.length) : Nat) : Int) - 1))) rfl (fun h => Bool.noConfusion (hfu.symm.trans h)) (fun _ => ?_)
  refine aw_skip ?_
  refine aw_seq ?_
  have v11 : CallOK Try.prog 83 [.ls 1] [1] [some (.ro 5 n.pipes.length (Lst eP n.pipes))] (.ls 10480) [(10480, some (.vec 54 5 ((n.pipes).length) (Lst eP n.pipes)))] := (CallFr.to (clone_fr n.pipes (by omega) (by omega)) [(1, 1), (2, 10480)] (by kernel_rfl) (by kernel_rfl) (by kernel_rfl) (by kernel_rfl) (by kernel_rfl) (dem_cons rfl (le_ro rfl el_rfl) dem_nil))
  refine aw_region [(2, .call [1] (.ls 10480) [(10480, some (.vec 54 5 ((n.pipes).length) (Lst eP n.pipes)))])] [1, 3, 5, 6] [2, 1003, 1005, 1006, 10480]
      ⟨81, [1, 2], [(1, .i node), (3, .l (.ref 1003 0)), (5, .l (.ref 1005 0)), (6, .l (.ref 1006 0))], [(2, some (.ro 5 o.pipes.length (Lst eP o.pipes))), (1003, some (.blk 24 [.i n.pump, .ls 10480])), (1005, some (.blk 24 [.i o.pump, .ls 2])), (1006, some (.blk 24 [.i 0, .v (.slice none 0 0)])), (10480, some (.vec 54 5 ((n.pipes).length) (Lst eP n.pipes)))]⟩
      [CallOK Try.prog 83 [.ls 1] [1] [some (.ro 5 n.pipes.length (Lst eP n.pipes))] (.ls 10480) [(10480, some (.vec 54 5 ((n.pipes).length) (Lst eP n.pipes)))]] (by kernel_rfl) v11 ?_
  clear v11
  refine aw_seq ?_
  have v12 : -9223372036854775808 ≤ ((((n.pipes).length : Nat) : Int) - 1) ∧ ((((n.pipes).length : Nat) : Int) - 1) < 9223372036854775808 := (by first | omega | rfl | assumption)
  refine aw_region [] [1, 3, 5, 6, 10] [2, 1003, 1005, 1006, 10480]
      ⟨81, [1, 2], [(1, .i node), (3, .l (.ref 1003 0)), (5, .l (.ref 1005 0)), (6, .l (.ref 1006 0)), (10, .i ((((n.pipes).length : Nat) : Int) - 1))], [(2, some (.ro 5 o.pipes.length (Lst eP o.pipes))), (1003, some (.blk 24 [.i n.pump, .ls 10480])), (1005, some (.blk 24 [.i o.pump, .ls 2])), (1006, some (.blk 24 [.i 0, .v (.slice none 0 0)])), (10480, some (.vec 54 5 ((n.pipes).length) (Lst eP n.pipes)))]⟩
      [-9223372036854775808 ≤ ((((n.pipes).length : Nat) : Int) - 1) ∧ ((((n.pipes).length : Nat) : Int) - 1) < 9223372036854775808] (by kernel_rfl) v12 ?_
  clear v12
  refine aw_seq ?_
  refine aw_seq ?_
  have v13 : 1 = ((1 : Nat) : Int) := (by first | omega | rfl | assumption)
  have v14 : o.pipes.length = o.pipes.length := (by first | omega | rfl | assumption)
  have v15 : 1 ≤ o.pipes.length := (by first | omega | rfl | assumption)
  have v16 : o.pipes.length ≤ o.pipes.length := (by first | omega | rfl | assumption)
  refine aw_region [(2, .cut 1056 1 o.pipes.length)] [1, 3, 6, 10, 56, 57, 58] [1003, 1006, 1056, 10480]
      ⟨81, [1, 2], [(1, .i node), (3, .l (.ref 1003 0)), (6, .l (.ref 1006 0)), (10, .i ((((n.pipes).length : Nat) : Int) - 1)), (56, .ls 1056), (57, .i (((o.pipes.length - 1) : Nat) : Int)), (58, .i 0)], [(1003, some (.blk 24 [.i n.pump, .ls 10480])), (1006, some (.blk 24 [.i 0, .v (.slice none 0 0)])), (1056, some (.ro 5 (o.pipes.length - 1) (fun i j => (Lst eP o.pipes) (1 + i) j))), (10480, some (.vec 54 5 ((n.pipes).length) (Lst eP n.pipes)))]⟩
      [1 = ((1 : Nat) : Int), o.pipes.length = o.pipes.length, 1 ≤ o.pipes.length, o.pipes.length ≤ o.pipes.length] (by kernel_rfl) ⟨v13, v14, v15, v16⟩ ?_
  clear v13 v14 v15 v16
  refine aw_block ?_
  refine aw_loop (ι := Nat) (fun zz => ⟨81, [1, 2], [(1, .i node), (3, .l (.ref 1003 0)), (6, .l (.ref 1006 0)), (10, .i ((((n.pipes).length : Nat) : Int) - 1)), (56, .ls 1056), (57, .i (((o.pipes.length - 1) : Nat) : Int)), (58, .i ((zz : Nat) : Int))], [(1003, some (.blk 24 [.i n.pump, .ls 9201])), (1006, some (.blk 24 [.i 0, .v (.slice none 0 0)])), (1056, some (.ro 5 (o.pipes.length - 1) (fun i j => (Lst eP o.pipes) (1 + i) j))), (9201, some (.vec 54 5 (n.pipes.length + zz) (Lst eP (graftT n.pipes o.pipes node zz))))]⟩) (fun zz => (zz ≤ o.pipes.length - 1)) (fun zz => o.pipes.length - 1 - zz) 0 (by first | omega | rfl | assumption | (simp; done))
      (Ent.ren [(9201, 10480)] rfl rfl (by kernel_rfl) (slots_cons rfl (slots_cons rfl (slots_cons rfl (slots_cons rfl (slots_cons rfl (slots_cons rfl (slots_cons rfl slots_nil))))))) (conts_cons rfl (le_blk rfl) (conts_cons rfl (le_blk rfl) (conts_cons rfl (le_ro rfl el_rfl) (conts_cons rfl (le_vec (by first | rfl | omega | assumption | (rw [graftT_zero]) | (simp)) (lst_eq (by first | rfl | omega | assumption | (rw [graftT_zero]) | (simp)))) conts_nil)))) (by kernel_rfl)) fun zz hp => ?_
  obtain ⟨k, rfl⟩ : ∃ x, x = zz := ⟨_, rfl⟩
  have hk := hp
  have hpp := fun h => hot (k + 1) h
  have hpb : ∀ h : k + 1 < o.pipes.length, -1 ≤ (ix o.pipes (k + 1)).parent ∧ (ix o.pipes (k + 1)).parent < ((k + 1 : Nat) : Int) := fun h => by have := hot (k + 1) h; rw [← ix_par] at this; exact ⟨this.1, this.2.1⟩
  rw [show k + 1 = 1 + k from Nat.add_comm _ _] at hpb
  show AW _ E _ _ ⟨81, [1, 2], [(1, .i node), (3, .l (.ref 1003 0)), (6, .l (.ref 1006 0)), (10, .i ((((n.pipes).length : Nat) : Int) - 1)), (56, .ls 1056), (57, .i (((o.pipes.length - 1) : Nat) : Int)), (58, .i ((k : Nat) : Int))], [(1003, some (.blk 24 [.i n.pump, .ls 9201])), (1006, some (.blk 24 [.i 0, .v (.slice none 0 0)])), (1056, some (.ro 5 (o.pipes.length - 1) (fun i j => (Lst eP o.pipes) (1 + i) j))), (9201, some (.vec 54 5 (n.pipes.length + k) (Lst eP (graftT n.pipes o.pipes node k))))]⟩
  refine aw_seq ?_
  refine aw_region [] [1, 3, 6, 10, 56, 57, 58, 59] [1003, 1006, 1056, 9201]
      ⟨81, [1, 2], [(1, .i node), (3, .l (.ref 1003 0)), (6, .l (.ref 1006 0)), (10, .i ((((n.pipes).length : Nat) : Int) - 1)), (56, .ls 1056), (57, .i (((o.pipes.length - 1) : Nat) : Int)), (58, .i ((k : Nat) : Int)), (59, .b (decide (((k : Nat) : Int) < (((o.pipes.length - 1) : Nat) : Int))))], [(1003, some (.blk 24 [.i n.pump, .ls 9201])), (1006, some (.blk 24 [.i 0, .v (.slice none 0 0)])), (1056, some (.ro 5 (o.pipes.length - 1) (fun i j => (Lst eP o.pipes) (1 + i) j))), (9201, some (.vec 54 5 (n.pipes.length + k) (Lst eP (graftT n.pipes o.pipes node k))))]⟩
      [] (by kernel_rfl) trivial ?_
  refine aw_seq ?_
  refine aw_cond (b := decide (((k : Nat) : Int) < (((o.pipes.length - 1) : Nat) : Int))) rfl (fun h17 => ?_) (fun h17 => ?_)
  ·
    have h17p : ((k : Nat) : Int) < (((o.pipes.length - 1) : Nat) : Int) := by first | exact of_decide_eq_true h17 | (have := h17; simp at this; first | exact this | omega)
    refine aw_skip ?_
    refine aw_seq ?_
    refine aw_block ?_
    refine aw_seq ?_
    have v18 : ((k : Nat) : Int) = ((k : Nat) : Int) := (by first | omega | rfl | assumption)
    have v19 : k < (o.pipes.length - 1) := (by first | omega | rfl | assumption)
    have v20 : k < (o.pipes.length - 1) := (by first | omega | rfl | assumption)
    refine aw_region [(0, .idx k), (2, .new 1012)] [1, 3, 6, 10, 12, 56, 57, 58] [1003, 1006, 1012, 1056, 9201]
        ⟨81, [1, 2], [(1, .i node), (3, .l (.ref 1003 0)), (6, .l (.ref 1006 0)), (10, .i ((((n.pipes).length : Nat) : Int) - 1)), (12, .l (.ref 1012 0)), (56, .ls 1056), (57, .i (((o.pipes.length - 1) : Nat) : Int)), (58, .i ((k : Nat) : Int))], [(1003, some (.blk 24 [.i n.pump, .ls 9201])), (1006, some (.blk 24 [.i 0, .v (.slice none 0 0)])), (1012, some (.blk 54 [.i ((ix o.pipes (1 + k)).parent), .i ((ix o.pipes (1 + k)).length), .i ((ix o.pipes (1 + k)).bore), .i ((ix o.pipes (1 + k)).drop), .i ((ix o.pipes (1 + k)).taps)])), (1056, some (.ro 5 (o.pipes.length - 1) (fun i j => (Lst eP o.pipes) (1 + i) j))), (9201, some (.vec 54 5 (n.pipes.length + k) (Lst eP (graftT n.pipes o.pipes node k))))]⟩
        [((k : Nat) : Int) = ((k : Nat) : Int), k < (o.pipes.length - 1), k < (o.pipes.length - 1)] (by kernel_rfl) ⟨v18, v19, v20⟩ ?_
    clear v18 v19 v20
    refine aw_seq ?_
    refine aw_seq ?_
    have v21 : -9223372036854775808 ≤ ((ix o.pipes (1 + k)).parent + ((((n.pipes).length : Nat) : Int) - 1)) ∧ ((ix o.pipes (1 + k)).parent + ((((n.pipes).length : Nat) : Int) - 1)) < 9223372036854775808 := (by first | omega | rfl | assumption)
    refine aw_region [] [1, 3, 6, 10, 12, 56, 57, 58] [1003, 1006, 1012, 1056, 9201]
        ⟨81, [1, 2], [(1, .i node), (3, .l (.ref 1003 0)), (6, .l (.ref 1006 0)), (10, .i ((((n.pipes).length : Nat) : Int) - 1)), (12, .l (.ref 1012 0)), (56, .ls 1056), (57, .i (((o.pipes.length - 1) : Nat) : Int)), (58, .i ((k : Nat) : Int))], [(1003, some (.blk 24 [.i n.pump, .ls 9201])), (1006, some (.blk 24 [.i 0, .v (.slice none 0 0)])), (1012, some (.blk 54 [.i ((ix o.pipes (1 + k)).parent + ((((n.pipes).length : Nat) : Int) - 1)), .i ((ix o.pipes (1 + k)).length), .i ((ix o.pipes (1 + k)).bore), .i ((ix o.pipes (1 + k)).drop), .i ((ix o.pipes (1 + k)).taps)])), (1056, some (.ro 5 (o.pipes.length - 1) (fun i j => (Lst eP o.pipes) (1 + i) j))), (9201, some (.vec 54 5 (n.pipes.length + k) (Lst eP (graftT n.pipes o.pipes node k))))]⟩
        [-9223372036854775808 ≤ ((ix o.pipes (1 + k)).parent + ((((n.pipes).length : Nat) : Int) - 1)) ∧ ((ix o.pipes (1 + k)).parent + ((((n.pipes).length : Nat) : Int) - 1)) < 9223372036854775808] (by kernel_rfl) v21 ?_
    clear v21
    refine aw_seq ?_
    refine aw_region [] [1, 3, 6, 10, 12, 56, 57, 58, 70] [1003, 1006, 1012, 1056, 9201]
        ⟨81, [1, 2], [(1, .i node), (3, .l (.ref 1003 0)), (6, .l (.ref 1006 0)), (10, .i ((((n.pipes).length : Nat) : Int) - 1)), (12, .l (.ref 1012 0)), (56, .ls 1056), (57, .i (((o.pipes.length - 1) : Nat) : Int)), (58, .i ((k : Nat) : Int)), (70, .b (decide (((ix o.pipes (1 + k)).parent + ((((n.pipes).length : Nat) : Int) - 1)) = ((((n.pipes).length : Nat) : Int) - 1))))], [(1003, some (.blk 24 [.i n.pump, .ls 9201])), (1006, some (.blk 24 [.i 0, .v (.slice none 0 0)])), (1012, some (.blk 54 [.i ((ix o.pipes (1 + k)).parent + ((((n.pipes).length : Nat) : Int) - 1)), .i ((ix o.pipes (1 + k)).length), .i ((ix o.pipes (1 + k)).bore), .i ((ix o.pipes (1 + k)).drop), .i ((ix o.pipes (1 + k)).taps)])), (1056, some (.ro 5 (o.pipes.length - 1) (fun i j => (Lst eP o.pipes) (1 + i) j))), (9201, some (.vec 54 5 (n.pipes.length + k) (Lst eP (graftT n.pipes o.pipes node k))))]⟩
        [] (by kernel_rfl) trivial ?_
    refine aw_cond (b := decide (((ix o.pipes (1 + k)).parent + ((((n.pipes).length : Nat) : Int) - 1)) = ((((n.pipes).length : Nat) : Int) - 1))) rfl (fun h22 => ?_) (fun h22 => ?_)
    ·
      have h22p : ((ix o.pipes (1 + k)).parent + ((((n.pipes).length : Nat) : Int) - 1)) = ((((n.pipes).length : Nat) : Int) - 1) := by first | exact of_decide_eq_true h22 | (have := h22; simp at this; first | exact this | omega)
      refine aw_region [] [1, 3, 6, 10, 12, 56, 57, 58] [1003, 1006, 1012, 1056, 9201]
          ⟨81, [1, 2], [(1, .i node), (3, .l (.ref 1003 0)), (6, .l (.ref 1006 0)), (10, .i ((((n.pipes).length : Nat) : Int) - 1)), (12, .l (.ref 1012 0)), (56, .ls 1056), (57, .i (((o.pipes.length - 1) : Nat) : Int)), (58, .i ((k : Nat) : Int))], [(1003, some (.blk 24 [.i n.pump, .ls 9201])), (1006, some (.blk 24 [.i 0, .v (.slice none 0 0)])), (1012, some (.blk 54 [.i node, .i ((ix o.pipes (1 + k)).length), .i ((ix o.pipes (1 + k)).bore), .i ((ix o.pipes (1 + k)).drop), .i ((ix o.pipes (1 + k)).taps)])), (1056, some (.ro 5 (o.pipes.length - 1) (fun i j => (Lst eP o.pipes) (1 + i) j))), (9201, some (.vec 54 5 (n.pipes.length + k) (Lst eP (graftT n.pipes o.pipes node k))))]⟩
          [] (by kernel_rfl) trivial ?_
      have v23 : (n.pipes.length + k) + 1 ≤ 1000000000000 := (by first | omega | rfl | assumption)
      have v24 : ((n.pipes.length + k) + 1) * 40 ≤ 140737488355328 := (by first | omega | rfl | assumption)
      have v25 : AppOk 5 (n.pipes.length + k) 1 (Lst eP (graftT n.pipes o.pipes node k)) (exEl 5 [.i node, .i ((ix o.pipes (1 + k)).length), .i ((ix o.pipes (1 + k)).bore), .i ((ix o.pipes (1 + k)).drop), .i ((ix o.pipes (1 + k)).taps)]) ((n.pipes.length + k) + 1) (Lst eP ((graftT n.pipes o.pipes node k) ++ [(⟨node, (ix o.pipes (1 + k)).length, (ix o.pipes (1 + k)).bore, (ix o.pipes (1 + k)).drop, (ix o.pipes (1 + k)).taps⟩ : Pipe)])) := (app_one (by first | rfl | omega | (rw [graftT_len] <;> omega)) (by first | rfl | omega | (rw [graftT_len] <;> omega)) (fun | 0, _ => rfl | 1, _ => rfl | 2, _ => rfl | 3, _ => rfl | 4, _ => rfl | (n + 5), h => absurd h (by omega)))
      refine aw_region [(3, .new 1076), (4, .lst 1077 ((n.pipes.length + k) + 1) (Lst eP ((graftT n.pipes o.pipes node k) ++ [(⟨node, (ix o.pipes (1 + k)).length, (ix o.pipes (1 + k)).bore, (ix o.pipes (1 + k)).drop, (ix o.pipes (1 + k)).taps⟩ : Pipe)])))] [1, 3, 6, 10, 56, 57, 58] [1003, 1006, 1056, 1077]
          ⟨81, [1, 2], [(1, .i node), (3, .l (.ref 1003 0)), (6, .l (.ref 1006 0)), (10, .i ((((n.pipes).length : Nat) : Int) - 1)), (56, .ls 1056), (57, .i (((o.pipes.length - 1) : Nat) : Int)), (58, .i ((k : Nat) : Int))], [(1003, some (.blk 24 [.i n.pump, .ls 1077])), (1006, some (.blk 24 [.i 0, .v (.slice none 0 0)])), (1056, some (.ro 5 (o.pipes.length - 1) (fun i j => (Lst eP o.pipes) (1 + i) j))), (1077, some (.vec 54 5 ((n.pipes.length + k) + 1) (Lst eP ((graftT n.pipes o.pipes node k) ++ [(⟨node, (ix o.pipes (1 + k)).length, (ix o.pipes (1 + k)).bore, (ix o.pipes (1 + k)).drop, (ix o.pipes (1 + k)).taps⟩ : Pipe)]))))]⟩
          [(n.pipes.length + k) + 1 ≤ 1000000000000, ((n.pipes.length + k) + 1) * 40 ≤ 140737488355328, AppOk 5 (n.pipes.length + k) 1 (Lst eP (graftT n.pipes o.pipes node k)) (exEl 5 [.i node, .i ((ix o.pipes (1 + k)).length), .i ((ix o.pipes (1 + k)).bore), .i ((ix o.pipes (1 + k)).drop), .i ((ix o.pipes (1 + k)).taps)]) ((n.pipes.length + k) + 1) (Lst eP ((graftT n.pipes o.pipes node k) ++ [(⟨node, (ix o.pipes (1 + k)).length, (ix o.pipes (1 + k)).bore, (ix o.pipes (1 + k)).drop, (ix o.pipes (1 + k)).taps⟩ : Pipe)]))] (by kernel_rfl) ⟨v23, v24, v25⟩ ?_
      clear v23 v24 v25
      have v26 : (((k : Nat) : Int) + 1) = (((k + 1) : Nat) : Int) := (by first | omega | rfl | assumption)
      have v27 : -9223372036854775808 ≤ (((k + 1) : Nat) : Int) ∧ (((k + 1) : Nat) : Int) < 9223372036854775808 := (by first | omega | rfl | assumption)
      refine aw_region [(0, .num (((k + 1) : Nat) : Int))] [1, 3, 6, 10, 56, 57, 58] [1003, 1006, 1056, 1077]
          ⟨81, [1, 2], [(1, .i node), (3, .l (.ref 1003 0)), (6, .l (.ref 1006 0)), (10, .i ((((n.pipes).length : Nat) : Int) - 1)), (56, .ls 1056), (57, .i (((o.pipes.length - 1) : Nat) : Int)), (58, .i (((k + 1) : Nat) : Int))], [(1003, some (.blk 24 [.i n.pump, .ls 1077])), (1006, some (.blk 24 [.i 0, .v (.slice none 0 0)])), (1056, some (.ro 5 (o.pipes.length - 1) (fun i j => (Lst eP o.pipes) (1 + i) j))), (1077, some (.vec 54 5 ((n.pipes.length + k) + 1) (Lst eP ((graftT n.pipes o.pipes node k) ++ [(⟨node, (ix o.pipes (1 + k)).length, (ix o.pipes (1 + k)).bore, (ix o.pipes (1 + k)).drop, (ix o.pipes (1 + k)).taps⟩ : Pipe)]))))]⟩
          [(((k : Nat) : Int) + 1) = (((k + 1) : Nat) : Int), -9223372036854775808 ≤ (((k + 1) : Nat) : Int) ∧ (((k + 1) : Nat) : Int) < 9223372036854775808] (by kernel_rfl) ⟨v26, v27⟩ ?_
      clear v26 v27
      exact ⟨k + 1, (by first | omega | rfl | assumption | (simp; done)), (show o.pipes.length - 1 - (k + 1) < o.pipes.length - 1 - k by first | omega | rfl | assumption),
          (Ent.ren [(9201, 1077)] rfl rfl (by kernel_rfl) (slots_cons rfl (slots_cons rfl (slots_cons rfl (slots_cons rfl (slots_cons rfl (slots_cons rfl (slots_cons rfl slots_nil))))))) (conts_cons rfl (le_blk rfl) (conts_cons rfl (le_blk rfl) (conts_cons rfl (le_ro rfl el_rfl) (conts_cons rfl (le_vec rfl (lst_eq (by first | rfl | omega | assumption | (rw [graftT_succ _ _ _ (by omega), graftP_zero _ _ (by omega)] <;> rfl) | (rw [graftT_succ _ _ _ (by omega), graftP_pos _ _ (by omega)] <;> rfl) | (omega)))) conts_nil)))) (by kernel_rfl))⟩
    ·
      have h22p : ((ix o.pipes (1 + k)).parent + ((((n.pipes).length : Nat) : Int) - 1)) ≠ ((((n.pipes).length : Nat) : Int) - 1) := by first | (have := of_decide_eq_false h22; omega) | (have := h22; simp at this; first | exact this | omega)
      refine aw_skip ?_
      have v28 : (n.pipes.length + k) + 1 ≤ 1000000000000 := (by first | omega | rfl | assumption)
      have v29 : ((n.pipes.length + k) + 1) * 40 ≤ 140737488355328 := (by first | omega | rfl | assumption)
      have v30 : AppOk 5 (n.pipes.length + k) 1 (Lst eP (graftT n.pipes o.pipes node k)) (exEl 5 [.i ((ix o.pipes (1 + k)).parent + ((((n.pipes).length : Nat) : Int) - 1)), .i ((ix o.pipes (1 + k)).length), .i ((ix o.pipes (1 + k)).bore), .i ((ix o.pipes (1 + k)).drop), .i ((ix o.pipes (1 + k)).taps)]) ((n.pipes.length + k) + 1) (Lst eP ((graftT n.pipes o.pipes node k) ++ [(⟨((ix o.pipes (1 + k)).parent + ((((n.pipes).length : Nat) : Int) - 1)), (ix o.pipes (1 + k)).length, (ix o.pipes (1 + k)).bore, (ix o.pipes (1 + k)).drop, (ix o.pipes (1 + k)).taps⟩ : Pipe)])) := (app_one (by first | rfl | omega | (rw [graftT_len] <;> omega)) (by first | rfl | omega | (rw [graftT_len] <;> omega)) (fun | 0, _ => rfl | 1, _ => rfl | 2, _ => rfl | 3, _ => rfl | 4, _ => rfl | (n + 5), h => absurd h (by omega)))
      refine aw_region [(3, .new 1076), (4, .lst 1077 ((n.pipes.length + k) + 1) (Lst eP ((graftT n.pipes o.pipes node k) ++ [(⟨((ix o.pipes (1 + k)).parent + ((((n.pipes).length : Nat) : Int) - 1)), (ix o.pipes (1 + k)).length, (ix o.pipes (1 + k)).bore, (ix o.pipes (1 + k)).drop, (ix o.pipes (1 + k)).taps⟩ : Pipe)])))] [1, 3, 6, 10, 56, 57, 58] [1003, 1006, 1056, 1077]
          ⟨81, [1, 2], [(1, .i node), (3, .l (.ref 1003 0)), (6, .l (.ref 1006 0)), (10, .i ((((n.pipes).length : Nat) : Int) - 1)), (56, .ls 1056), (57, .i (((o.pipes.length - 1) : Nat) : Int)), (58, .i ((k : Nat) : Int))], [(1003, some (.blk 24 [.i n.pump, .ls 1077])), (1006, some (.blk 24 [.i 0, .v (.slice none 0 0)])), (1056, some (.ro 5 (o.pipes.length - 1) (fun i j => (Lst eP o.pipes) (1 + i) j))), (1077, some (.vec 54 5 ((n.pipes.length + k) + 1) (Lst eP ((graftT n.pipes o.pipes node k) ++ [(⟨((ix o.pipes (1 + k)).parent + ((((n.pipes).length : Nat) : Int) - 1)), (ix o.pipes (1 + k)).length, (ix o.pipes (1 + k)).bore, (ix o.pipes (1 + k)).drop, (ix o.pipes (1 + k)).taps⟩ : Pipe)]))))]⟩
          [(n.pipes.length + k) + 1 ≤ 1000000000000, ((n.pipes.length + k) + 1) * 40 ≤ 140737488355328, AppOk 5 (n.pipes.length + k) 1 (Lst eP (graftT n.pipes o.pipes node k)) (exEl 5 [.i ((ix o.pipes (1 + k)).parent + ((((n.pipes).length : Nat) : Int) - 1)), .i ((ix o.pipes (1 + k)).length), .i ((ix o.pipes (1 + k)).bore), .i ((ix o.pipes (1 + k)).drop), .i ((ix o.pipes (1 + k)).taps)]) ((n.pipes.length + k) + 1) (Lst eP ((graftT n.pipes o.pipes node k) ++ [(⟨((ix o.pipes (1 + k)).parent + ((((n.pipes).length : Nat) : Int) - 1)), (ix o.pipes (1 + k)).length, (ix o.pipes (1 + k)).bore, (ix o.pipes (1 + k)).drop, (ix o.pipes (1 + k)).taps⟩ : Pipe)]))] (by kernel_rfl) ⟨v28, v29, v30⟩ ?_
      clear v28 v29 v30
      have v31 : (((k : Nat) : Int) + 1) = (((k + 1) : Nat) : Int) := (by first | omega | rfl | assumption)
      have v32 : -9223372036854775808 ≤ (((k + 1) : Nat) : Int) ∧ (((k + 1) : Nat) : Int) < 9223372036854775808 := (by first | omega | rfl | assumption)
      refine aw_region [(0, .num (((k + 1) : Nat) : Int))] [1, 3, 6, 10, 56, 57, 58] [1003, 1006, 1056, 1077]
          ⟨81, [1, 2], [(1, .i node), (3, .l (.ref 1003 0)), (6, .l (.ref 1006 0)), (10, .i ((((n.pipes).length : Nat) : Int) - 1)), (56, .ls 1056), (57, .i (((o.pipes.length - 1) : Nat) : Int)), (58, .i (((k + 1) : Nat) : Int))], [(1003, some (.blk 24 [.i n.pump, .ls 1077])), (1006, some (.blk 24 [.i 0, .v (.slice none 0 0)])), (1056, some (.ro 5 (o.pipes.length - 1) (fun i j => (Lst eP o.pipes) (1 + i) j))), (1077, some (.vec 54 5 ((n.pipes.length + k) + 1) (Lst eP ((graftT n.pipes o.pipes node k) ++ [(⟨((ix o.pipes (1 + k)).parent + ((((n.pipes).length : Nat) : Int) - 1)), (ix o.pipes (1 + k)).length, (ix o.pipes (1 + k)).bore, (ix o.pipes (1 + k)).drop, (ix o.pipes (1 + k)).taps⟩ : Pipe)]))))]⟩
          [(((k : Nat) : Int) + 1) = (((k + 1) : Nat) : Int), -9223372036854775808 ≤ (((k + 1) : Nat) : Int) ∧ (((k + 1) : Nat) : Int) < 9223372036854775808] (by kernel_rfl) ⟨v31, v32⟩ ?_
      clear v31 v32
      exact ⟨k + 1, (by first | omega | rfl | assumption | (simp; done)), (show o.pipes.length - 1 - (k + 1) < o.pipes.length - 1 - k by first | omega | rfl | assumption),
          (Ent.ren [(9201, 1077)] rfl rfl (by kernel_rfl) (slots_cons rfl (slots_cons rfl (slots_cons rfl (slots_cons rfl (slots_cons rfl (slots_cons rfl (slots_cons rfl slots_nil))))))) (conts_cons rfl (le_blk rfl) (conts_cons rfl (le_blk rfl) (conts_cons rfl (le_ro rfl el_rfl) (conts_cons rfl (le_vec rfl (lst_eq (by first | rfl | omega | assumption | (rw [graftT_succ _ _ _ (by omega), graftP_zero _ _ (by omega)] <;> rfl) | (rw [graftT_succ _ _ _ (by omega), graftP_pos _ _ (by omega)] <;> rfl) | (omega)))) conts_nil)))) (by kernel_rfl))⟩
  ·
    have h17p : (((o.pipes.length - 1) : Nat) : Int) ≤ ((k : Nat) : Int) := by first | (have := of_decide_eq_false h17; omega) | (have := h17; simp at this; first | exact this | omega)
    refine aw_exit (exit_then (exit_then (exit_in ?_)))
    refine aw_seq ?_
    refine aw_region [] [6, 7] [1006, 9201]
        ⟨81, [1, 2], [(6, .l (.ref 1006 0)), (7, .i 0)], [(1006, some (.blk 24 [.i n.pump, .ls 9201])), (9201, some (.vec 54 5 (n.pipes.length + k) (Lst eP (graftT n.pipes o.pipes node k))))]⟩
        [] (by kernel_rfl) trivial ?_
    exact aw_ret ⟨.inr rfl, end_ok ⟨81, [1, 2], [(6, .l (.ref 8006 0)), (7, .i 0)], [(11, some (.vec 54 5 (n.pipes.length + (o.pipes.length - 1)) (Lst eP (graftT n.pipes o.pipes node (o.pipes.length - 1))))), (8006, some (.blk 24 [.i n.pump, .ls 11]))]⟩
        (Ent.ren [(8006, 1006), (11, 9201)] rfl rfl (by kernel_rfl) (slots_cons rfl (slots_cons rfl slots_nil)) (conts_cons rfl (le_vec (by first | rfl | omega | assumption | (rw [show k = o.pipes.length - 1 by omega])) (lst_eq (by first | rfl | omega | assumption | (rw [show k = o.pipes.length - 1 by omega])))) (conts_cons rfl (le_blk rfl) conts_nil)) (by kernel_rfl)) rfl (by kernel_rfl) (wr_cons rfl (plain_Lst plain_eP) wr_nil) (by kernel_rfl)⟩
set_option maxHeartbeats 4000000 in
set_option maxRecDepth 100000 in
theorem refGraft_bad (n o : Net) (node : Int) (hn : n.pipes.length ≤ maxLen) (ho : o.pipes.length ≤ maxLen) (h0 : -9223372036854775808 ≤ node) (h1 : node < 9223372036854775808) (hbad : netB n = false) : CallFr Try.prog 51 [.agg [.i n.pump, .ls 1], .i node, .agg [.i o.pump, .ls 2]] [1, 2] [some (.ro 5 n.pipes.length (Lst eP n.pipes)), some (.ro 5 o.pipes.length (Lst eP o.pipes))] (.tup [.agg [.i 0, .v (.slice none 0 0)], .one (.i 2)]) [] := by
  have hML : maxLen = 9223372036854775807 := rfl
  refine callFr_of (fn := Try.f51) (by kernel_rfl) rfl (by kernel_rfl) (by kernel_rfl) fun E => ?_
  refine aw_ent (T := ⟨77, [1, 2], [(0, .agg [.i n.pump, .ls 1]), (1, .i node), (2, .agg [.i o.pump, .ls 2])], [(1, some (.ro 5 n.pipes.length (Lst eP n.pipes))), (2, some (.ro 5 o.pipes.length (Lst eP o.pipes)))]⟩) (Ent.refl _) ?_
  refine aw_seq ?_
  refine aw_region [(0, .new 1003), (1, .new 1005), (2, .new 1006)] [1, 3, 5, 6] [1, 2, 1003, 1005, 1006]
      ⟨77, [1, 2], [(1, .i node), (3, .l (.ref 1003 0)), (5, .l (.ref 1005 0)), (6, .l (.ref 1006 0))], [(1, some (.ro 5 n.pipes.length (Lst eP n.pipes))), (2, some (.ro 5 o.pipes.length (Lst eP o.pipes))), (1003, some (.blk 24 [.i n.pump, .ls 1])), (1005, some (.blk 24 [.i o.pump, .ls 2])), (1006, some (.blk 24 [.i 0, .v (.slice none 0 0)]))]⟩
      [] (by kernel_rfl) trivial ?_
  refine aw_seq ?_
  refine aw_seq ?_
  have h1 : (!(netB n)) = true := by rw [hbad] <;> rfl
  have v2 : CallOK Try.prog 32 [.agg [.i n.pump, .ls 1]] [1] [some (.ro 5 n.pipes.length (Lst eP n.pipes))] (.b (netB n)) [] := (CallFr.to (refNet_fr n (by omega)) [(1, 1)] (by kernel_rfl) (by kernel_rfl) (by kernel_rfl) (by kernel_rfl) (by kernel_rfl) (dem_cons rfl (le_ro rfl el_rfl) dem_nil))
  refine aw_region [(1, .call [1] (.b (netB n)) []), (3, .dec true)] [1, 3, 5, 6, 18] [1, 2, 1003, 1005, 1006]
      ⟨77, [1, 2], [(1, .i node), (3, .l (.ref 1003 0)), (5, .l (.ref 1005 0)), (6, .l (.ref 1006 0)), (18, .b true)], [(1, some (.ro 5 n.pipes.length (Lst eP n.pipes))), (2, some (.ro 5 o.pipes.length (Lst eP o.pipes))), (1003, some (.blk 24 [.i n.pump, .ls 1])), (1005, some (.blk 24 [.i o.pump, .ls 2])), (1006, some (.blk 24 [.i 0, .v (.slice none 0 0)]))]⟩
      [CallOK Try.prog 32 [.agg [.i n.pump, .ls 1]] [1] [some (.ro 5 n.pipes.length (Lst eP n.pipes))] (.b (netB n)) [], (!(netB n)) = true] (by kernel_rfl) ⟨v2, h1⟩ ?_
  clear v2
  refine aw_true rfl ?_
  refine aw_seq ?_
  refine aw_region [] [6, 7] [1006]
      ⟨77, [1, 2], [(6, .l (.ref 1006 0)), (7, .i 2)], [(1006, some (.blk 24 [.i 0, .v (.slice none 0 0)]))]⟩
      [] (by kernel_rfl) trivial ?_
  exact aw_ret (ret_then ⟨.inr rfl, end_ok ⟨77, [1, 2], [(6, .l (.ref 8006 0)), (7, .i 2)], [(8006, some (.blk 24 [.i 0, .v (.slice none 0 0)]))]⟩
      (Ent.ren [(8006, 1006)] rfl rfl (by kernel_rfl) (slots_cons rfl (slots_cons rfl slots_nil)) (conts_cons rfl (le_blk rfl) conts_nil) (by kernel_rfl)) rfl (by kernel_rfl) wr_nil (by kernel_rfl)⟩)
set_option maxHeartbeats 4000000 in
set_option maxRecDepth 100000 in
theorem refGraft_bad2 (n o : Net) (node : Int) (hn : n.pipes.length ≤ maxLen) (ho : o.pipes.length ≤ maxLen) (h0 : -9223372036854775808 ≤ node) (h1 : node < 9223372036854775808) (hok : netB n = true) (hbad : netB o = false) : CallFr Try.prog 51 [.agg [.i n.pump, .ls 1], .i node, .agg [.i o.pump, .ls 2]] [1, 2] [some (.ro 5 n.pipes.length (Lst eP n.pipes)), some (.ro 5 o.pipes.length (Lst eP o.pipes))] (.tup [.agg [.i 0, .v (.slice none 0 0)], .one (.i 2)]) [] := by
  have hML : maxLen = 9223372036854775807 := rfl
  refine callFr_of (fn := Try.f51) (by kernel_rfl) rfl (by kernel_rfl) (by kernel_rfl) fun E => ?_
  refine aw_ent (T := ⟨77, [1, 2], [(0, .agg [.i n.pump, .ls 1]), (1, .i node), (2, .agg [.i o.pump, .ls 2])], [(1, some (.ro 5 n.pipes.length (Lst eP n.pipes))), (2, some (.ro 5 o.pipes.length (Lst eP o.pipes)))]⟩) (Ent.refl _) ?_
  refine aw_seq ?_
  refine aw_region [(0, .new 1003), (1, .new 1005), (2, .new 1006)] [1, 3, 5, 6] [1, 2, 1003, 1005, 1006]
      ⟨77, [1, 2], [(1, .i node), (3, .l (.ref 1003 0)), (5, .l (.ref 1005 0)), (6, .l (.ref 1006 0))], [(1, some (.ro 5 n.pipes.length (Lst eP n.pipes))), (2, some (.ro 5 o.pipes.length (Lst eP o.pipes))), (1003, some (.blk 24 [.i n.pump, .ls 1])), (1005, some (.blk 24 [.i o.pump, .ls 2])), (1006, some (.blk 24 [.i 0, .v (.slice none 0 0)]))]⟩
      [] (by kernel_rfl) trivial ?_
  refine aw_seq ?_
  refine aw_seq ?_
  have h1 : (!(netB n)) = false := by rw [hok] <;> rfl
  have v2 : CallOK Try.prog 32 [.agg [.i n.pump, .ls 1]] [1] [some (.ro 5 n.pipes.length (Lst eP n.pipes))] (.b (netB n)) [] := (CallFr.to (refNet_fr n (by omega)) [(1, 1)] (by kernel_rfl) (by kernel_rfl) (by kernel_rfl) (by kernel_rfl) (by kernel_rfl) (dem_cons rfl (le_ro rfl el_rfl) dem_nil))
  have v3 : CallOK Try.prog 32 [.agg [.i o.pump, .ls 2]] [2] [some (.ro 5 o.pipes.length (Lst eP o.pipes))] (.b (netB o)) [] := (CallFr.to (refNet_fr o (by omega)) [(1, 2)] (by kernel_rfl) (by kernel_rfl) (by kernel_rfl) (by kernel_rfl) (by kernel_rfl) (dem_cons rfl (le_ro rfl el_rfl) dem_nil))
  refine aw_region [(1, .call [1] (.b (netB n)) []), (3, .dec false), (5, .call [2] (.b (netB o)) [])] [1, 3, 5, 6, 18] [1, 2, 1003, 1005, 1006]
      ⟨77, [1, 2], [(1, .i node), (3, .l (.ref 1003 0)), (5, .l (.ref 1005 0)), (6, .l (.ref 1006 0)), (18, .b (!(netB o)))], [(1, some (.ro 5 n.pipes.length (Lst eP n.pipes))), (2, some (.ro 5 o.pipes.length (Lst eP o.pipes))), (1003, some (.blk 24 [.i n.pump, .ls 1])), (1005, some (.blk 24 [.i o.pump, .ls 2])), (1006, some (.blk 24 [.i 0, .v (.slice none 0 0)]))]⟩
      [CallOK Try.prog 32 [.agg [.i n.pump, .ls 1]] [1] [some (.ro 5 n.pipes.length (Lst eP n.pipes))] (.b (netB n)) [], (!(netB n)) = false, CallOK Try.prog 32 [.agg [.i o.pump, .ls 2]] [2] [some (.ro 5 o.pipes.length (Lst eP o.pipes))] (.b (netB o)) []] (by kernel_rfl) ⟨v2, h1, v3⟩ ?_
  clear v2 v3
  have h4 : (!(netB o)) = true := by rw [hbad] <;> rfl
  refine aw_cond (b := (!(netB o))) rfl (fun _ => ?_) (fun h => Bool.noConfusion (h4.symm.trans h))
  refine aw_seq ?_
  refine aw_region [] [6, 7] [1006]
      ⟨77, [1, 2], [(6, .l (.ref 1006 0)), (7, .i 2)], [(1006, some (.blk 24 [.i 0, .v (.slice none 0 0)]))]⟩
      [] (by kernel_rfl) trivial ?_
  exact aw_ret (ret_then ⟨.inr rfl, end_ok ⟨77, [1, 2], [(6, .l (.ref 8006 0)), (7, .i 2)], [(8006, some (.blk 24 [.i 0, .v (.slice none 0 0)]))]⟩
      (Ent.ren [(8006, 1006)] rfl rfl (by kernel_rfl) (slots_cons rfl (slots_cons rfl slots_nil)) (conts_cons rfl (le_blk rfl) conts_nil) (by kernel_rfl)) rfl (by kernel_rfl) wr_nil (by kernel_rfl)⟩)
set_option maxHeartbeats 4000000 in
set_option maxRecDepth 100000 in
theorem refGraft_none (n o : Net) (node : Int) (hn : n.pipes.length ≤ maxLen) (ho : o.pipes.length ≤ maxLen) (h0 : -9223372036854775808 ≤ node) (h1 : node < 9223372036854775808) (hok : netB n = true) (hob : netB o = true) (hin : inB 0 (((n.pipes.length : Nat) : Int) - 1) node = false) : CallFr Try.prog 51 [.agg [.i n.pump, .ls 1], .i node, .agg [.i o.pump, .ls 2]] [1, 2] [some (.ro 5 n.pipes.length (Lst eP n.pipes)), some (.ro 5 o.pipes.length (Lst eP o.pipes))] (.tup [.agg [.i 0, .v (.slice none 0 0)], .one (.i 7)]) [] := by
  have hML : maxLen = 9223372036854775807 := rfl
  have hnl := netB_len hok
  have hol := netB_len hob
  refine callFr_of (fn := Try.f51) (by kernel_rfl) rfl (by kernel_rfl) (by kernel_rfl) fun E => ?_
  refine aw_ent (T := ⟨77, [1, 2], [(0, .agg [.i n.pump, .ls 1]), (1, .i node), (2, .agg [.i o.pump, .ls 2])], [(1, some (.ro 5 n.pipes.length (Lst eP n.pipes))), (2, some (.ro 5 o.pipes.length (Lst eP o.pipes)))]⟩) (Ent.refl _) ?_
  refine aw_seq ?_
  refine aw_region [(0, .new 1003), (1, .new 1005), (2, .new 1006)] [1, 3, 5, 6] [1, 2, 1003, 1005, 1006]
      ⟨77, [1, 2], [(1, .i node), (3, .l (.ref 1003 0)), (5, .l (.ref 1005 0)), (6, .l (.ref 1006 0))], [(1, some (.ro 5 n.pipes.length (Lst eP n.pipes))), (2, some (.ro 5 o.pipes.length (Lst eP o.pipes))), (1003, some (.blk 24 [.i n.pump, .ls 1])), (1005, some (.blk 24 [.i o.pump, .ls 2])), (1006, some (.blk 24 [.i 0, .v (.slice none 0 0)]))]⟩
      [] (by kernel_rfl) trivial ?_
  refine aw_seq ?_
  refine aw_seq ?_
  have h1 : (!(netB n)) = false := by rw [hok] <;> rfl
  have v2 : CallOK Try.prog 32 [.agg [.i n.pump, .ls 1]] [1] [some (.ro 5 n.pipes.length (Lst eP n.pipes))] (.b (netB n)) [] := (CallFr.to (refNet_fr n (by omega)) [(1, 1)] (by kernel_rfl) (by kernel_rfl) (by kernel_rfl) (by kernel_rfl) (by kernel_rfl) (dem_cons rfl (le_ro rfl el_rfl) dem_nil))
  have v3 : CallOK Try.prog 32 [.agg [.i o.pump, .ls 2]] [2] [some (.ro 5 o.pipes.length (Lst eP o.pipes))] (.b (netB o)) [] := (CallFr.to (refNet_fr o (by omega)) [(1, 2)] (by kernel_rfl) (by kernel_rfl) (by kernel_rfl) (by kernel_rfl) (by kernel_rfl) (dem_cons rfl (le_ro rfl el_rfl) dem_nil))
  refine aw_region [(1, .call [1] (.b (netB n)) []), (3, .dec false), (5, .call [2] (.b (netB o)) [])] [1, 3, 5, 6, 18] [1, 2, 1003, 1005, 1006]
      ⟨77, [1, 2], [(1, .i node), (3, .l (.ref 1003 0)), (5, .l (.ref 1005 0)), (6, .l (.ref 1006 0)), (18, .b (!(netB o)))], [(1, some (.ro 5 n.pipes.length (Lst eP n.pipes))), (2, some (.ro 5 o.pipes.length (Lst eP o.pipes))), (1003, some (.blk 24 [.i n.pump, .ls 1])), (1005, some (.blk 24 [.i o.pump, .ls 2])), (1006, some (.blk 24 [.i 0, .v (.slice none 0 0)]))]⟩
      [CallOK Try.prog 32 [.agg [.i n.pump, .ls 1]] [1] [some (.ro 5 n.pipes.length (Lst eP n.pipes))] (.b (netB n)) [], (!(netB n)) = false, CallOK Try.prog 32 [.agg [.i o.pump, .ls 2]] [2] [some (.ro 5 o.pipes.length (Lst eP o.pipes))] (.b (netB o)) []] (by kernel_rfl) ⟨v2, h1, v3⟩ ?_
  clear v2 v3
  have h4 : (!(netB o)) = false := by rw [hob] <;> rfl
  refine aw_cond (b := (!(netB o))) rfl (fun h => Bool.noConfusion (h4.symm.trans h)) (fun _ => ?_)
  refine aw_skip ?_
  refine aw_seq ?_
  refine aw_seq ?_
  have v5 : -9223372036854775808 ≤ (((n.pipes.length : Nat) : Int) - 1) ∧ (((n.pipes.length : Nat) : Int) - 1) < 9223372036854775808 := (by first | omega | rfl | assumption)
  have v6 : CallOK Try.prog 74 [.i node, .i 0, .i (((n.pipes.length : Nat) : Int) - 1)] [] [] (.b (inB 0 (((n.pipes.length : Nat) : Int) - 1) node)) [] := (CallFr.to (refIn_fr node 0 (((n.pipes.length : Nat) : Int) - 1)) [] (by kernel_rfl) (by kernel_rfl) (by kernel_rfl) (by kernel_rfl) (by kernel_rfl) dem_nil)
  refine aw_region [(5, .call [] (.b (inB 0 (((n.pipes.length : Nat) : Int) - 1) node)) [])] [1, 3, 5, 6, 26] [1, 2, 1003, 1005, 1006]
      ⟨77, [1, 2], [(1, .i node), (3, .l (.ref 1003 0)), (5, .l (.ref 1005 0)), (6, .l (.ref 1006 0)), (26, .b (!(inB 0 (((n.pipes.length : Nat) : Int) - 1) node)))], [(1, some (.ro 5 n.pipes.length (Lst eP n.pipes))), (2, some (.ro 5 o.pipes.length (Lst eP o.pipes))), (1003, some (.blk 24 [.i n.pump, .ls 1])), (1005, some (.blk 24 [.i o.pump, .ls 2])), (1006, some (.blk 24 [.i 0, .v (.slice none 0 0)]))]⟩
      [-9223372036854775808 ≤ (((n.pipes.length : Nat) : Int) - 1) ∧ (((n.pipes.length : Nat) : Int) - 1) < 9223372036854775808, CallOK Try.prog 74 [.i node, .i 0, .i (((n.pipes.length : Nat) : Int) - 1)] [] [] (.b (inB 0 (((n.pipes.length : Nat) : Int) - 1) node)) []] (by kernel_rfl) ⟨v5, v6⟩ ?_
  clear v5 v6
  have h7 : (!(inB 0 (((n.pipes.length : Nat) : Int) - 1) node)) = true := by rw [hin] <;> rfl
  refine aw_cond (b := (!(inB 0 (((n.pipes.length : Nat) : Int) - 1) node))) rfl (fun _ => ?_) (fun h => Bool.noConfusion (h7.symm.trans h))
  refine aw_seq ?_
  refine aw_region [] [6, 7] [1006]
      ⟨77, [1, 2], [(6, .l (.ref 1006 0)), (7, .i 7)], [(1006, some (.blk 24 [.i 0, .v (.slice none 0 0)]))]⟩
      [] (by kernel_rfl) trivial ?_
  exact aw_ret (ret_then ⟨.inr rfl, end_ok ⟨77, [1, 2], [(6, .l (.ref 8006 0)), (7, .i 7)], [(8006, some (.blk 24 [.i 0, .v (.slice none 0 0)]))]⟩
      (Ent.ren [(8006, 1006)] rfl rfl (by kernel_rfl) (slots_cons rfl (slots_cons rfl slots_nil)) (conts_cons rfl (le_blk rfl) conts_nil) (by kernel_rfl)) rfl (by kernel_rfl) wr_nil (by kernel_rfl)⟩)
set_option maxHeartbeats 4000000 in
set_option maxRecDepth 100000 in
theorem refGraft_full (n o : Net) (node : Int) (hn : n.pipes.length ≤ maxLen) (ho : o.pipes.length ≤ maxLen) (h0 : -9223372036854775808 ≤ node) (h1 : node < 9223372036854775808) (hok : netB n = true) (hob : netB o = true) (hin : inB 0 (((n.pipes.length : Nat) : Int) - 1) node = true) (hfu : decide (60 < (((n.pipes.length + o.pipes.length : Nat) : Int) - 1)) = true) : CallFr Try.prog 51 [.agg [.i n.pump, .ls 1], .i node, .agg [.i o.pump, .ls 2]] [1, 2] [some (.ro 5 n.pipes.length (Lst eP n.pipes)), some (.ro 5 o.pipes.length (Lst eP o.pipes))] (.tup [.agg [.i 0, .v (.slice none 0 0)], .one (.i 8)]) [] := by
  have hML : maxLen = 9223372036854775807 := rfl
  have hnl := netB_len hok
  have hol := netB_len hob
  refine callFr_of (fn := Try.f51) (by kernel_rfl) rfl (by kernel_rfl) (by kernel_rfl) fun E => ?_
  refine aw_ent (T := ⟨77, [1, 2], [(0, .agg [.i n.pump, .ls 1]), (1, .i node), (2, .agg [.i o.pump, .ls 2])], [(1, some (.ro 5 n.pipes.length (Lst eP n.pipes))), (2, some (.ro 5 o.pipes.length (Lst eP o.pipes)))]⟩) (Ent.refl _) ?_
  refine aw_seq ?_
  refine aw_region [(0, .new 1003), (1, .new 1005), (2, .new 1006)] [1, 3, 5, 6] [1, 2, 1003, 1005, 1006]
      ⟨77, [1, 2], [(1, .i node), (3, .l (.ref 1003 0)), (5, .l (.ref 1005 0)), (6, .l (.ref 1006 0))], [(1, some (.ro 5 n.pipes.length (Lst eP n.pipes))), (2, some (.ro 5 o.pipes.length (Lst eP o.pipes))), (1003, some (.blk 24 [.i n.pump, .ls 1])), (1005, some (.blk 24 [.i o.pump, .ls 2])), (1006, some (.blk 24 [.i 0, .v (.slice none 0 0)]))]⟩
      [] (by kernel_rfl) trivial ?_
  refine aw_seq ?_
  refine aw_seq ?_
  have h1 : (!(netB n)) = false := by rw [hok] <;> rfl
  have v2 : CallOK Try.prog 32 [.agg [.i n.pump, .ls 1]] [1] [some (.ro 5 n.pipes.length (Lst eP n.pipes))] (.b (netB n)) [] := (CallFr.to (refNet_fr n (by omega)) [(1, 1)] (by kernel_rfl) (by kernel_rfl) (by kernel_rfl) (by kernel_rfl) (by kernel_rfl) (dem_cons rfl (le_ro rfl el_rfl) dem_nil))
  have v3 : CallOK Try.prog 32 [.agg [.i o.pump, .ls 2]] [2] [some (.ro 5 o.pipes.length (Lst eP o.pipes))] (.b (netB o)) [] := (CallFr.to (refNet_fr o (by omega)) [(1, 2)] (by kernel_rfl) (by kernel_rfl) (by kernel_rfl) (by kernel_rfl) (by kernel_rfl) (dem_cons rfl (le_ro rfl el_rfl) dem_nil))
  refine aw_region [(1, .call [1] (.b (netB n)) []), (3, .dec false), (5, .call [2] (.b (netB o)) [])] [1, 3, 5, 6, 18] [1, 2, 1003, 1005, 1006]
      ⟨77, [1, 2], [(1, .i node), (3, .l (.ref 1003 0)), (5, .l (.ref 1005 0)), (6, .l (.ref 1006 0)), (18, .b (!(netB o)))], [(1, some (.ro 5 n.pipes.length (Lst eP n.pipes))), (2, some (.ro 5 o.pipes.length (Lst eP o.pipes))), (1003, some (.blk 24 [.i n.pump, .ls 1])), (1005, some (.blk 24 [.i o.pump, .ls 2])), (1006, some (.blk 24 [.i 0, .v (.slice none 0 0)]))]⟩
      [CallOK Try.prog 32 [.agg [.i n.pump, .ls 1]] [1] [some (.ro 5 n.pipes.length (Lst eP n.pipes))] (.b (netB n)) [], (!(netB n)) = false, CallOK Try.prog 32 [.agg [.i o.pump, .ls 2]] [2] [some (.ro 5 o.pipes.length (Lst eP o.pipes))] (.b (netB o)) []] (by kernel_rfl) ⟨v2, h1, v3⟩ ?_
  clear v2 v3
  have h4 : (!(netB o)) = false := by rw [hob] <;> rfl
  refine aw_cond (b := (!(netB o))) rfl (fun h => Bool.noConfusion (h4.symm.trans h)) (fun _ => ?_)
  refine aw_skip ?_
  refine aw_seq ?_
  refine aw_seq ?_
  have v5 : -9223372036854775808 ≤ (((n.pipes.length : Nat) : Int) - 1) ∧ (((n.pipes.length : Nat) : Int) - 1) < 9223372036854775808 := (by first | omega | rfl | assumption)
  have v6 : CallOK Try.prog 74 [.i node, .i 0, .i (((n.pipes.length : Nat) : Int) - 1)] [] [] (.b (inB 0 (((n.pipes.length : Nat) : Int) - 1) node)) [] := (CallFr.to (refIn_fr node 0 (((n.pipes.length : Nat) : Int) - 1)) [] (by kernel_rfl) (by kernel_rfl) (by kernel_rfl) (by kernel_rfl) (by kernel_rfl) dem_nil)
  refine aw_region [(5, .call [] (.b (inB 0 (((n.pipes.length : Nat) : Int) - 1) node)) [])] [1, 3, 5, 6, 26] [1, 2, 1003, 1005, 1006]
      ⟨77, [1, 2], [(1, .i node), (3, .l (.ref 1003 0)), (5, .l (.ref 1005 0)), (6, .l (.ref 1006 0)), (26, .b (!(inB 0 (((n.pipes.length : Nat) : Int) - 1) node)))], [(1, some (.ro 5 n.pipes.length (Lst eP n.pipes))), (2, some (.ro 5 o.pipes.length (Lst eP o.pipes))), (1003, some (.blk 24 [.i n.pump, .ls 1])), (1005, some (.blk 24 [.i o.pump, .ls 2])), (1006, some (.blk 24 [.i 0, .v (.slice none 0 0)]))]⟩
      [-9223372036854775808 ≤ (((n.pipes.length : Nat) : Int) - 1) ∧ (((n.pipes.length : Nat) : Int) - 1) < 9223372036854775808, CallOK Try.prog 74 [.i node, .i 0, .i (((n.pipes.length : Nat) : Int) - 1)] [] [] (.b (inB 0 (((n.pipes.length : Nat) : Int) - 1) node)) []] (by kernel_rfl) ⟨v5, v6⟩ ?_
  clear v5 v6
  have h7 : (!(inB 0 (((n.pipes.length : Nat) : Int) - 1) node)) = false := by rw [hin] <;> rfl
  refine aw_cond (b := (!(inB 0 (((n.pipes.length : Nat) : Int) - 1) node))) rfl (fun h => Bool.noConfusion (h7.symm.trans h)) (fun _ => ?_)
  refine aw_skip ?_
  refine aw_seq ?_
  refine aw_seq ?_
  have v8 : (((n.pipes.length : Nat) : Int) + ((o.pipes.length : Nat) : Int)) = (((n.pipes.length + o.pipes.length) : Nat) : Int) := (by first | omega | rfl | assumption)
  have v9 : -9223372036854775808 ≤ (((n.pipes.length + o.pipes.length) : Nat) : Int) ∧ (((n.pipes.length + o.pipes.length) : Nat) : Int) < 9223372036854775808 := (by first | omega | rfl | assumption)
  have v10 : -9223372036854775808 ≤ ((((n.pipes.length + o.pipes.length) : Nat) : Int) - 1) ∧ ((((n.pipes.length + o.pipes.length) : Nat) : Int) - 1) < 9223372036854775808 := (by first | omega | rfl | assumption)
  refine aw_region [(6, .num (((n.pipes.length + o.pipes.length) : Nat) : Int))] [1, 3, 5, 6, 36] [1, 2, 1003, 1005, 1006]
      ⟨77, [1, 2], [(1, .i node), (3, .l (.ref 1003 0)), (5, .l (.ref 1005 0)), (6, .l (.ref 1006 0)), (36, .b (decide (60 < ((((n.pipes.length + o.pipes.length) : Nat) : Int) - 1))))], [(1, some (.ro 5 n.pipes.length (Lst eP n.pipes))), (2, some (.ro 5 o.pipes.length (Lst eP o.pipes))), (1003, some (.blk 24 [.i n.pump, .ls 1])), (1005, some (.blk 24 [.i o.pump, .ls 2])), (1006, some (.blk 24 [.i 0, .v (.slice none 0 0)]))]⟩
      [(((n.pipes.length : Nat) : Int) + ((o.pipes.length : Nat) : Int)) = (((n.pipes.length + o.pipes.length) : Nat) : Int), -9223372036854775808 ≤ (((n.pipes.length + o.pipes.length) : Nat) : Int) ∧ (((n.pipes.length + o.pipes.length) : Nat) : Int) < 9223372036854775808, -9223372036854775808 ≤ ((((n.pipes.length + o.pipes.length) : Nat) : Int) - 1) ∧ ((((n.pipes.length + o.pipes.length) : Nat) : Int) - 1) < 9223372036854775808] (by kernel_rfl) ⟨v8, v9, v10⟩ ?_
  clear v8 v9 v10
  refine aw_cond (b := decide (60 < ((((n.pipes.length + o.pipes.length) : Nat) : Int) - 1))) rfl (fun _ => ?_) (fun h => Bool.noConfusion (hfu.symm.trans h))
  refine aw_seq ?_
  refine aw_region [] [6, 7] [1006]
      ⟨77, [1, 2], [(6, .l (.ref 1006 0)), (7, .i 8)], [(1006, some (.blk 24 [.i 0, .v (.slice none 0 0)]))]⟩
      [] (by kernel_rfl) trivial ?_
  exact aw_ret (ret_then ⟨.inr rfl, end_ok ⟨77, [1, 2], [(6, .l (.ref 8006 0)), (7, .i 8)], [(8006, some (.blk 24 [.i 0, .v (.slice none 0 0)]))]⟩
      (Ent.ren [(8006, 1006)] rfl rfl (by kernel_rfl) (slots_cons rfl (slots_cons rfl slots_nil)) (conts_cons rfl (le_blk rfl) conts_nil) (by kernel_rfl)) rfl (by kernel_rfl) wr_nil (by kernel_rfl)⟩)
set_option maxHeartbeats 4000000 in
set_option maxRecDepth 100000 in
theorem refGraft_ok (n o : Net) (node : Int) (hn : n.pipes.length ≤ maxLen) (ho : o.pipes.length ≤ maxLen) (h0 : -9223372036854775808 ≤ node) (h1 : node < 9223372036854775808) (hok : netB n = true) (hob : netB o = true) (hin : inB 0 (((n.pipes.length : Nat) : Int) - 1) node = true) (hfu : decide (60 < (((n.pipes.length + o.pipes.length : Nat) : Int) - 1)) = false) : CallFr Try.prog 51 [.agg [.i n.pump, .ls 1], .i node, .agg [.i o.pump, .ls 2]] [1, 2] [some (.ro 5 n.pipes.length (Lst eP n.pipes)), some (.ro 5 o.pipes.length (Lst eP o.pipes))] (.tup [.agg [.i n.pump, .ls 11], .one (.i 0)]) [(11, some (.vec 54 5 (n.pipes.length + (o.pipes.length - 1)) (Lst eP (graftT n.pipes o.pipes node (o.pipes.length - 1)))))] := by
  have hML : maxLen = 9223372036854775807 := rfl
  have hnl := netB_len hok
  have hol := netB_len hob
  have hib := inB_true hin
  have hot := netB_tree hob
  refine callFr_of (fn := Try.f51) (by kernel_rfl) rfl (by kernel_rfl) (by kernel_rfl) fun E => ?_
  refine aw_ent (T := ⟨77, [1, 2], [(0, .agg [.i n.pump, .ls 1]), (1, .i node), (2, .agg [.i o.pump, .ls 2])], [(1, some (.ro 5 n.pipes.length (Lst eP n.pipes))), (2, some (.ro 5 o.pipes.length (Lst eP o.pipes)))]⟩) (Ent.refl _) ?_
  refine aw_seq ?_
  refine aw_region [(0, .new 1003), (1, .new 1005), (2, .new 1006)] [1, 3, 5, 6] [1, 2, 1003, 1005, 1006]
      ⟨77, [1, 2], [(1, .i node), (3, .l (.ref 1003 0)), (5, .l (.ref 1005 0)), (6, .l (.ref 1006 0))], [(1, some (.ro 5 n.pipes.length (Lst eP n.pipes))), (2, some (.ro 5 o.pipes.length (Lst eP o.pipes))), (1003, some (.blk 24 [.i n.pump, .ls 1])), (1005, some (.blk 24 [.i o.pump, .ls 2])), (1006, some (.blk 24 [.i 0, .v (.slice none 0 0)]))]⟩
      [] (by kernel_rfl) trivial ?_
  refine aw_seq ?_
  refine aw_seq ?_
  have h1 : (!(netB n)) = false := by rw [hok] <;> rfl
  have v2 : CallOK Try.prog 32 [.agg [.i n.pump, .ls 1]] [1] [some (.ro 5 n.pipes.length (Lst eP n.pipes))] (.b (netB n)) [] := (CallFr.to (refNet_fr n (by omega)) [(1, 1)] (by kernel_rfl) (by kernel_rfl) (by kernel_rfl) (by kernel_rfl) (by kernel_rfl) (dem_cons rfl (le_ro rfl el_rfl) dem_nil))
  have v3 : CallOK Try.prog 32 [.agg [.i o.pump, .ls 2]] [2] [some (.ro 5 o.pipes.length (Lst eP o.pipes))] (.b (netB o)) [] := (CallFr.to (refNet_fr o (by omega)) [(1, 2)] (by kernel_rfl) (by kernel_rfl) (by kernel_rfl) (by kernel_rfl) (by kernel_rfl) (dem_cons rfl (le_ro rfl el_rfl) dem_nil))
  refine aw_region [(1, .call [1] (.b (netB n)) []), (3, .dec false), (5, .call [2] (.b (netB o)) [])] [1, 3, 5, 6, 18] [1, 2, 1003, 1005, 1006]
      ⟨77, [1, 2], [(1, .i node), (3, .l (.ref 1003 0)), (5, .l (.ref 1005 0)), (6, .l (.ref 1006 0)), (18, .b (!(netB o)))], [(1, some (.ro 5 n.pipes.length (Lst eP n.pipes))), (2, some (.ro 5 o.pipes.length (Lst eP o.pipes))), (1003, some (.blk 24 [.i n.pump, .ls 1])), (1005, some (.blk 24 [.i o.pump, .ls 2])), (1006, some (.blk 24 [.i 0, .v (.slice none 0 0)]))]⟩
      [CallOK Try.prog 32 [.agg [.i n.pump, .ls 1]] [1] [some (.ro 5 n.pipes.length (Lst eP n.pipes))] (.b (netB n)) [], (!(netB n)) = false, CallOK Try.prog 32 [.agg [.i o.pump, .ls 2]] [2] [some (.ro 5 o.pipes.length (Lst eP o.pipes))] (.b (netB o)) []] (by kernel_rfl) ⟨v2, h1, v3⟩ ?_
  clear v2 v3
  have h4 : (!(netB o)) = false := by rw [hob] <;> rfl
  refine aw_cond (b := (!(netB o))) rfl (fun h => Bool.noConfusion (h4.symm.trans h)) (fun _ => ?_)
  refine aw_skip ?_
  refine aw_seq ?_
  refine aw_seq ?_
  have v5 : -9223372036854775808 ≤ (((n.pipes.length : Nat) : Int) - 1) ∧ (((n.pipes.length : Nat) : Int) - 1) < 9223372036854775808 := (by first | omega | rfl | assumption)
  have v6 : CallOK Try.prog 74 [.i node, .i 0, .i (((n.pipes.length : Nat) : Int) - 1)] [] [] (.b (inB 0 (((n.pipes.length : Nat) : Int) - 1) node)) [] := (CallFr.to (refIn_fr node 0 (((n.pipes.length : Nat) : Int) - 1)) [] (by kernel_rfl) (by kernel_rfl) (by kernel_rfl) (by kernel_rfl) (by kernel_rfl) dem_nil)
  refine aw_region [(5, .call [] (.b (inB 0 (((n.pipes.length : Nat) : Int) - 1) node)) [])] [1, 3, 5, 6, 26] [1, 2, 1003, 1005, 1006]
      ⟨77, [1, 2], [(1, .i node), (3, .l (.ref 1003 0)), (5, .l (.ref 1005 0)), (6, .l (.ref 1006 0)), (26, .b (!(inB 0 (((n.pipes.length : Nat) : Int) - 1) node)))], [(1, some (.ro 5 n.pipes.length (Lst eP n.pipes))), (2, some (.ro 5 o.pipes.length (Lst eP o.pipes))), (1003, some (.blk 24 [.i n.pump, .ls 1])), (1005, some (.blk 24 [.i o.pump, .ls 2])), (1006, some (.blk 24 [.i 0, .v (.slice none 0 0)]))]⟩
      [-9223372036854775808 ≤ (((n.pipes.length : Nat) : Int) - 1) ∧ (((n.pipes.length : Nat) : Int) - 1) < 9223372036854775808, CallOK Try.prog 74 [.i node, .i 0, .i (((n.pipes.length : Nat) : Int) - 1)] [] [] (.b (inB 0 (((n.pipes.length : Nat) : Int) - 1) node)) []] (by kernel_rfl) ⟨v5, v6⟩ ?_
  clear v5 v6
  have h7 : (!(inB 0 (((n.pipes.length : Nat) : Int) - 1) node)) = false := by rw [hin] <;> rfl
  refine aw_cond (b := (!(inB 0 (((n.pipes.length : Nat) : Int) - 1) node))) rfl (fun h => Bool.noConfusion (h7.symm.trans h)) (fun _ => ?_)
  refine aw_skip ?_
  refine aw_seq ?_
  refine aw_seq ?_
  have v8 : (((n.pipes.length : Nat) : Int) + ((o.pipes.length : Nat) : Int)) = (((n.pipes.length + o.pipes.length) : Nat) : Int) := (by first | omega | rfl | assumption)
  have v9 : -9223372036854775808 ≤ (((n.pipes.length + o.pipes.length) : Nat) : Int) ∧ (((n.pipes.length + o.pipes.length) : Nat) : Int) < 9223372036854775808 := (by first | omega | rfl | assumption)
  have v10 : -9223372036854775808 ≤ ((((n.pipes.length + o.pipes.length) : Nat) : Int) - 1) ∧ ((((n.pipes.length + o.pipes.length) : Nat) : Int) - 1) < 9223372036854775808 := (by first | omega | rfl | assumption)
  refine aw_region [(6, .num (((n.pipes.length + o.pipes.length) : Nat) : Int))] [1, 3, 5, 6, 36] [1, 2, 1003, 1005, 1006]
      ⟨77, [1, 2], [(1, .i node), (3, .l (.ref 1003 0)), (5, .l (.ref 1005 0)), (6, .l (.ref 1006 0)), (36, .b (decide (60 < ((((n.pipes.length + o.pipes.length) : Nat) : Int) - 1))))], [(1, some (.ro 5 n.pipes.length (Lst eP n.pipes))), (2, some (.ro 5 o.pipes.length (Lst eP o.pipes))), (1003, some (.blk 24 [.i n.pump, .ls 1])), (1005, some (.blk 24 [.i o.pump, .ls 2])), (1006, some (.blk 24 [.i 0, .v (.slice none 0 0)]))]⟩
      [(((n.pipes.length : Nat) : Int) + ((o.pipes.length : Nat) : Int)) = (((n.pipes.length + o.pipes.length) : Nat) : Int), -9223372036854775808 ≤ (((n.pipes.length + o.pipes.length) : Nat) : Int) ∧ (((n.pipes.length + o.pipes.length) : Nat) : Int) < 9223372036854775808, -9223372036854775808 ≤ ((((n.pipes.length + o.pipes.length) : Nat) : Int) - 1) ∧ ((((n.pipes.length + o.pipes.length) : Nat) : Int) - 1) < 9223372036854775808] (by kernel_rfl) ⟨v8, v9, v10⟩ ?_
  clear v8 v9 v10
  refine aw_cond (b := decide (60 < ((((n.pipes.length + o.pipes.length) : Nat) : Int) - 1))) rfl (fun h => Bool.noConfusion (hfu.symm.trans h)) (fun _ => ?_)
  refine aw_skip ?_
  refine aw_seq ?_
  have v11 : 0 + n.pipes.length ≤ 1000000000000 := (by first | omega | rfl | assumption)
  have v12 : (0 + n.pipes.length) * 40 ≤ 140737488355328 := (by first | omega | rfl | assumption)
  have v13 : AppOk 5 0 n.pipes.length (exEl 5 []) (Lst eP n.pipes) n.pipes.length (Lst eP n.pipes) := (app_nil (by first | rfl | omega | (rw [graftT_len] <;> omega)))
  refine aw_drawn [(2, .new 1040), (5, .lst 1043 n.pipes.length (Lst eP n.pipes)), (7, .new 1008)] [1, 3, 5, 6, 8] [1, 2, 1003, 1005, 1006, 1008, 1043]
      ⟨77, [1, 2], [(1, .i node), (3, .l (.ref 1003 0)), (5, .l (.ref 1005 0)), (6, .l (.ref 1006 0)), (8, .l (.ref 1008 0))], [(1, some (.ro 5 n.pipes.length (Lst eP n.pipes))), (2, some (.ro 5 o.pipes.length (Lst eP o.pipes))), (1003, some (.blk 24 [.i n.pump, .ls 1])), (1005, some (.blk 24 [.i o.pump, .ls 2])), (1006, some (.blk 24 [.i 0, .v (.slice none 0 0)])), (1008, some (.blk 24 [.i n.pump, .ls 1043])), (1043, some (.vec 54 5 n.pipes.length (Lst eP n.pipes)))]⟩
      [0 + n.pipes.length ≤ 1000000000000, (0 + n.pipes.length) * 40 ≤ 140737488355328, AppOk 5 0 n.pipes.length (exEl 5 []) (Lst eP n.pipes) n.pipes.length (Lst eP n.pipes)] (by kernel_rfl) (by kernel_rfl) ⟨v11, v12, v13⟩ ?_
  clear v11 v12 v13
  refine aw_seq ?_
  refine aw_seq ?_
  refine aw_region [] [1, 3, 5, 6, 8, 9] [1, 2, 1003, 1005, 1006, 1008, 1043]
      ⟨77, [1, 2], [(1, .i node), (3, .l (.ref 1003 0)), (5, .l (.ref 1005 0)), (6, .l (.ref 1006 0)), (8, .l (.ref 1008 0)), (9, .i 1)], [(1, some (.ro 5 n.pipes.length (Lst eP n.pipes))), (2, some (.ro 5 o.pipes.length (Lst eP o.pipes))), (1003, some (.blk 24 [.i n.pump, .ls 1])), (1005, some (.blk 24 [.i o.pump, .ls 2])), (1006, some (.blk 24 [.i 0, .v (.slice none 0 0)])), (1008, some (.blk 24 [.i n.pump, .ls 1043])), (1043, some (.vec 54 5 n.pipes.length (Lst eP n.pipes)))]⟩
      [] (by kernel_rfl) trivial ?_
  refine aw_block ?_
  refine aw_loop (ι := Nat) (fun zz => ⟨77, [1, 2], [(1, .i node), (3, .l (.ref 1003 0)), (5, .l (.ref 1005 0)), (6, .l (.ref 1006 0)), (8, .l (.ref 1008 0)), (9, .i (((zz + 1) : Nat) : Int))], [(1, some (.ro 5 n.pipes.length (Lst eP n.pipes))), (2, some (.ro 5 o.pipes.length (Lst eP o.pipes))), (1003, some (.blk 24 [.i n.pump, .ls 1])), (1005, some (.blk 24 [.i o.pump, .ls 2])), (1006, some (.blk 24 [.i 0, .v (.slice none 0 0)])), (1008, some (.blk 24 [.i n.pump, .ls 9201])), (9201, some (.vec 54 5 (n.pipes.length + zz) (Lst eP (graftT n.pipes o.pipes node zz))))]⟩) (fun zz => (zz ≤ o.pipes.length - 1)) (fun zz => o.pipes.length - 1 - zz) 0 (by first | omega | rfl | assumption | (simp; done))
      (Ent.ren [(9201, 1043)] rfl rfl (by kernel_rfl) (slots_cons rfl (slots_cons rfl (slots_cons rfl (slots_cons rfl (slots_cons rfl (slots_cons (slot_i rfl (by first | rfl | omega | assumption | (rw [graftT_zero]) | (simp))) slots_nil)))))) (conts_cons rfl (le_ro rfl el_rfl) (conts_cons rfl (le_ro rfl el_rfl) (conts_cons rfl (le_blk rfl) (conts_cons rfl (le_blk rfl) (conts_cons rfl (le_blk rfl) (conts_cons rfl (le_blk rfl) (conts_cons rfl (le_vec (by first | rfl | omega | assumption | (rw [graftT_zero]) | (simp)) (lst_eq (by first | rfl | omega | assumption | (rw [graftT_zero]) | (simp)))) conts_nil))))))) (by kernel_rfl)) fun zz hp => ?_
  obtain ⟨k, rfl⟩ : ∃ x, x = zz := ⟨_, rfl⟩
  have hk := hp
  have hpp := fun h => hot (k + 1) h
  have hpb : ∀ h : k + 1 < o.pipes.length, -1 ≤ (ix o.pipes (k + 1)).parent ∧ (ix o.pipes (k + 1)).parent < ((k + 1 : Nat) : Int) := fun h => by have := hot (k + 1) h; rw [← ix_par] at this; exact ⟨this.1, this.2.1⟩
  show AW _ E _ _ ⟨77, [1, 2], [(1, .i node), (3, .l (.ref 1003 0)), (5, .l (.ref 1005 0)), (6, .l (.ref 1006 0)), (8, .l (.ref 1008 0)), (9, .i (((k + 1) : Nat) : Int))], [(1, some (.ro 5 n.pipes.length (Lst eP n.pipes))), (2, some (.ro 5 o.pipes.length (Lst eP o.pipes))), (1003, some (.blk 24 [.i n.pump, .ls 1])), (1005, some (.blk 24 [.i o.pump, .ls 2])), (1006, some (.blk 24 [.i 0, .v (.slice none 0 0)])), (1008, some (.blk 24 [.i n.pump, .ls 9201])), (9201, some (.vec 54 5 (n.pipes.length + k) (Lst eP (graftT n.pipes o.pipes node k))))]⟩
  refine aw_seq ?_
  refine aw_seq ?_
  refine aw_region [] [1, 3, 5, 6, 8, 9, 49] [1, 2, 1003, 1005, 1006, 1008, 9201]
      ⟨77, [1, 2], [(1, .i node), (3, .l (.ref 1003 0)), (5, .l (.ref 1005 0)), (6, .l (.ref 1006 0)), (8, .l (.ref 1008 0)), (9, .i (((k + 1) : Nat) : Int)), (49, .b (decide ((((k + 1) : Nat) : Int) < ((o.pipes.length : Nat) : Int))))], [(1, some (.ro 5 n.pipes.length (Lst eP n.pipes))), (2, some (.ro 5 o.pipes.length (Lst eP o.pipes))), (1003, some (.blk 24 [.i n.pump, .ls 1])), (1005, some (.blk 24 [.i o.pump, .ls 2])), (1006, some (.blk 24 [.i 0, .v (.slice none 0 0)])), (1008, some (.blk 24 [.i n.pump, .ls 9201])), (9201, some (.vec 54 5 (n.pipes.length + k) (Lst eP (graftT n.pipes o.pipes node k))))]⟩
      [] (by kernel_rfl) trivial ?_
  refine aw_cond (b := decide ((((k + 1) : Nat) : Int) < ((o.pipes.length : Nat) : Int))) rfl (fun h14 => ?_) (fun h14 => ?_)
  ·
    have h14p : (((k + 1) : Nat) : Int) < ((o.pipes.length : Nat) : Int) := by first | exact of_decide_eq_true h14 | (have := h14; simp at this; first | exact this | omega)
    refine aw_skip ?_
    refine aw_seq ?_
    refine aw_block ?_
    refine aw_seq ?_
    have v15 : (((k + 1) : Nat) : Int) = (((k + 1) : Nat) : Int) := (by first | omega | rfl | assumption)
    have v16 : (k + 1) < o.pipes.length := (by first | omega | rfl | assumption)
    have v17 : (k + 1) < o.pipes.length := (by first | omega | rfl | assumption)
    refine aw_region [(3, .idx (k + 1)), (5, .new 1010)] [1, 3, 5, 6, 8, 9, 10] [1, 2, 1003, 1005, 1006, 1008, 1010, 9201]
        ⟨77, [1, 2], [(1, .i node), (3, .l (.ref 1003 0)), (5, .l (.ref 1005 0)), (6, .l (.ref 1006 0)), (8, .l (.ref 1008 0)), (9, .i (((k + 1) : Nat) : Int)), (10, .l (.ref 1010 0))], [(1, some (.ro 5 n.pipes.length (Lst eP n.pipes))), (2, some (.ro 5 o.pipes.length (Lst eP o.pipes))), (1003, some (.blk 24 [.i n.pump, .ls 1])), (1005, some (.blk 24 [.i o.pump, .ls 2])), (1006, some (.blk 24 [.i 0, .v (.slice none 0 0)])), (1008, some (.blk 24 [.i n.pump, .ls 9201])), (1010, some (.blk 54 [.i ((ix o.pipes (k + 1)).parent), .i ((ix o.pipes (k + 1)).length), .i ((ix o.pipes (k + 1)).bore), .i ((ix o.pipes (k + 1)).drop), .i ((ix o.pipes (k + 1)).taps)])), (9201, some (.vec 54 5 (n.pipes.length + k) (Lst eP (graftT n.pipes o.pipes node k))))]⟩
        [(((k + 1) : Nat) : Int) = (((k + 1) : Nat) : Int), (k + 1) < o.pipes.length, (k + 1) < o.pipes.length] (by kernel_rfl) ⟨v15, v16, v17⟩ ?_
    clear v15 v16 v17
    refine aw_seq ?_
    refine aw_seq ?_
    refine aw_region [] [1, 3, 5, 6, 8, 9, 10, 59] [1, 2, 1003, 1005, 1006, 1008, 1010, 9201]
        ⟨77, [1, 2], [(1, .i node), (3, .l (.ref 1003 0)), (5, .l (.ref 1005 0)), (6, .l (.ref 1006 0)), (8, .l (.ref 1008 0)), (9, .i (((k + 1) : Nat) : Int)), (10, .l (.ref 1010 0)), (59, .b (decide ((ix o.pipes (k + 1)).parent = 0)))], [(1, some (.ro 5 n.pipes.length (Lst eP n.pipes))), (2, some (.ro 5 o.pipes.length (Lst eP o.pipes))), (1003, some (.blk 24 [.i n.pump, .ls 1])), (1005, some (.blk 24 [.i o.pump, .ls 2])), (1006, some (.blk 24 [.i 0, .v (.slice none 0 0)])), (1008, some (.blk 24 [.i n.pump, .ls 9201])), (1010, some (.blk 54 [.i ((ix o.pipes (k + 1)).parent), .i ((ix o.pipes (k + 1)).length), .i ((ix o.pipes (k + 1)).bore), .i ((ix o.pipes (k + 1)).drop), .i ((ix o.pipes (k + 1)).taps)])), (9201, some (.vec 54 5 (n.pipes.length + k) (Lst eP (graftT n.pipes o.pipes node k))))]⟩
        [] (by kernel_rfl) trivial ?_
    refine aw_cond (b := decide ((ix o.pipes (k + 1)).parent = 0)) rfl (fun h18 => ?_) (fun h18 => ?_)
    ·
      have h18p : (ix o.pipes (k + 1)).parent = 0 := by first | exact of_decide_eq_true h18 | (have := h18; simp at this; first | exact this | omega)
      refine aw_region [] [1, 3, 5, 6, 8, 9, 10] [1, 2, 1003, 1005, 1006, 1008, 1010, 9201]
          ⟨77, [1, 2], [(1, .i node), (3, .l (.ref 1003 0)), (5, .l (.ref 1005 0)), (6, .l (.ref 1006 0)), (8, .l (.ref 1008 0)), (9, .i (((k + 1) : Nat) : Int)), (10, .l (.ref 1010 0))], [(1, some (.ro 5 n.pipes.length (Lst eP n.pipes))), (2, some (.ro 5 o.pipes.length (Lst eP o.pipes))), (1003, some (.blk 24 [.i n.pump, .ls 1])), (1005, some (.blk 24 [.i o.pump, .ls 2])), (1006, some (.blk 24 [.i 0, .v (.slice none 0 0)])), (1008, some (.blk 24 [.i n.pump, .ls 9201])), (1010, some (.blk 54 [.i node, .i ((ix o.pipes (k + 1)).length), .i ((ix o.pipes (k + 1)).bore), .i ((ix o.pipes (k + 1)).drop), .i ((ix o.pipes (k + 1)).taps)])), (9201, some (.vec 54 5 (n.pipes.length + k) (Lst eP (graftT n.pipes o.pipes node k))))]⟩
          [] (by kernel_rfl) trivial ?_
      have v19 : (n.pipes.length + k) + 1 ≤ 1000000000000 := (by first | omega | rfl | assumption)
      have v20 : ((n.pipes.length + k) + 1) * 40 ≤ 140737488355328 := (by first | omega | rfl | assumption)
      have v21 : AppOk 5 (n.pipes.length + k) 1 (Lst eP (graftT n.pipes o.pipes node k)) (exEl 5 [.i node, .i ((ix o.pipes (k + 1)).length), .i ((ix o.pipes (k + 1)).bore), .i ((ix o.pipes (k + 1)).drop), .i ((ix o.pipes (k + 1)).taps)]) ((n.pipes.length + k) + 1) (Lst eP ((graftT n.pipes o.pipes node k) ++ [(⟨node, (ix o.pipes (k + 1)).length, (ix o.pipes (k + 1)).bore, (ix o.pipes (k + 1)).drop, (ix o.pipes (k + 1)).taps⟩ : Pipe)])) := (app_one (by first | rfl | omega | (rw [graftT_len] <;> omega)) (by first | rfl | omega | (rw [graftT_len] <;> omega)) (fun | 0, _ => rfl | 1, _ => rfl | 2, _ => rfl | 3, _ => rfl | 4, _ => rfl | (n + 5), h => absurd h (by omega)))
      refine aw_region [(3, .new 1073), (4, .lst 1074 ((n.pipes.length + k) + 1) (Lst eP ((graftT n.pipes o.pipes node k) ++ [(⟨node, (ix o.pipes (k + 1)).length, (ix o.pipes (k + 1)).bore, (ix o.pipes (k + 1)).drop, (ix o.pipes (k + 1)).taps⟩ : Pipe)])))] [1, 3, 5, 6, 8, 9] [1, 2, 1003, 1005, 1006, 1008, 1074]
          ⟨77, [1, 2], [(1, .i node), (3, .l (.ref 1003 0)), (5, .l (.ref 1005 0)), (6, .l (.ref 1006 0)), (8, .l (.ref 1008 0)), (9, .i (((k + 1) : Nat) : Int))], [(1, some (.ro 5 n.pipes.length (Lst eP n.pipes))), (2, some (.ro 5 o.pipes.length (Lst eP o.pipes))), (1003, some (.blk 24 [.i n.pump, .ls 1])), (1005, some (.blk 24 [.i o.pump, .ls 2])), (1006, some (.blk 24 [.i 0, .v (.slice none 0 0)])), (1008, some (.blk 24 [.i n.pump, .ls 1074])), (1074, some (.vec 54 5 ((n.pipes.length + k) + 1) (Lst eP ((graftT n.pipes o.pipes node k) ++ [(⟨node, (ix o.pipes (k + 1)).length, (ix o.pipes (k + 1)).bore, (ix o.pipes (k + 1)).drop, (ix o.pipes (k + 1)).taps⟩ : Pipe)]))))]⟩
          [(n.pipes.length + k) + 1 ≤ 1000000000000, ((n.pipes.length + k) + 1) * 40 ≤ 140737488355328, AppOk 5 (n.pipes.length + k) 1 (Lst eP (graftT n.pipes o.pipes node k)) (exEl 5 [.i node, .i ((ix o.pipes (k + 1)).length), .i ((ix o.pipes (k + 1)).bore), .i ((ix o.pipes (k + 1)).drop), .i ((ix o.pipes (k + 1)).taps)]) ((n.pipes.length + k) + 1) (Lst eP ((graftT n.pipes o.pipes node k) ++ [(⟨node, (ix o.pipes (k + 1)).length, (ix o.pipes (k + 1)).bore, (ix o.pipes (k + 1)).drop, (ix o.pipes (k + 1)).taps⟩ : Pipe)]))] (by kernel_rfl) ⟨v19, v20, v21⟩ ?_
      clear v19 v20 v21
      have v22 : ((((k + 1) : Nat) : Int) + 1) = ((((k + 1) + 1) : Nat) : Int) := (by first | omega | rfl | assumption)
      have v23 : -9223372036854775808 ≤ ((((k + 1) + 1) : Nat) : Int) ∧ ((((k + 1) + 1) : Nat) : Int) < 9223372036854775808 := (by first | omega | rfl | assumption)
      refine aw_region [(1, .num ((((k + 1) + 1) : Nat) : Int))] [1, 3, 5, 6, 8, 9] [1, 2, 1003, 1005, 1006, 1008, 1074]
          ⟨77, [1, 2], [(1, .i node), (3, .l (.ref 1003 0)), (5, .l (.ref 1005 0)), (6, .l (.ref 1006 0)), (8, .l (.ref 1008 0)), (9, .i ((((k + 1) + 1) : Nat) : Int))], [(1, some (.ro 5 n.pipes.length (Lst eP n.pipes))), (2, some (.ro 5 o.pipes.length (Lst eP o.pipes))), (1003, some (.blk 24 [.i n.pump, .ls 1])), (1005, some (.blk 24 [.i o.pump, .ls 2])), (1006, some (.blk 24 [.i 0, .v (.slice none 0 0)])), (1008, some (.blk 24 [.i n.pump, .ls 1074])), (1074, some (.vec 54 5 ((n.pipes.length + k) + 1) (Lst eP ((graftT n.pipes o.pipes node k) ++ [(⟨node, (ix o.pipes (k + 1)).length, (ix o.pipes (k + 1)).bore, (ix o.pipes (k + 1)).drop, (ix o.pipes (k + 1)).taps⟩ : Pipe)]))))]⟩
          [((((k + 1) : Nat) : Int) + 1) = ((((k + 1) + 1) : Nat) : Int), -9223372036854775808 ≤ ((((k + 1) + 1) : Nat) : Int) ∧ ((((k + 1) + 1) : Nat) : Int) < 9223372036854775808] (by kernel_rfl) ⟨v22, v23⟩ ?_
      clear v22 v23
      exact ⟨k + 1, (by first | omega | rfl | assumption | (simp; done)), (show o.pipes.length - 1 - (k + 1) < o.pipes.length - 1 - k by first | omega | rfl | assumption),
          (Ent.ren [(9201, 1074)] rfl rfl (by kernel_rfl) (slots_cons rfl (slots_cons rfl (slots_cons rfl (slots_cons rfl (slots_cons rfl (slots_cons rfl slots_nil)))))) (conts_cons rfl (le_ro rfl el_rfl) (conts_cons rfl (le_ro rfl el_rfl) (conts_cons rfl (le_blk rfl) (conts_cons rfl (le_blk rfl) (conts_cons rfl (le_blk rfl) (conts_cons rfl (le_blk rfl) (conts_cons rfl (le_vec rfl (lst_eq (by first | rfl | omega | assumption | (rw [graftT_succ _ _ _ (by omega), Nat.add_comm 1 k, graftP_zero _ _ (by omega)] <;> rfl) | (rw [graftT_succ _ _ _ (by omega), Nat.add_comm 1 k, graftP_pos _ _ (by omega), ← Int.add_sub_assoc] <;> rfl) | (omega)))) conts_nil))))))) (by kernel_rfl))⟩
    ·
      have h18p : (ix o.pipes (k + 1)).parent ≠ 0 := by first | (have := of_decide_eq_false h18; omega) | (have := h18; simp at this; first | exact this | omega)
      have v24 : -9223372036854775808 ≤ ((ix o.pipes (k + 1)).parent + ((n.pipes.length : Nat) : Int)) ∧ ((ix o.pipes (k + 1)).parent + ((n.pipes.length : Nat) : Int)) < 9223372036854775808 := (by first | omega | rfl | assumption)
      have v25 : -9223372036854775808 ≤ (((ix o.pipes (k + 1)).parent + ((n.pipes.length : Nat) : Int)) - 1) ∧ (((ix o.pipes (k + 1)).parent + ((n.pipes.length : Nat) : Int)) - 1) < 9223372036854775808 := (by first | omega | rfl | assumption)
      refine aw_region [] [1, 3, 5, 6, 8, 9, 10] [1, 2, 1003, 1005, 1006, 1008, 1010, 9201]
          ⟨77, [1, 2], [(1, .i node), (3, .l (.ref 1003 0)), (5, .l (.ref 1005 0)), (6, .l (.ref 1006 0)), (8, .l (.ref 1008 0)), (9, .i (((k + 1) : Nat) : Int)), (10, .l (.ref 1010 0))], [(1, some (.ro 5 n.pipes.length (Lst eP n.pipes))), (2, some (.ro 5 o.pipes.length (Lst eP o.pipes))), (1003, some (.blk 24 [.i n.pump, .ls 1])), (1005, some (.blk 24 [.i o.pump, .ls 2])), (1006, some (.blk 24 [.i 0, .v (.slice none 0 0)])), (1008, some (.blk 24 [.i n.pump, .ls 9201])), (1010, some (.blk 54 [.i (((ix o.pipes (k + 1)).parent + ((n.pipes.length : Nat) : Int)) - 1), .i ((ix o.pipes (k + 1)).length), .i ((ix o.pipes (k + 1)).bore), .i ((ix o.pipes (k + 1)).drop), .i ((ix o.pipes (k + 1)).taps)])), (9201, some (.vec 54 5 (n.pipes.length + k) (Lst eP (graftT n.pipes o.pipes node k))))]⟩
          [-9223372036854775808 ≤ ((ix o.pipes (k + 1)).parent + ((n.pipes.length : Nat) : Int)) ∧ ((ix o.pipes (k + 1)).parent + ((n.pipes.length : Nat) : Int)) < 9223372036854775808, -9223372036854775808 ≤ (((ix o.pipes (k + 1)).parent + ((n.pipes.length : Nat) : Int)) - 1) ∧ (((ix o.pipes (k + 1)).parent + ((n.pipes.length : Nat) : Int)) - 1) < 9223372036854775808] (by kernel_rfl) ⟨v24, v25⟩ ?_
      clear v24 v25
      have v26 : (n.pipes.length + k) + 1 ≤ 1000000000000 := (by first | omega | rfl | assumption)
      have v27 : ((n.pipes.length + k) + 1) * 40 ≤ 140737488355328 := (by first | omega | rfl | assumption)
      have v28 : AppOk 5 (n.pipes.length + k) 1 (Lst eP (graftT n.pipes o.pipes node k)) (exEl 5 [.i (((ix o.pipes (k + 1)).parent + ((n.pipes.length : Nat) : Int)) - 1), .i ((ix o.pipes (k + 1)).length), .i ((ix o.pipes (k + 1)).bore), .i ((ix o.pipes (k + 1)).drop), .i ((ix o.pipes (k + 1)).taps)]) ((n.pipes.length + k) + 1) (Lst eP ((graftT n.pipes o.pipes node k) ++ [(⟨(((ix o.pipes (k + 1)).parent + ((n.pipes.length : Nat) : Int)) - 1), (ix o.pipes (k + 1)).length, (ix o.pipes (k + 1)).bore, (ix o.pipes (k + 1)).drop, (ix o.pipes (k + 1)).taps⟩ : Pipe)])) := (app_one (by first | rfl | omega | (rw [graftT_len] <;> omega)) (by first | rfl | omega | (rw [graftT_len] <;> omega)) (fun | 0, _ => rfl | 1, _ => rfl | 2, _ => rfl | 3, _ => rfl | 4, _ => rfl | (n + 5), h => absurd h (by omega)))
      refine aw_region [(3, .new 1073), (4, .lst 1074 ((n.pipes.length + k) + 1) (Lst eP ((graftT n.pipes o.pipes node k) ++ [(⟨(((ix o.pipes (k + 1)).parent + ((n.pipes.length : Nat) : Int)) - 1), (ix o.pipes (k + 1)).length, (ix o.pipes (k + 1)).bore, (ix o.pipes (k + 1)).drop, (ix o.pipes (k + 1)).taps⟩ : Pipe)])))] [1, 3, 5, 6, 8, 9] [1, 2, 1003, 1005, 1006, 1008, 1074]
          ⟨77, [1, 2], [(1, .i node), (3, .l (.ref 1003 0)), (5, .l (.ref 1005 0)), (6, .l (.ref 1006 0)), (8, .l (.ref 1008 0)), (9, .i (((k + 1) : Nat) : Int))], [(1, some (.ro 5 n.pipes.length (Lst eP n.pipes))), (2, some (.ro 5 o.pipes.length (Lst eP o.pipes))), (1003, some (.blk 24 [.i n.pump, .ls 1])), (1005, some (.blk 24 [.i o.pump, .ls 2])), (1006, some (.blk 24 [.i 0, .v (.slice none 0 0)])), (1008, some (.blk 24 [.i n.pump, .ls 1074])), (1074, some (.vec 54 5 ((n.pipes.length + k) + 1) (Lst eP ((graftT n.pipes o.pipes node k) ++ [(⟨(((ix o.pipes (k + 1)).parent + ((n.pipes.length : Nat) : Int)) - 1), (ix o.pipes (k + 1)).length, (ix o.pipes (k + 1)).bore, (ix o.pipes (k + 1)).drop, (ix o.pipes (k + 1)).taps⟩ : Pipe)]))))]⟩
          [(n.pipes.length + k) + 1 ≤ 1000000000000, ((n.pipes.length + k) + 1) * 40 ≤ 140737488355328, AppOk 5 (n.pipes.length + k) 1 (Lst eP (graftT n.pipes o.pipes node k)) (exEl 5 [.i (((ix o.pipes (k + 1)).parent + ((n.pipes.length : Nat) : Int)) - 1), .i ((ix o.pipes (k + 1)).length), .i ((ix o.pipes (k + 1)).bore), .i ((ix o.pipes (k + 1)).drop), .i ((ix o.pipes (k + 1)).taps)]) ((n.pipes.length + k) + 1) (Lst eP ((graftT n.pipes o.pipes node k) ++ [(⟨(((ix o.pipes (k + 1)).parent + ((n.pipes.length : Nat) : Int)) - 1), (ix o.pipes (k + 1)).length, (ix o.pipes (k + 1)).bore, (ix o.pipes (k + 1)).drop, (ix o.pipes (k + 1)).taps⟩ : Pipe)]))] (by kernel_rfl) ⟨v26, v27, v28⟩ ?_
      clear v26 v27 v28
      have v29 : ((((k + 1) : Nat) : Int) + 1) = ((((k + 1) + 1) : Nat) : Int) := (by first | omega | rfl | assumption)
      have v30 : -9223372036854775808 ≤ ((((k + 1) + 1) : Nat) : Int) ∧ ((((k + 1) + 1) : Nat) : Int) < 9223372036854775808 := (by first | omega | rfl | assumption)
      refine aw_region [(1, .num ((((k + 1) + 1) : Nat) : Int))] [1, 3, 5, 6, 8, 9] [1, 2, 1003, 1005, 1006, 1008, 1074]
          ⟨77, [1, 2], [(1, .i node), (3, .l (.ref 1003 0)), (5, .l (.ref 1005 0)), (6, .l (.ref 1006 0)), (8, .l (.ref 1008 0)), (9, .i ((((k + 1) + 1) : Nat) : Int))], [(1, some (.ro 5 n.pipes.length (Lst eP n.pipes))), (2, some (.ro 5 o.pipes.length (Lst eP o.pipes))), (1003, some (.blk 24 [.i n.pump, .ls 1])), (1005, some (.blk 24 [.i o.pump, .ls 2])), (1006, some (.blk 24 [.i 0, .v (.slice none 0 0)])), (1008, some (.blk 24 [.i n.pump, .ls 1074])), (1074, some (.vec 54 5 ((n.pipes.length + k) + 1) (Lst eP ((graftT n.pipes o.pipes node k) ++ [(⟨(((ix o.pipes (k + 1)).parent + ((n.pipes.length : Nat) : Int)) - 1), (ix o.pipes (k + 1)).length, (ix o.pipes (k + 1)).bore, (ix o.pipes (k + 1)).drop, (ix o.pipes (k + 1)).taps⟩ : Pipe)]))))]⟩
          [((((k + 1) : Nat) : Int) + 1) = ((((k + 1) + 1) : Nat) : Int), -9223372036854775808 ≤ ((((k + 1) + 1) : Nat) : Int) ∧ ((((k + 1) + 1) : Nat) : Int) < 9223372036854775808] (by kernel_rfl) ⟨v29, v30⟩ ?_
      clear v29 v30
      exact ⟨k + 1, (by first | omega | rfl | assumption | (simp; done)), (show o.pipes.length - 1 - (k + 1) < o.pipes.length - 1 - k by first | omega | rfl | assumption),
          (Ent.ren [(9201, 1074)] rfl rfl (by kernel_rfl) (slots_cons rfl (slots_cons rfl (slots_cons rfl (slots_cons rfl (slots_cons rfl (slots_cons rfl slots_nil)))))) (conts_cons rfl (le_ro rfl el_rfl) (conts_cons rfl (le_ro rfl el_rfl) (conts_cons rfl (le_blk rfl) (conts_cons rfl (le_blk rfl) (conts_cons rfl (le_blk rfl) (conts_cons rfl (le_blk rfl) (conts_cons rfl (le_vec rfl (lst_eq (by first | rfl | omega | assumption | (rw [graftT_succ _ _ _ (by omega), Nat.add_comm 1 k, graftP_zero _ _ (by omega)] <;> rfl) | (rw [graftT_succ _ _ _ (by omega), Nat.add_comm 1 k, graftP_pos _ _ (by omega), ← Int.add_sub_assoc] <;> rfl) | (omega)))) conts_nil))))))) (by kernel_rfl))⟩
  ·
    have h14p : ((o.pipes.length : Nat) : Int) ≤ (((k + 1) : Nat) : Int) := by first | (have := of_decide_eq_false h14; omega) | (have := h14; simp at this; first | exact this | omega)
    refine aw_exit (exit_then (exit_then (exit_in ?_)))
    refine aw_seq ?_
    refine aw_region [] [6, 7] [1006, 9201]
        ⟨77, [1, 2], [(6, .l (.ref 1006 0)), (7, .i 0)], [(1006, some (.blk 24 [.i n.pump, .ls 9201])), (9201, some (.vec 54 5 (n.pipes.length + k) (Lst eP (graftT n.pipes o.pipes node k))))]⟩
        [] (by kernel_rfl) trivial ?_
    exact aw_ret ⟨.inr rfl, end_ok ⟨77, [1, 2], [(6, .l (.ref 8006 0)), (7, .i 0)], [(11, some (.vec 54 5 (n.pipes.length + (o.pipes.length - 1)) (Lst eP (graftT n.pipes o.pipes node (o.pipes.length - 1))))), (8006, some (.blk 24 [.i n.pump, .ls 11]))]⟩
        (Ent.ren [(8006, 1006), (11, 9201)] rfl rfl (by kernel_rfl) (slots_cons rfl (slots_cons rfl slots_nil)) (conts_cons rfl (le_vec (by first | rfl | omega | assumption | (rw [show k = o.pipes.length - 1 by omega])) (lst_eq (by first | rfl | omega | assumption | (rw [show k = o.pipes.length - 1 by omega])))) (conts_cons rfl (le_blk rfl) conts_nil)) (by kernel_rfl)) rfl (by kernel_rfl) (wr_cons rfl (plain_Lst plain_eP) wr_nil) (by kernel_rfl)⟩
end Go.Proofs.Ytepibjfmeibgcaa
/- What the document says of Cut, walked. -/
namespace Go.Proofs.Ytepibjfmeibgcaa
open Go.RowKit
set_option linter.unusedVariables false
set_option maxRecDepth 100000 in
theorem great_nn (n : Net) (hn : n.pipes.length ≤ maxLen) : CallFr Try.prog 14 [.agg [.i n.pump, .ls 1], .l (.v (.slice none 0 0)), .l (.v (.slice none 0 0))] [1] [some (.ro 5 n.pipes.length (Lst eP n.pipes))] (.b (decide (70 < ((n.pipes.length : Nat) : Int)))) [] := by
  have hML : maxLen = 9223372036854775807 := rfl
  refine callFr_of (fn := Try.f14) (by kernel_rfl) rfl (by kernel_rfl) (by kernel_rfl) fun E => ?_
  refine aw_ent (T := ⟨21, [1], [(0, .agg [.i n.pump, .ls 1]), (1, .l (.v (.slice none 0 0))), (2, .l (.v (.slice none 0 0)))], [(1, some (.ro 5 n.pipes.length (Lst eP n.pipes)))]⟩) (Ent.refl _) ?_
  refine aw_seq ?_
  refine aw_region [(0, .new 1003)] [1, 2, 3] [1, 1003]
      ⟨21, [1], [(1, .l (.v (.slice none 0 0))), (2, .l (.v (.slice none 0 0))), (3, .l (.ref 1003 0))], [(1, some (.ro 5 n.pipes.length (Lst eP n.pipes))), (1003, some (.blk 24 [.i n.pump, .ls 1]))]⟩
      [] (by kernel_rfl) trivial ?_
  refine aw_seq ?_
  rcases Bool.eq_false_or_eq_true (decide (70 < ((n.pipes.length : Nat) : Int))) with h1 | h1
  ·
    have h1p : 70 < ((n.pipes.length : Nat) : Int) := by first | exact of_decide_eq_true h1 | (have := h1; simp at this; first | exact this | omega)
    refine aw_region [(4, .dec true)] [6] []
        ⟨21, [1], [(6, .b true)], []⟩
        [decide (70 < ((n.pipes.length : Nat) : Int)) = true] (by kernel_rfl) h1 ?_
    exact aw_ret ⟨.inr rfl, end_ok ⟨21, [1], [(6, .b (decide (70 < ((n.pipes.length : Nat) : Int))))], []⟩
        (Ent.ren [] rfl rfl (by kernel_rfl) (slots_cons (slot_b (a := true) rfl (by first | rfl | omega | assumption | (exact Eq.symm (by assumption)))) slots_nil) conts_nil (by kernel_rfl)) rfl (by kernel_rfl) wr_nil (by kernel_rfl)⟩
  ·
    have h1p : ((n.pipes.length : Nat) : Int) ≤ 70 := by first | (have := of_decide_eq_false h1; omega) | (have := h1; simp at this; first | exact this | omega)
    have h2 : (decide ((70 : Int) < (0 : Int))) = false := by decide
    refine aw_region [(4, .dec false), (9, .dec false)] [6] []
        ⟨21, [1], [(6, .b (decide ((70 : Int) < (0 : Int))))], []⟩
        [decide (70 < ((n.pipes.length : Nat) : Int)) = false, decide ((70 : Int) < (0 : Int)) = false] (by kernel_rfl) ⟨h1, h2⟩ ?_
    exact aw_ret ⟨.inr rfl, end_ok ⟨21, [1], [(6, .b (decide (70 < ((n.pipes.length : Nat) : Int))))], []⟩
        (Ent.ren [] rfl rfl (by kernel_rfl) (slots_cons (slot_b (a := decide ((70 : Int) < (0 : Int))) rfl (by first | rfl | omega | assumption | (exact Eq.symm (by assumption)))) slots_nil) conts_nil (by kernel_rfl)) rfl (by kernel_rfl) wr_nil (by kernel_rfl)⟩
set_option maxRecDepth 100000 in
theorem refIn1_fr (x a b : Int) : CallFr Try.prog 52 [.i x, .i a, .i b] [] [] (.b (inB a b x)) [] := by
  refine callFr_of (fn := Try.f52) (by kernel_rfl) rfl (by kernel_rfl) (by kernel_rfl) fun E => ?_
  refine aw_ent (T := ⟨15, [], [(0, .i x), (1, .i a), (2, .i b)], []⟩) (Ent.refl _) ?_
  refine aw_seq ?_
  refine aw_region [] [0, 1, 2] []
      ⟨15, [], [(0, .i x), (1, .i a), (2, .i b)], []⟩
      [] (by kernel_rfl) trivial ?_
  refine aw_seq ?_
  rcases Bool.eq_false_or_eq_true (decide (a ≤ x)) with h1 | h1
  ·
    have h1p : a ≤ x := by first | exact of_decide_eq_true h1 | (have := h1; simp at this; first | exact this | omega)
    refine aw_region [(3, .dec true)] [6] []
        ⟨15, [], [(6, .b (decide (x ≤ b)))], []⟩
        [decide (a ≤ x) = true] (by kernel_rfl) h1 ?_
    exact aw_ret ⟨.inr rfl, end_ok ⟨15, [], [(6, .b (inB a b x))], []⟩
        (Ent.ren [] rfl rfl (by kernel_rfl) (slots_cons (slot_b (a := decide (x ≤ b)) rfl (by first | rfl | omega | assumption | (unfold inB; exact (decide_eq_false (by omega)).symm) | (unfold inB; exact decide_eq_decide.2 (by omega)))) slots_nil) conts_nil (by kernel_rfl)) rfl (by kernel_rfl) wr_nil (by kernel_rfl)⟩
  ·
    have h1p : x < a := by first | (have := of_decide_eq_false h1; omega) | (have := h1; simp at this; first | exact this | omega)
    refine aw_region [(3, .dec false)] [6] []
        ⟨15, [], [(6, .b false)], []⟩
        [decide (a ≤ x) = false] (by kernel_rfl) h1 ?_
    exact aw_ret ⟨.inr rfl, end_ok ⟨15, [], [(6, .b (inB a b x))], []⟩
        (Ent.ren [] rfl rfl (by kernel_rfl) (slots_cons (slot_b (a := false) rfl (by first | rfl | omega | assumption | (unfold inB; exact (decide_eq_false (by omega)).symm) | (unfold inB; exact decide_eq_decide.2 (by omega)))) slots_nil) conts_nil (by kernel_rfl)) rfl (by kernel_rfl) wr_nil (by kernel_rfl)⟩
set_option maxHeartbeats 4000000 in
set_option maxRecDepth 100000 in
theorem refCut_fr (n : Net) (node : Int) (hok : netB n = true) : CallFr Try.prog 53 [.agg [.i n.pump, .ls 1], .i node] [1] [some (.ro 5 n.pipes.length (Lst eP n.pipes))] (.tup [.agg [.i n.pump, .ls 11], .one (.ls 12)]) [(11, some (.vec 54 5 ((keptT n.pipes node n.pipes.length).length) (Lst eP (keptT n.pipes node n.pipes.length)))), (12, some (.vec 3 1 ((numT n.pipes node n.pipes.length).length) (Lst eI (numT n.pipes node n.pipes.length))))] := by
  have hnl := netB_len hok
  have ht := netB_tree hok
  refine callFr_of (fn := Try.f53) (by kernel_rfl) rfl (by kernel_rfl) (by kernel_rfl) fun E => ?_
  refine aw_ent (T := ⟨58, [1], [(0, .agg [.i n.pump, .ls 1]), (1, .i node)], [(1, some (.ro 5 n.pipes.length (Lst eP n.pipes)))]⟩) (Ent.refl _) ?_
  refine aw_seq ?_
  refine aw_region [(0, .new 1002), (1, .new 1004)] [1, 2, 4] [1, 1002, 1004]
      ⟨58, [1], [(1, .i node), (2, .l (.ref 1002 0)), (4, .l (.ref 1004 0))], [(1, some (.ro 5 n.pipes.length (Lst eP n.pipes))), (1002, some (.blk 24 [.i n.pump, .ls 1])), (1004, some (.blk 24 [.i 0, .v (.slice none 0 0)]))]⟩
      [] (by kernel_rfl) trivial ?_
  refine aw_seq ?_
  refine aw_region [(3, .new 1014), (4, .new 1006)] [1, 2, 4, 6, 7] [1, 1002, 1004, 1006, 1014]
      ⟨58, [1], [(1, .i node), (2, .l (.ref 1002 0)), (4, .l (.ref 1004 0)), (6, .l (.ref 1006 0)), (7, .ls 1014)], [(1, some (.ro 5 n.pipes.length (Lst eP n.pipes))), (1002, some (.blk 24 [.i n.pump, .ls 1])), (1004, some (.blk 24 [.i 0, .v (.slice none 0 0)])), (1006, some (.blk 24 [.i n.pump, .v (.slice none 0 0)])), (1014, some (.vec 3 1 0 (exEl 1 [])))]⟩
      [] (by kernel_rfl) trivial ?_
  refine aw_seq ?_
  refine aw_seq ?_
  refine aw_region [] [1, 2, 4, 6, 7, 8] [1, 1002, 1004, 1006, 1014]
      ⟨58, [1], [(1, .i node), (2, .l (.ref 1002 0)), (4, .l (.ref 1004 0)), (6, .l (.ref 1006 0)), (7, .ls 1014), (8, .i 0)], [(1, some (.ro 5 n.pipes.length (Lst eP n.pipes))), (1002, some (.blk 24 [.i n.pump, .ls 1])), (1004, some (.blk 24 [.i 0, .v (.slice none 0 0)])), (1006, some (.blk 24 [.i n.pump, .v (.slice none 0 0)])), (1014, some (.vec 3 1 0 (exEl 1 [])))]⟩
      [] (by kernel_rfl) trivial ?_
  refine aw_block ?_
  refine aw_loop (ι := Nat) (fun zz => ⟨58, [1], [(1, .i node), (2, .l (.ref 1002 0)), (4, .l (.ref 1004 0)), (6, .l (.ref 1006 0)), (7, .ls 9302), (8, .i ((zz : Nat) : Int))], [(1, some (.ro 5 n.pipes.length (Lst eP n.pipes))), (1002, some (.blk 24 [.i n.pump, .ls 1])), (1004, some (.blk 24 [.i 0, .v (.slice none 0 0)])), (1006, some (.blk 24 [.i n.pump, .ls 9301])), (9301, some (.vec 54 5 ((keptT n.pipes node zz).length) (Lst eP (keptT n.pipes node zz)))), (9302, some (.vec 3 1 ((numT n.pipes node zz).length) (Lst eI (numT n.pipes node zz))))]⟩) (fun zz => (zz ≤ n.pipes.length)) (fun zz => n.pipes.length - zz) 0 (by first | omega | rfl | assumption | (simp; done))
      (Ent.trans (Ent.nilCell 1006 70001 54 5 24 [.i n.pump, .v (.slice none 0 0)] 1 (Lst eP (keptT n.pipes node 0)) rfl rfl (by omega) (by kernel_rfl) (by kernel_rfl)) (Ent.ren [(9302, 1014), (9301, 70001)] rfl rfl (by kernel_rfl) (slots_cons rfl (slots_cons rfl (slots_cons rfl (slots_cons rfl (slots_cons rfl (slots_cons rfl slots_nil)))))) (conts_cons rfl (le_ro rfl el_rfl) (conts_cons rfl (le_blk rfl) (conts_cons rfl (le_blk rfl) (conts_cons rfl (le_blk rfl) (conts_cons rfl (le_vec (by first | rfl | omega | assumption) el_rfl) (conts_cons rfl (le_vec (by first | rfl | omega | assumption) (fun i hi => absurd hi (by omega))) conts_nil)))))) (by kernel_rfl))) fun zz hp => ?_
  obtain ⟨i, rfl⟩ : ∃ x, x = zz := ⟨_, rfl⟩
  have hi := hp
  have hkl := keptT_len n.pipes node i
  have hnm := numT_len n.pipes node i
  show AW _ E _ _ ⟨58, [1], [(1, .i node), (2, .l (.ref 1002 0)), (4, .l (.ref 1004 0)), (6, .l (.ref 1006 0)), (7, .ls 9302), (8, .i ((i : Nat) : Int))], [(1, some (.ro 5 n.pipes.length (Lst eP n.pipes))), (1002, some (.blk 24 [.i n.pump, .ls 1])), (1004, some (.blk 24 [.i 0, .v (.slice none 0 0)])), (1006, some (.blk 24 [.i n.pump, .ls 9301])), (9301, some (.vec 54 5 ((keptT n.pipes node i).length) (Lst eP (keptT n.pipes node i)))), (9302, some (.vec 3 1 ((numT n.pipes node i).length) (Lst eI (numT n.pipes node i))))]⟩
  refine aw_seq ?_
  refine aw_seq ?_
  refine aw_region [] [1, 2, 4, 6, 7, 8, 19] [1, 1002, 1004, 1006, 9301, 9302]
      ⟨58, [1], [(1, .i node), (2, .l (.ref 1002 0)), (4, .l (.ref 1004 0)), (6, .l (.ref 1006 0)), (7, .ls 9302), (8, .i ((i : Nat) : Int)), (19, .b (decide (((i : Nat) : Int) < ((n.pipes.length : Nat) : Int))))], [(1, some (.ro 5 n.pipes.length (Lst eP n.pipes))), (1002, some (.blk 24 [.i n.pump, .ls 1])), (1004, some (.blk 24 [.i 0, .v (.slice none 0 0)])), (1006, some (.blk 24 [.i n.pump, .ls 9301])), (9301, some (.vec 54 5 ((keptT n.pipes node i).length) (Lst eP (keptT n.pipes node i)))), (9302, some (.vec 3 1 ((numT n.pipes node i).length) (Lst eI (numT n.pipes node i))))]⟩
      [] (by kernel_rfl) trivial ?_
  refine aw_cond (b := decide (((i : Nat) : Int) < ((n.pipes.length : Nat) : Int))) rfl (fun h1 => ?_) (fun h1 => ?_)
  ·
    have h1p : ((i : Nat) : Int) < ((n.pipes.length : Nat) : Int) := by first | exact of_decide_eq_true h1 | (have := h1; simp at this; first | exact this | omega)
    refine aw_skip ?_
    refine aw_seq ?_
    refine aw_block ?_
    refine aw_seq ?_
    refine aw_seq ?_
    have v2 : CallOK Try.prog 82 [.agg [.i n.pump, .ls 1], .i node, .i ((i : Nat) : Int)] [1] [some (.ro 5 n.pipes.length (Lst eP n.pipes))] (.b (onB n.pipes node ((i : Nat) : Int))) [] := (CallFr.to (refOn_fr n node ((i : Nat) : Int) (by omega) ht (by omega) (by omega)) [(1, 1)] (by kernel_rfl) (by kernel_rfl) (by kernel_rfl) (by kernel_rfl) (by kernel_rfl) (dem_cons rfl (le_ro rfl el_rfl) dem_nil))
    refine aw_region [(3, .call [1] (.b (onB n.pipes node ((i : Nat) : Int))) [])] [1, 2, 4, 6, 7, 8, 25] [1, 1002, 1004, 1006, 9301, 9302]
        ⟨58, [1], [(1, .i node), (2, .l (.ref 1002 0)), (4, .l (.ref 1004 0)), (6, .l (.ref 1006 0)), (7, .ls 9302), (8, .i ((i : Nat) : Int)), (25, .b (onB n.pipes node ((i : Nat) : Int)))], [(1, some (.ro 5 n.pipes.length (Lst eP n.pipes))), (1002, some (.blk 24 [.i n.pump, .ls 1])), (1004, some (.blk 24 [.i 0, .v (.slice none 0 0)])), (1006, some (.blk 24 [.i n.pump, .ls 9301])), (9301, some (.vec 54 5 ((keptT n.pipes node i).length) (Lst eP (keptT n.pipes node i)))), (9302, some (.vec 3 1 ((numT n.pipes node i).length) (Lst eI (numT n.pipes node i))))]⟩
        [CallOK Try.prog 82 [.agg [.i n.pump, .ls 1], .i node, .i ((i : Nat) : Int)] [1] [some (.ro 5 n.pipes.length (Lst eP n.pipes))] (.b (onB n.pipes node ((i : Nat) : Int))) []] (by kernel_rfl) v2 ?_
    clear v2
    refine aw_cond (b := onB n.pipes node ((i : Nat) : Int)) rfl (fun h3 => ?_) (fun h3 => ?_)
    ·
      refine aw_exit (exit_then (exit_in ?_))
      have v4 : (((i : Nat) : Int) + 1) = (((i + 1) : Nat) : Int) := (by first | omega | rfl | assumption)
      have v5 : -9223372036854775808 ≤ (((i + 1) : Nat) : Int) ∧ (((i + 1) : Nat) : Int) < 9223372036854775808 := (by first | omega | rfl | assumption)
      refine aw_region [(1, .num (((i + 1) : Nat) : Int))] [1, 2, 4, 6, 7, 8] [1, 1002, 1004, 1006, 9301, 9302]
          ⟨58, [1], [(1, .i node), (2, .l (.ref 1002 0)), (4, .l (.ref 1004 0)), (6, .l (.ref 1006 0)), (7, .ls 9302), (8, .i (((i + 1) : Nat) : Int))], [(1, some (.ro 5 n.pipes.length (Lst eP n.pipes))), (1002, some (.blk 24 [.i n.pump, .ls 1])), (1004, some (.blk 24 [.i 0, .v (.slice none 0 0)])), (1006, some (.blk 24 [.i n.pump, .ls 9301])), (9301, some (.vec 54 5 ((keptT n.pipes node i).length) (Lst eP (keptT n.pipes node i)))), (9302, some (.vec 3 1 ((numT n.pipes node i).length) (Lst eI (numT n.pipes node i))))]⟩
          [(((i : Nat) : Int) + 1) = (((i + 1) : Nat) : Int), -9223372036854775808 ≤ (((i + 1) : Nat) : Int) ∧ (((i + 1) : Nat) : Int) < 9223372036854775808] (by kernel_rfl) ⟨v4, v5⟩ ?_
      clear v4 v5
      exact ⟨i + 1, (by first | omega | rfl | assumption | (simp; done)), (show n.pipes.length - (i + 1) < n.pipes.length - i by first | omega | rfl | assumption),
          (Ent.ren [] rfl rfl (by kernel_rfl) (slots_cons rfl (slots_cons rfl (slots_cons rfl (slots_cons rfl (slots_cons rfl (slots_cons rfl slots_nil)))))) (conts_cons rfl (le_ro rfl el_rfl) (conts_cons rfl (le_blk rfl) (conts_cons rfl (le_blk rfl) (conts_cons rfl (le_blk rfl) (conts_cons rfl (le_vec (by first | rfl | omega | assumption | (rw [numT_keep _ _ (by assumption)]; done) | (rw [numT_skip _ _ (by assumption)]; done) | (rw [keptT_skip _ _ (by assumption)]; done) | (rw [keptT_keep _ _ (by assumption)]; unfold cutP; rw [hnew] <;> rfl) | (rw [keptT_keep _ _ (by assumption)]; simp; done) | (rw [numT_keep _ _ (by assumption)]; simp; done)) (lst_eq (by first | rfl | omega | assumption | (rw [numT_keep _ _ (by assumption)]; done) | (rw [numT_skip _ _ (by assumption)]; done) | (rw [keptT_skip _ _ (by assumption)]; done) | (rw [keptT_keep _ _ (by assumption)]; unfold cutP; rw [hnew] <;> rfl) | (rw [keptT_keep _ _ (by assumption)]; simp; done) | (rw [numT_keep _ _ (by assumption)]; simp; done)))) (conts_cons rfl (le_vec (by first | rfl | omega | assumption | (rw [numT_keep _ _ (by assumption)]; done) | (rw [numT_skip _ _ (by assumption)]; done) | (rw [keptT_skip _ _ (by assumption)]; done) | (rw [keptT_keep _ _ (by assumption)]; unfold cutP; rw [hnew] <;> rfl) | (rw [keptT_keep _ _ (by assumption)]; simp; done) | (rw [numT_keep _ _ (by assumption)]; simp; done)) (lst_eq (by first | rfl | omega | assumption | (rw [numT_keep _ _ (by assumption)]; done) | (rw [numT_skip _ _ (by assumption)]; done) | (rw [keptT_skip _ _ (by assumption)]; done) | (rw [keptT_keep _ _ (by assumption)]; unfold cutP; rw [hnew] <;> rfl) | (rw [keptT_keep _ _ (by assumption)]; simp; done) | (rw [numT_keep _ _ (by assumption)]; simp; done)))) conts_nil)))))) (by kernel_rfl))⟩
    ·
      refine aw_skip ?_
      refine aw_seq ?_
      have v6 : ((i : Nat) : Int) = ((i : Nat) : Int) := (by first | omega | rfl | assumption)
      have v7 : i < n.pipes.length := (by first | omega | rfl | assumption)
      have v8 : i < n.pipes.length := (by first | omega | rfl | assumption)
      refine aw_region [(3, .idx i), (5, .new 1009)] [1, 2, 4, 6, 7, 8, 9] [1, 1002, 1004, 1006, 1009, 9301, 9302]
          ⟨58, [1], [(1, .i node), (2, .l (.ref 1002 0)), (4, .l (.ref 1004 0)), (6, .l (.ref 1006 0)), (7, .ls 9302), (8, .i ((i : Nat) : Int)), (9, .l (.ref 1009 0))], [(1, some (.ro 5 n.pipes.length (Lst eP n.pipes))), (1002, some (.blk 24 [.i n.pump, .ls 1])), (1004, some (.blk 24 [.i 0, .v (.slice none 0 0)])), (1006, some (.blk 24 [.i n.pump, .ls 9301])), (1009, some (.blk 54 [.i ((ix n.pipes i).parent), .i ((ix n.pipes i).length), .i ((ix n.pipes i).bore), .i ((ix n.pipes i).drop), .i ((ix n.pipes i).taps)])), (9301, some (.vec 54 5 ((keptT n.pipes node i).length) (Lst eP (keptT n.pipes node i)))), (9302, some (.vec 3 1 ((numT n.pipes node i).length) (Lst eI (numT n.pipes node i))))]⟩
          [((i : Nat) : Int) = ((i : Nat) : Int), i < n.pipes.length, i < n.pipes.length] (by kernel_rfl) ⟨v6, v7, v8⟩ ?_
      clear v6 v7 v8
      refine aw_seq ?_
      refine aw_seq ?_
      refine aw_region [] [1, 2, 4, 6, 7, 8, 9, 10] [1, 1002, 1004, 1006, 1009, 9301, 9302]
          ⟨58, [1], [(1, .i node), (2, .l (.ref 1002 0)), (4, .l (.ref 1004 0)), (6, .l (.ref 1006 0)), (7, .ls 9302), (8, .i ((i : Nat) : Int)), (9, .l (.ref 1009 0)), (10, .i 0)], [(1, some (.ro 5 n.pipes.length (Lst eP n.pipes))), (1002, some (.blk 24 [.i n.pump, .ls 1])), (1004, some (.blk 24 [.i 0, .v (.slice none 0 0)])), (1006, some (.blk 24 [.i n.pump, .ls 9301])), (1009, some (.blk 54 [.i ((ix n.pipes i).parent), .i ((ix n.pipes i).length), .i ((ix n.pipes i).bore), .i ((ix n.pipes i).drop), .i ((ix n.pipes i).taps)])), (9301, some (.vec 54 5 ((keptT n.pipes node i).length) (Lst eP (keptT n.pipes node i)))), (9302, some (.vec 3 1 ((numT n.pipes node i).length) (Lst eI (numT n.pipes node i))))]⟩
          [] (by kernel_rfl) trivial ?_
      refine aw_block ?_
      refine aw_loop (ι := Nat) (fun zz => ⟨58, [1], [(1, .i node), (2, .l (.ref 1002 0)), (4, .l (.ref 1004 0)), (6, .l (.ref 1006 0)), (7, .ls 9302), (8, .i ((i : Nat) : Int)), (9, .l (.ref 1009 0)), (10, .i ((zz : Nat) : Int))], [(1, some (.ro 5 n.pipes.length (Lst eP n.pipes))), (1002, some (.blk 24 [.i n.pump, .ls 1])), (1004, some (.blk 24 [.i 0, .v (.slice none 0 0)])), (1006, some (.blk 24 [.i n.pump, .ls 9301])), (1009, some (.blk 54 [.i ((ix n.pipes i).parent), .i ((ix n.pipes i).length), .i ((ix n.pipes i).bore), .i ((ix n.pipes i).drop), .i ((ix n.pipes i).taps)])), (9301, some (.vec 54 5 ((keptT n.pipes node i).length) (Lst eP (keptT n.pipes node i)))), (9302, some (.vec 3 1 ((numT n.pipes node i).length) (Lst eI (numT n.pipes node i))))]⟩) (fun zz => (zz ≤ (numT n.pipes node i).length) ∧ (∀ j, j < zz → ix (numT n.pipes node i) j ≠ (ix n.pipes i).parent)) (fun zz => (numT n.pipes node i).length - zz) 0 ⟨(by first | omega | rfl | assumption | (simp; done)), (by intro j hj; omega)⟩
          (Ent.ren [] rfl rfl (by kernel_rfl) (slots_cons rfl (slots_cons rfl (slots_cons rfl (slots_cons rfl (slots_cons rfl (slots_cons rfl (slots_cons rfl (slots_cons rfl slots_nil)))))))) (conts_cons rfl (le_ro rfl el_rfl) (conts_cons rfl (le_blk rfl) (conts_cons rfl (le_blk rfl) (conts_cons rfl (le_blk rfl) (conts_cons rfl (le_blk rfl) (conts_cons rfl (le_vec rfl el_rfl) (conts_cons rfl (le_vec rfl el_rfl) conts_nil))))))) (by kernel_rfl)) fun zz hp => ?_
      obtain ⟨k, rfl⟩ : ∃ x, x = zz := ⟨_, rfl⟩
      obtain ⟨hk, hno⟩ := hp
      show AW _ E _ _ ⟨58, [1], [(1, .i node), (2, .l (.ref 1002 0)), (4, .l (.ref 1004 0)), (6, .l (.ref 1006 0)), (7, .ls 9302), (8, .i ((i : Nat) : Int)), (9, .l (.ref 1009 0)), (10, .i ((k : Nat) : Int))], [(1, some (.ro 5 n.pipes.length (Lst eP n.pipes))), (1002, some (.blk 24 [.i n.pump, .ls 1])), (1004, some (.blk 24 [.i 0, .v (.slice none 0 0)])), (1006, some (.blk 24 [.i n.pump, .ls 9301])), (1009, some (.blk 54 [.i ((ix n.pipes i).parent), .i ((ix n.pipes i).length), .i ((ix n.pipes i).bore), .i ((ix n.pipes i).drop), .i ((ix n.pipes i).taps)])), (9301, some (.vec 54 5 ((keptT n.pipes node i).length) (Lst eP (keptT n.pipes node i)))), (9302, some (.vec 3 1 ((numT n.pipes node i).length) (Lst eI (numT n.pipes node i))))]⟩
      refine aw_seq ?_
      refine aw_seq ?_
      refine aw_region [] [1, 2, 4, 6, 7, 8, 9, 10, 34] [1, 1002, 1004, 1006, 1009, 9301, 9302]
          ⟨58, [1], [(1, .i node), (2, .l (.ref 1002 0)), (4, .l (.ref 1004 0)), (6, .l (.ref 1006 0)), (7, .ls 9302), (8, .i ((i : Nat) : Int)), (9, .l (.ref 1009 0)), (10, .i ((k : Nat) : Int)), (34, .b (decide (((k : Nat) : Int) < (((numT n.pipes node i).length : Nat) : Int))))], [(1, some (.ro 5 n.pipes.length (Lst eP n.pipes))), (1002, some (.blk 24 [.i n.pump, .ls 1])), (1004, some (.blk 24 [.i 0, .v (.slice none 0 0)])), (1006, some (.blk 24 [.i n.pump, .ls 9301])), (1009, some (.blk 54 [.i ((ix n.pipes i).parent), .i ((ix n.pipes i).length), .i ((ix n.pipes i).bore), .i ((ix n.pipes i).drop), .i ((ix n.pipes i).taps)])), (9301, some (.vec 54 5 ((keptT n.pipes node i).length) (Lst eP (keptT n.pipes node i)))), (9302, some (.vec 3 1 ((numT n.pipes node i).length) (Lst eI (numT n.pipes node i))))]⟩
          [] (by kernel_rfl) trivial ?_
      refine aw_cond (b := decide (((k : Nat) : Int) < (((numT n.pipes node i).length : Nat) : Int))) rfl (fun h9 => ?_) (fun h9 => ?_)
      ·
        have h9p : ((k : Nat) : Int) < (((numT n.pipes node i).length : Nat) : Int) := by first | exact of_decide_eq_true h9 | (have := h9; simp at this; first | exact this | omega)
        refine aw_skip ?_
        refine aw_seq ?_
        refine aw_block ?_
        refine aw_seq ?_
        have v10 : ((k : Nat) : Int) = ((k : Nat) : Int) := (by first | omega | rfl | assumption)
        have v11 : k < (numT n.pipes node i).length := (by first | omega | rfl | assumption)
        have v12 : k < (numT n.pipes node i).length := (by first | omega | rfl | assumption)
        refine aw_drawn [(2, .idx k)] [1, 2, 4, 6, 7, 8, 9, 10, 43] [1, 1002, 1004, 1006, 1009, 9301, 9302]
            ⟨58, [1], [(1, .i node), (2, .l (.ref 1002 0)), (4, .l (.ref 1004 0)), (6, .l (.ref 1006 0)), (7, .ls 9302), (8, .i ((i : Nat) : Int)), (9, .l (.ref 1009 0)), (10, .i ((k : Nat) : Int)), (43, .b (decide ((ix (numT n.pipes node i) k) = (ix n.pipes i).parent)))], [(1, some (.ro 5 n.pipes.length (Lst eP n.pipes))), (1002, some (.blk 24 [.i n.pump, .ls 1])), (1004, some (.blk 24 [.i 0, .v (.slice none 0 0)])), (1006, some (.blk 24 [.i n.pump, .ls 9301])), (1009, some (.blk 54 [.i ((ix n.pipes i).parent), .i ((ix n.pipes i).length), .i ((ix n.pipes i).bore), .i ((ix n.pipes i).drop), .i ((ix n.pipes i).taps)])), (9301, some (.vec 54 5 ((keptT n.pipes node i).length) (Lst eP (keptT n.pipes node i)))), (9302, some (.vec 3 1 ((numT n.pipes node i).length) (Lst eI (numT n.pipes node i))))]⟩
            [((k : Nat) : Int) = ((k : Nat) : Int), k < (numT n.pipes node i).length, k < (numT n.pipes node i).length] (by kernel_rfl) (by kernel_rfl) ⟨v10, v11, v12⟩ ?_
        clear v10 v11 v12
        refine aw_cond (b := decide ((ix (numT n.pipes node i) k) = (ix n.pipes i).parent)) rfl (fun h13 => ?_) (fun h13 => ?_)
        ·
          have h13p : (ix (numT n.pipes node i) k) = (ix n.pipes i).parent := by first | exact of_decide_eq_true h13 | (have := h13; simp at this; first | exact this | omega)
          refine aw_seq ?_
          have hnew : newN n.pipes node (ix n.pipes i).parent = (k : Int) := numT_at _ _ i (by omega) (by assumption)
          refine aw_region [] [1, 2, 4, 6, 7, 8, 9] [1, 1002, 1004, 1006, 1009, 9301, 9302]
              ⟨58, [1], [(1, .i node), (2, .l (.ref 1002 0)), (4, .l (.ref 1004 0)), (6, .l (.ref 1006 0)), (7, .ls 9302), (8, .i ((i : Nat) : Int)), (9, .l (.ref 1009 0))], [(1, some (.ro 5 n.pipes.length (Lst eP n.pipes))), (1002, some (.blk 24 [.i n.pump, .ls 1])), (1004, some (.blk 24 [.i 0, .v (.slice none 0 0)])), (1006, some (.blk 24 [.i n.pump, .ls 9301])), (1009, some (.blk 54 [.i ((k : Nat) : Int), .i ((ix n.pipes i).length), .i ((ix n.pipes i).bore), .i ((ix n.pipes i).drop), .i ((ix n.pipes i).taps)])), (9301, some (.vec 54 5 ((keptT n.pipes node i).length) (Lst eP (keptT n.pipes node i)))), (9302, some (.vec 3 1 ((numT n.pipes node i).length) (Lst eI (numT n.pipes node i))))]⟩
              [] (by kernel_rfl) trivial ?_
          refine aw_exit (exit_out (by kernel_rfl) (exit_then (exit_then (exit_in ?_))))
          have v14 : (keptT n.pipes node i).length + 1 ≤ 1000000000000 := (by first | omega | rfl | assumption)
          have v15 : ((keptT n.pipes node i).length + 1) * 40 ≤ 140737488355328 := (by first | omega | rfl | assumption)
          have v16 : AppOk 5 ((keptT n.pipes node i).length) 1 (Lst eP (keptT n.pipes node i)) (exEl 5 [.i ((k : Nat) : Int), .i ((ix n.pipes i).length), .i ((ix n.pipes i).bore), .i ((ix n.pipes i).drop), .i ((ix n.pipes i).taps)]) ((keptT n.pipes node i).length + 1) (Lst eP ((keptT n.pipes node i) ++ [(⟨((k : Nat) : Int), (ix n.pipes i).length, (ix n.pipes i).bore, (ix n.pipes i).drop, (ix n.pipes i).taps⟩ : Pipe)])) := (app_one (by first | omega | rfl | assumption) (by first | omega | rfl | assumption) (fun | 0, _ => rfl | 1, _ => rfl | 2, _ => rfl | 3, _ => rfl | 4, _ => rfl | (n + 5), h => absurd h (by omega)))
          have v17 : (numT n.pipes node i).length + 1 ≤ 1000000000000 := (by first | omega | rfl | assumption)
          have v18 : ((numT n.pipes node i).length + 1) * 8 ≤ 140737488355328 := (by first | omega | rfl | assumption)
          have v19 : AppOk 1 ((numT n.pipes node i).length) 1 (Lst eI (numT n.pipes node i)) (exEl 1 [.i ((i : Nat) : Int)]) ((numT n.pipes node i).length + 1) (Lst eI ((numT n.pipes node i) ++ [((i : Nat) : Int)])) := (app_one (by first | omega | rfl | assumption) (by first | omega | rfl | assumption) (fun | 0, _ => rfl | (n + 1), h => absurd h (by omega)))
          refine aw_region [(3, .new 1049), (4, .lst 1050 ((keptT n.pipes node i).length + 1) (Lst eP ((keptT n.pipes node i) ++ [(⟨((k : Nat) : Int), (ix n.pipes i).length, (ix n.pipes i).bore, (ix n.pipes i).drop, (ix n.pipes i).taps⟩ : Pipe)]))), (7, .new 1053), (8, .lst 1054 ((numT n.pipes node i).length + 1) (Lst eI ((numT n.pipes node i) ++ [((i : Nat) : Int)])))] [1, 2, 4, 6, 7, 8] [1, 1002, 1004, 1006, 1050, 1054]
              ⟨58, [1], [(1, .i node), (2, .l (.ref 1002 0)), (4, .l (.ref 1004 0)), (6, .l (.ref 1006 0)), (7, .ls 1054), (8, .i ((i : Nat) : Int))], [(1, some (.ro 5 n.pipes.length (Lst eP n.pipes))), (1002, some (.blk 24 [.i n.pump, .ls 1])), (1004, some (.blk 24 [.i 0, .v (.slice none 0 0)])), (1006, some (.blk 24 [.i n.pump, .ls 1050])), (1050, some (.vec 54 5 ((keptT n.pipes node i).length + 1) (Lst eP ((keptT n.pipes node i) ++ [(⟨((k : Nat) : Int), (ix n.pipes i).length, (ix n.pipes i).bore, (ix n.pipes i).drop, (ix n.pipes i).taps⟩ : Pipe)])))), (1054, some (.vec 3 1 ((numT n.pipes node i).length + 1) (Lst eI ((numT n.pipes node i) ++ [((i : Nat) : Int)]))))]⟩
              [(keptT n.pipes node i).length + 1 ≤ 1000000000000, ((keptT n.pipes node i).length + 1) * 40 ≤ 140737488355328, AppOk 5 ((keptT n.pipes node i).length) 1 (Lst eP (keptT n.pipes node i)) (exEl 5 [.i ((k : Nat) : Int), .i ((ix n.pipes i).length), .i ((ix n.pipes i).bore), .i ((ix n.pipes i).drop), .i ((ix n.pipes i).taps)]) ((keptT n.pipes node i).length + 1) (Lst eP ((keptT n.pipes node i) ++ [(⟨((k : Nat) : Int), (ix n.pipes i).length, (ix n.pipes i).bore, (ix n.pipes i).drop, (ix n.pipes i).taps⟩ : Pipe)])), (numT n.pipes node i).length + 1 ≤ 1000000000000, ((numT n.pipes node i).length + 1) * 8 ≤ 140737488355328, AppOk 1 ((numT n.pipes node i).length) 1 (Lst eI (numT n.pipes node i)) (exEl 1 [.i ((i : Nat) : Int)]) ((numT n.pipes node i).length + 1) (Lst eI ((numT n.pipes node i) ++ [((i : Nat) : Int)]))] (by kernel_rfl) ⟨v14, v15, v16, v17, v18, v19⟩ ?_
          clear v14 v15 v16 v17 v18 v19
          have v20 : (((i : Nat) : Int) + 1) = (((i + 1) : Nat) : Int) := (by first | omega | rfl | assumption)
          have v21 : -9223372036854775808 ≤ (((i + 1) : Nat) : Int) ∧ (((i + 1) : Nat) : Int) < 9223372036854775808 := (by first | omega | rfl | assumption)
          refine aw_region [(1, .num (((i + 1) : Nat) : Int))] [1, 2, 4, 6, 7, 8] [1, 1002, 1004, 1006, 1050, 1054]
              ⟨58, [1], [(1, .i node), (2, .l (.ref 1002 0)), (4, .l (.ref 1004 0)), (6, .l (.ref 1006 0)), (7, .ls 1054), (8, .i (((i + 1) : Nat) : Int))], [(1, some (.ro 5 n.pipes.length (Lst eP n.pipes))), (1002, some (.blk 24 [.i n.pump, .ls 1])), (1004, some (.blk 24 [.i 0, .v (.slice none 0 0)])), (1006, some (.blk 24 [.i n.pump, .ls 1050])), (1050, some (.vec 54 5 ((keptT n.pipes node i).length + 1) (Lst eP ((keptT n.pipes node i) ++ [(⟨((k : Nat) : Int), (ix n.pipes i).length, (ix n.pipes i).bore, (ix n.pipes i).drop, (ix n.pipes i).taps⟩ : Pipe)])))), (1054, some (.vec 3 1 ((numT n.pipes node i).length + 1) (Lst eI ((numT n.pipes node i) ++ [((i : Nat) : Int)]))))]⟩
              [(((i : Nat) : Int) + 1) = (((i + 1) : Nat) : Int), -9223372036854775808 ≤ (((i + 1) : Nat) : Int) ∧ (((i + 1) : Nat) : Int) < 9223372036854775808] (by kernel_rfl) ⟨v20, v21⟩ ?_
          clear v20 v21
          exact ⟨i + 1, (by first | omega | rfl | assumption | (simp; done)), (show n.pipes.length - (i + 1) < n.pipes.length - i by first | omega | rfl | assumption),
              (Ent.ren [(9302, 1054), (9301, 1050)] rfl rfl (by kernel_rfl) (slots_cons rfl (slots_cons rfl (slots_cons rfl (slots_cons rfl (slots_cons rfl (slots_cons rfl slots_nil)))))) (conts_cons rfl (le_ro rfl el_rfl) (conts_cons rfl (le_blk rfl) (conts_cons rfl (le_blk rfl) (conts_cons rfl (le_blk rfl) (conts_cons rfl (le_vec (by first | rfl | omega | assumption | (rw [numT_keep _ _ (by assumption)]; done) | (rw [numT_skip _ _ (by assumption)]; done) | (rw [keptT_skip _ _ (by assumption)]; done) | (rw [keptT_keep _ _ (by assumption)]; unfold cutP; rw [hnew] <;> rfl) | (rw [keptT_keep _ _ (by assumption)]; simp; done) | (rw [numT_keep _ _ (by assumption)]; simp; done)) (lst_eq (by first | rfl | omega | assumption | (rw [numT_keep _ _ (by assumption)]; done) | (rw [numT_skip _ _ (by assumption)]; done) | (rw [keptT_skip _ _ (by assumption)]; done) | (rw [keptT_keep _ _ (by assumption)]; unfold cutP; rw [hnew] <;> rfl) | (rw [keptT_keep _ _ (by assumption)]; simp; done) | (rw [numT_keep _ _ (by assumption)]; simp; done)))) (conts_cons rfl (le_vec (by first | rfl | omega | assumption | (rw [numT_keep _ _ (by assumption)]; done) | (rw [numT_skip _ _ (by assumption)]; done) | (rw [keptT_skip _ _ (by assumption)]; done) | (rw [keptT_keep _ _ (by assumption)]; unfold cutP; rw [hnew] <;> rfl) | (rw [keptT_keep _ _ (by assumption)]; simp; done) | (rw [numT_keep _ _ (by assumption)]; simp; done)) (lst_eq (by first | rfl | omega | assumption | (rw [numT_keep _ _ (by assumption)]; done) | (rw [numT_skip _ _ (by assumption)]; done) | (rw [keptT_skip _ _ (by assumption)]; done) | (rw [keptT_keep _ _ (by assumption)]; unfold cutP; rw [hnew] <;> rfl) | (rw [keptT_keep _ _ (by assumption)]; simp; done) | (rw [numT_keep _ _ (by assumption)]; simp; done)))) conts_nil)))))) (by kernel_rfl))⟩
        ·
          have h13p : (ix (numT n.pipes node i) k) ≠ (ix n.pipes i).parent := by first | (have := of_decide_eq_false h13; omega) | (have := h13; simp at this; first | exact this | omega)
          refine aw_skip ?_
          have v22 : (((k : Nat) : Int) + 1) = (((k + 1) : Nat) : Int) := (by first | omega | rfl | assumption)
          have v23 : -9223372036854775808 ≤ (((k + 1) : Nat) : Int) ∧ (((k + 1) : Nat) : Int) < 9223372036854775808 := (by first | omega | rfl | assumption)
          refine aw_region [(1, .num (((k + 1) : Nat) : Int))] [1, 2, 4, 6, 7, 8, 9, 10] [1, 1002, 1004, 1006, 1009, 9301, 9302]
              ⟨58, [1], [(1, .i node), (2, .l (.ref 1002 0)), (4, .l (.ref 1004 0)), (6, .l (.ref 1006 0)), (7, .ls 9302), (8, .i ((i : Nat) : Int)), (9, .l (.ref 1009 0)), (10, .i (((k + 1) : Nat) : Int))], [(1, some (.ro 5 n.pipes.length (Lst eP n.pipes))), (1002, some (.blk 24 [.i n.pump, .ls 1])), (1004, some (.blk 24 [.i 0, .v (.slice none 0 0)])), (1006, some (.blk 24 [.i n.pump, .ls 9301])), (1009, some (.blk 54 [.i ((ix n.pipes i).parent), .i ((ix n.pipes i).length), .i ((ix n.pipes i).bore), .i ((ix n.pipes i).drop), .i ((ix n.pipes i).taps)])), (9301, some (.vec 54 5 ((keptT n.pipes node i).length) (Lst eP (keptT n.pipes node i)))), (9302, some (.vec 3 1 ((numT n.pipes node i).length) (Lst eI (numT n.pipes node i))))]⟩
              [(((k : Nat) : Int) + 1) = (((k + 1) : Nat) : Int), -9223372036854775808 ≤ (((k + 1) : Nat) : Int) ∧ (((k + 1) : Nat) : Int) < 9223372036854775808] (by kernel_rfl) ⟨v22, v23⟩ ?_
          clear v22 v23
          exact ⟨k + 1, ⟨(by first | omega | rfl | assumption | (simp; done)), (by intro j hj; rcases Nat.lt_or_ge j k with hq | hq; exact hno j hq; rw [show j = k by omega]; assumption)⟩, (show (numT n.pipes node i).length - (k + 1) < (numT n.pipes node i).length - k by first | omega | rfl | assumption),
              (Ent.ren [] rfl rfl (by kernel_rfl) (slots_cons rfl (slots_cons rfl (slots_cons rfl (slots_cons rfl (slots_cons rfl (slots_cons rfl (slots_cons rfl (slots_cons rfl slots_nil)))))))) (conts_cons rfl (le_ro rfl el_rfl) (conts_cons rfl (le_blk rfl) (conts_cons rfl (le_blk rfl) (conts_cons rfl (le_blk rfl) (conts_cons rfl (le_blk rfl) (conts_cons rfl (le_vec rfl el_rfl) (conts_cons rfl (le_vec rfl el_rfl) conts_nil))))))) (by kernel_rfl))⟩
      ·
        have h9p : (((numT n.pipes node i).length : Nat) : Int) ≤ ((k : Nat) : Int) := by first | (have := of_decide_eq_false h9; omega) | (have := h9; simp at this; first | exact this | omega)
        refine aw_exit (exit_then (exit_then (exit_in ?_)))
        have hnew : newN n.pipes node (ix n.pipes i).parent = (ix n.pipes i).parent := newN_none ht (by omega) (by assumption) (fun j hj => hno j (by omega))
        have v24 : (keptT n.pipes node i).length + 1 ≤ 1000000000000 := (by first | omega | rfl | assumption)
        have v25 : ((keptT n.pipes node i).length + 1) * 40 ≤ 140737488355328 := (by first | omega | rfl | assumption)
        have v26 : AppOk 5 ((keptT n.pipes node i).length) 1 (Lst eP (keptT n.pipes node i)) (exEl 5 [.i ((ix n.pipes i).parent), .i ((ix n.pipes i).length), .i ((ix n.pipes i).bore), .i ((ix n.pipes i).drop), .i ((ix n.pipes i).taps)]) ((keptT n.pipes node i).length + 1) (Lst eP ((keptT n.pipes node i) ++ [(⟨(ix n.pipes i).parent, (ix n.pipes i).length, (ix n.pipes i).bore, (ix n.pipes i).drop, (ix n.pipes i).taps⟩ : Pipe)])) := (app_one (by first | omega | rfl | assumption) (by first | omega | rfl | assumption) (fun | 0, _ => rfl | 1, _ => rfl | 2, _ => rfl | 3, _ => rfl | 4, _ => rfl | (n + 5), h => absurd h (by omega)))
        have v27 : (numT n.pipes node i).length + 1 ≤ 1000000000000 := (by first | omega | rfl | assumption)
        have v28 : ((numT n.pipes node i).length + 1) * 8 ≤ 140737488355328 := (by first | omega | rfl | assumption)
        have v29 : AppOk 1 ((numT n.pipes node i).length) 1 (Lst eI (numT n.pipes node i)) (exEl 1 [.i ((i : Nat) : Int)]) ((numT n.pipes node i).length + 1) (Lst eI ((numT n.pipes node i) ++ [((i : Nat) : Int)])) := (app_one (by first | omega | rfl | assumption) (by first | omega | rfl | assumption) (fun | 0, _ => rfl | (n + 1), h => absurd h (by omega)))
        refine aw_region [(3, .new 1049), (4, .lst 1050 ((keptT n.pipes node i).length + 1) (Lst eP ((keptT n.pipes node i) ++ [(⟨(ix n.pipes i).parent, (ix n.pipes i).length, (ix n.pipes i).bore, (ix n.pipes i).drop, (ix n.pipes i).taps⟩ : Pipe)]))), (7, .new 1053), (8, .lst 1054 ((numT n.pipes node i).length + 1) (Lst eI ((numT n.pipes node i) ++ [((i : Nat) : Int)])))] [1, 2, 4, 6, 7, 8] [1, 1002, 1004, 1006, 1050, 1054]
            ⟨58, [1], [(1, .i node), (2, .l (.ref 1002 0)), (4, .l (.ref 1004 0)), (6, .l (.ref 1006 0)), (7, .ls 1054), (8, .i ((i : Nat) : Int))], [(1, some (.ro 5 n.pipes.length (Lst eP n.pipes))), (1002, some (.blk 24 [.i n.pump, .ls 1])), (1004, some (.blk 24 [.i 0, .v (.slice none 0 0)])), (1006, some (.blk 24 [.i n.pump, .ls 1050])), (1050, some (.vec 54 5 ((keptT n.pipes node i).length + 1) (Lst eP ((keptT n.pipes node i) ++ [(⟨(ix n.pipes i).parent, (ix n.pipes i).length, (ix n.pipes i).bore, (ix n.pipes i).drop, (ix n.pipes i).taps⟩ : Pipe)])))), (1054, some (.vec 3 1 ((numT n.pipes node i).length + 1) (Lst eI ((numT n.pipes node i) ++ [((i : Nat) : Int)]))))]⟩
            [(keptT n.pipes node i).length + 1 ≤ 1000000000000, ((keptT n.pipes node i).length + 1) * 40 ≤ 140737488355328, AppOk 5 ((keptT n.pipes node i).length) 1 (Lst eP (keptT n.pipes node i)) (exEl 5 [.i ((ix n.pipes i).parent), .i ((ix n.pipes i).length), .i ((ix n.pipes i).bore), .i ((ix n.pipes i).drop), .i ((ix n.pipes i).taps)]) ((keptT n.pipes node i).length + 1) (Lst eP ((keptT n.pipes node i) ++ [(⟨(ix n.pipes i).parent, (ix n.pipes i).length, (ix n.pipes i).bore, (ix n.pipes i).drop, (ix n.pipes i).taps⟩ : Pipe)])), (numT n.pipes node i).length + 1 ≤ 1000000000000, ((numT n.pipes node i).length + 1) * 8 ≤ 140737488355328, AppOk 1 ((numT n.pipes node i).length) 1 (Lst eI (numT n.pipes node i)) (exEl 1 [.i ((i : Nat) : Int)]) ((numT n.pipes node i).length + 1) (Lst eI ((numT n.pipes node i) ++ [((i : Nat) : Int)]))] (by kernel_rfl) ⟨v24, v25, v26, v27, v28, v29⟩ ?_
        clear v24 v25 v26 v27 v28 v29
        have v30 : (((i : Nat) : Int) + 1) = (((i + 1) : Nat) : Int) := (by first | omega | rfl | assumption)
        have v31 : -9223372036854775808 ≤ (((i + 1) : Nat) : Int) ∧ (((i + 1) : Nat) : Int) < 9223372036854775808 := (by first | omega | rfl | assumption)
        refine aw_region [(1, .num (((i + 1) : Nat) : Int))] [1, 2, 4, 6, 7, 8] [1, 1002, 1004, 1006, 1050, 1054]
            ⟨58, [1], [(1, .i node), (2, .l (.ref 1002 0)), (4, .l (.ref 1004 0)), (6, .l (.ref 1006 0)), (7, .ls 1054), (8, .i (((i + 1) : Nat) : Int))], [(1, some (.ro 5 n.pipes.length (Lst eP n.pipes))), (1002, some (.blk 24 [.i n.pump, .ls 1])), (1004, some (.blk 24 [.i 0, .v (.slice none 0 0)])), (1006, some (.blk 24 [.i n.pump, .ls 1050])), (1050, some (.vec 54 5 ((keptT n.pipes node i).length + 1) (Lst eP ((keptT n.pipes node i) ++ [(⟨(ix n.pipes i).parent, (ix n.pipes i).length, (ix n.pipes i).bore, (ix n.pipes i).drop, (ix n.pipes i).taps⟩ : Pipe)])))), (1054, some (.vec 3 1 ((numT n.pipes node i).length + 1) (Lst eI ((numT n.pipes node i) ++ [((i : Nat) : Int)]))))]⟩
            [(((i : Nat) : Int) + 1) = (((i + 1) : Nat) : Int), -9223372036854775808 ≤ (((i + 1) : Nat) : Int) ∧ (((i + 1) : Nat) : Int) < 9223372036854775808] (by kernel_rfl) ⟨v30, v31⟩ ?_
        clear v30 v31
        exact ⟨i + 1, (by first | omega | rfl | assumption | (simp; done)), (show n.pipes.length - (i + 1) < n.pipes.length - i by first | omega | rfl | assumption),
            (Ent.ren [(9302, 1054), (9301, 1050)] rfl rfl (by kernel_rfl) (slots_cons rfl (slots_cons rfl (slots_cons rfl (slots_cons rfl (slots_cons rfl (slots_cons rfl slots_nil)))))) (conts_cons rfl (le_ro rfl el_rfl) (conts_cons rfl (le_blk rfl) (conts_cons rfl (le_blk rfl) (conts_cons rfl (le_blk rfl) (conts_cons rfl (le_vec (by first | rfl | omega | assumption | (rw [numT_keep _ _ (by assumption)]; done) | (rw [numT_skip _ _ (by assumption)]; done) | (rw [keptT_skip _ _ (by assumption)]; done) | (rw [keptT_keep _ _ (by assumption)]; unfold cutP; rw [hnew] <;> rfl) | (rw [keptT_keep _ _ (by assumption)]; simp; done) | (rw [numT_keep _ _ (by assumption)]; simp; done)) (lst_eq (by first | rfl | omega | assumption | (rw [numT_keep _ _ (by assumption)]; done) | (rw [numT_skip _ _ (by assumption)]; done) | (rw [keptT_skip _ _ (by assumption)]; done) | (rw [keptT_keep _ _ (by assumption)]; unfold cutP; rw [hnew] <;> rfl) | (rw [keptT_keep _ _ (by assumption)]; simp; done) | (rw [numT_keep _ _ (by assumption)]; simp; done)))) (conts_cons rfl (le_vec (by first | rfl | omega | assumption | (rw [numT_keep _ _ (by assumption)]; done) | (rw [numT_skip _ _ (by assumption)]; done) | (rw [keptT_skip _ _ (by assumption)]; done) | (rw [keptT_keep _ _ (by assumption)]; unfold cutP; rw [hnew] <;> rfl) | (rw [keptT_keep _ _ (by assumption)]; simp; done) | (rw [numT_keep _ _ (by assumption)]; simp; done)) (lst_eq (by first | rfl | omega | assumption | (rw [numT_keep _ _ (by assumption)]; done) | (rw [numT_skip _ _ (by assumption)]; done) | (rw [keptT_skip _ _ (by assumption)]; done) | (rw [keptT_keep _ _ (by assumption)]; unfold cutP; rw [hnew] <;> rfl) | (rw [keptT_keep _ _ (by assumption)]; simp; done) | (rw [numT_keep _ _ (by assumption)]; simp; done)))) conts_nil)))))) (by kernel_rfl))⟩
  ·
    have h1p : ((n.pipes.length : Nat) : Int) ≤ ((i : Nat) : Int) := by first | (have := of_decide_eq_false h1; omega) | (have := h1; simp at this; first | exact this | omega)
    refine aw_exit (exit_then (exit_then (exit_in ?_)))
    refine aw_seq ?_
    refine aw_region [] [4, 5] [1004, 9301, 9302]
        ⟨58, [1], [(4, .l (.ref 1004 0)), (5, .ls 9302)], [(1004, some (.blk 24 [.i n.pump, .ls 9301])), (9301, some (.vec 54 5 ((keptT n.pipes node i).length) (Lst eP (keptT n.pipes node i)))), (9302, some (.vec 3 1 ((numT n.pipes node i).length) (Lst eI (numT n.pipes node i))))]⟩
        [] (by kernel_rfl) trivial ?_
    exact aw_ret ⟨.inr rfl, end_ok ⟨58, [1], [(4, .l (.ref 8004 0)), (5, .ls 12)], [(11, some (.vec 54 5 ((keptT n.pipes node n.pipes.length).length) (Lst eP (keptT n.pipes node n.pipes.length)))), (12, some (.vec 3 1 ((numT n.pipes node n.pipes.length).length) (Lst eI (numT n.pipes node n.pipes.length)))), (8004, some (.blk 24 [.i n.pump, .ls 11]))]⟩
        (Ent.ren [(8004, 1004), (12, 9302), (11, 9301)] rfl rfl (by kernel_rfl) (slots_cons rfl (slots_cons rfl slots_nil)) (conts_cons rfl (le_vec (by first | rfl | omega | assumption | (rw [show i = n.pipes.length by omega])) (lst_eq (by first | rfl | omega | assumption | (rw [show i = n.pipes.length by omega])))) (conts_cons rfl (le_vec (by first | rfl | omega | assumption | (rw [show i = n.pipes.length by omega])) (lst_eq (by first | rfl | omega | assumption | (rw [show i = n.pipes.length by omega])))) (conts_cons rfl (le_blk rfl) conts_nil))) (by kernel_rfl)) rfl (by kernel_rfl) (wr_cons rfl (plain_Lst plain_eP) (wr_cons rfl (plain_Lst plain_eI) wr_nil)) (by kernel_rfl)⟩
end Go.Proofs.Ytepibjfmeibgcaa
