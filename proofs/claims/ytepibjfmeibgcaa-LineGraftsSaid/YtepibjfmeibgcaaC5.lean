/- Cut and Graft, walked. -/
import Derived.Test.YtepibjfmeibgcaaB7
import Derived.Test.YtepibjfmeibgcaaCt
import Derived.Test.YtepibjfmeibgcaaA26
import Derived.Test.YtepibjfmeibgcaaProg
namespace Go.Proofs.Ytepibjfmeibgcaa
open Go.RowKit
set_option linter.unusedVariables false
def Cut_badK1 (n : Net) : Cn := .ro 5 n.pipes.length (Lst eP n.pipes)
def Cut_badK2  : Cn := .blk 24 [.i 0, .v (.slice none 0 0)]
def Cut_badK3  : Cn := .blk 111 [.i 0, .v (.slice none 0 0)]
set_option maxHeartbeats 4000000 in
set_option maxRecDepth 100000 in
theorem Cut_bad (n : Net) (node : Int) (hn : n.pipes.length ≤ maxLen) (h0 : -9223372036854775808 ≤ node) (h1 : node < 9223372036854775808) (hbad : netB n = false) : CallFr Try.prog 49 [.agg [.i n.pump, .ls 1], .i node] [1] [some (.ro 5 n.pipes.length (Lst eP n.pipes))] (.tup [.agg [.i 0, .v (.slice none 0 0)], .one (.v (.slice none 0 0)), .one (.i 2)]) [] := by
 have hML : maxLen = 9223372036854775807 := rfl
 refine callFr_of (fn := Try.f49) (by kernel_rfl) rfl (by kernel_rfl) (by kernel_rfl) fun E => ?_
 refine aw_ent (T := ⟨70, [1], [(0, .agg [.i n.pump, .ls 1]), (1, .i node)], [(1, some (Cut_badK1 n))]⟩) (Ent.refl _) ?_
 refine aw_seq ?_
 refine aw_r [(0, .new 1002), (1, .new 1004)]
  ⟨70, [1], [(1, .i node), (2, .l (.ref 1002 0)), (4, .l (.ref 1004 0)), (5, .l (.v (.slice none 0 0)))], [(1, some (Cut_badK1 n)), (1002, some (.blk 24 [.i n.pump, .ls 1])), (1004, some Cut_badK2)]⟩
  [] (by kernel_rfl) trivial ?_
 refine aw_seq ?_
 refine aw_r [(2, .new 1015), (3, .call [1, 1015] (.tup [.agg [.i 0, .v (.slice none 0 0)], .one (.i 2)]) []), (7, .new 1007)]
  ⟨70, [1], [(1, .i node), (2, .l (.ref 1002 0)), (4, .l (.ref 1004 0)), (5, .l (.v (.slice none 0 0))), (6, .i 2), (7, .l (.ref 1007 0))], [(1, some (Cut_badK1 n)), (1002, some (.blk 24 [.i n.pump, .ls 1])), (1004, some Cut_badK2), (1007, some Cut_badK3)]⟩
  [CallOK Try.prog 69 [.agg [.i n.pump, .ls 1], .ls 1015] [1, 1015] [some (Cut_badK1 n), some (.vec 3 1 1 (exEl 1 [.i node]))] (.tup [.agg [.i 0, .v (.slice none 0 0)], .one (.i 2)]) []] (by kernel_rfl) (al1 (CallFr.to (open_bad_fr n node (by omega) hbad) [(1, 1), (2, 1015)] (by kernel_rfl) (by kernel_rfl) (by kernel_rfl) (by kernel_rfl) (by kernel_rfl) (dem_cons rfl (le_ro rfl el_rfl) (dem_cons rfl (le_vec_ro rfl (fun | 0, _ => (fun | 0, _ => rfl | 1, _ => rfl | 2, _ => rfl | 3, _ => rfl | 4, _ => rfl | (n+5), h => absurd h (by omega)) | (n+1), h => absurd h (by omega))) dem_nil)))) ?_
 refine aw_seq ?_
 refine aw_block ?_
 refine aw_seq ?_
 refine aw_r []
  ⟨70, [1], [(1, .i node), (2, .l (.ref 1002 0)), (4, .l (.ref 1004 0)), (5, .l (.v (.slice none 0 0))), (6, .i 2), (7, .l (.ref 1007 0)), (19, .b (decide ((2 : Int) ≠ (0 : Int))))], [(1, some (Cut_badK1 n)), (1002, some (.blk 24 [.i n.pump, .ls 1])), (1004, some Cut_badK2), (1007, some Cut_badK3)]⟩
  [] (by kernel_rfl) trivial ?_
 have h1 : (decide ((2 : Int) ≠ (0 : Int))) = true := by decide
 refine aw_cond (b := decide ((2 : Int) ≠ (0 : Int))) rfl (fun _ => ?_) (fun h => Bool.noConfusion (h1.symm.trans h))
 refine aw_seq ?_
 refine aw_r []
  ⟨70, [1], [(4, .l (.ref 1004 0)), (5, .l (.v (.slice none 0 0))), (6, .i 2)], [(1004, some Cut_badK2)]⟩
  [] (by kernel_rfl) trivial ?_
 exact aw_ret (ret_block (ret_then ⟨.inr rfl, end_ok ⟨70, [1], [(4, .l (.ref 8004 0)), (5, .l (.v (.slice none 0 0))), (6, .i 2)], [(8004, some Cut_badK2)]⟩
     (Ent.ren [(8004, 1004)] rfl rfl (by kernel_rfl) ⟨rfl, rfl, rfl, trivial⟩ (cbl rfl rfl trivial) (by kernel_rfl)) rfl (by kernel_rfl) wr_nil (by kernel_rfl)⟩))
def Cut_noneK1 (n : Net) : Cn := .ro 5 n.pipes.length (Lst eP n.pipes)
def Cut_noneK2  : Cn := .blk 24 [.i 0, .v (.slice none 0 0)]
def Cut_noneK3  : Cn := .blk 111 [.i 0, .v (.slice none 0 0)]
set_option maxHeartbeats 4000000 in
set_option maxRecDepth 100000 in
theorem Cut_none (n : Net) (node : Int) (hn : n.pipes.length ≤ maxLen) (h0 : -9223372036854775808 ≤ node) (h1 : node < 9223372036854775808) (hok : netB n = true) (hin : inB 0 ((n.pipes.length : Int) - 1) node = false) : CallFr Try.prog 49 [.agg [.i n.pump, .ls 1], .i node] [1] [some (.ro 5 n.pipes.length (Lst eP n.pipes))] (.tup [.agg [.i 0, .v (.slice none 0 0)], .one (.v (.slice none 0 0)), .one (.i 7)]) [] := by
 have hML : maxLen = 9223372036854775807 := rfl
 refine callFr_of (fn := Try.f49) (by kernel_rfl) rfl (by kernel_rfl) (by kernel_rfl) fun E => ?_
 refine aw_ent (T := ⟨70, [1], [(0, .agg [.i n.pump, .ls 1]), (1, .i node)], [(1, some (Cut_noneK1 n))]⟩) (Ent.refl _) ?_
 refine aw_seq ?_
 refine aw_r [(0, .new 1002), (1, .new 1004)]
  ⟨70, [1], [(1, .i node), (2, .l (.ref 1002 0)), (4, .l (.ref 1004 0)), (5, .l (.v (.slice none 0 0)))], [(1, some (Cut_noneK1 n)), (1002, some (.blk 24 [.i n.pump, .ls 1])), (1004, some Cut_noneK2)]⟩
  [] (by kernel_rfl) trivial ?_
 refine aw_seq ?_
 refine aw_r [(2, .new 1015), (3, .call [1, 1015] (.tup [.agg [.i 0, .v (.slice none 0 0)], .one (.i 7)]) []), (7, .new 1007)]
  ⟨70, [1], [(1, .i node), (2, .l (.ref 1002 0)), (4, .l (.ref 1004 0)), (5, .l (.v (.slice none 0 0))), (6, .i 7), (7, .l (.ref 1007 0))], [(1, some (Cut_noneK1 n)), (1002, some (.blk 24 [.i n.pump, .ls 1])), (1004, some Cut_noneK2), (1007, some Cut_noneK3)]⟩
  [CallOK Try.prog 69 [.agg [.i n.pump, .ls 1], .ls 1015] [1, 1015] [some (Cut_noneK1 n), some (.vec 3 1 1 (exEl 1 [.i node]))] (.tup [.agg [.i 0, .v (.slice none 0 0)], .one (.i 7)]) []] (by kernel_rfl) (al1 (CallFr.to (open_none_fr n node hok hin) [(1, 1), (2, 1015)] (by kernel_rfl) (by kernel_rfl) (by kernel_rfl) (by kernel_rfl) (by kernel_rfl) (dem_cons rfl (le_ro rfl el_rfl) (dem_cons rfl (le_vec_ro rfl (fun | 0, _ => (fun | 0, _ => rfl | 1, _ => rfl | 2, _ => rfl | 3, _ => rfl | 4, _ => rfl | (n+5), h => absurd h (by omega)) | (n+1), h => absurd h (by omega))) dem_nil)))) ?_
 refine aw_seq ?_
 refine aw_block ?_
 refine aw_seq ?_
 refine aw_r []
  ⟨70, [1], [(1, .i node), (2, .l (.ref 1002 0)), (4, .l (.ref 1004 0)), (5, .l (.v (.slice none 0 0))), (6, .i 7), (7, .l (.ref 1007 0)), (19, .b (decide ((7 : Int) ≠ (0 : Int))))], [(1, some (Cut_noneK1 n)), (1002, some (.blk 24 [.i n.pump, .ls 1])), (1004, some Cut_noneK2), (1007, some Cut_noneK3)]⟩
  [] (by kernel_rfl) trivial ?_
 have h1 : (decide ((7 : Int) ≠ (0 : Int))) = true := by decide
 refine aw_cond (b := decide ((7 : Int) ≠ (0 : Int))) rfl (fun _ => ?_) (fun h => Bool.noConfusion (h1.symm.trans h))
 refine aw_seq ?_
 refine aw_r []
  ⟨70, [1], [(4, .l (.ref 1004 0)), (5, .l (.v (.slice none 0 0))), (6, .i 7)], [(1004, some Cut_noneK2)]⟩
  [] (by kernel_rfl) trivial ?_
 exact aw_ret (ret_block (ret_then ⟨.inr rfl, end_ok ⟨70, [1], [(4, .l (.ref 8004 0)), (5, .l (.v (.slice none 0 0))), (6, .i 7)], [(8004, some Cut_noneK2)]⟩
     (Ent.ren [(8004, 1004)] rfl rfl (by kernel_rfl) ⟨rfl, rfl, rfl, trivial⟩ (cbl rfl rfl trivial) (by kernel_rfl)) rfl (by kernel_rfl) wr_nil (by kernel_rfl)⟩))
def Cut_zeroK1 (n : Net) : Cn := .ro 5 n.pipes.length (Lst eP n.pipes)
def Cut_zeroK2  : Cn := .blk 24 [.i 0, .v (.slice none 0 0)]
set_option maxHeartbeats 4000000 in
set_option maxRecDepth 100000 in
theorem Cut_zero (n : Net) (hn : n.pipes.length ≤ maxLen) (hok : netB n = true) : CallFr Try.prog 49 [.agg [.i n.pump, .ls 1], .i 0] [1] [some (.ro 5 n.pipes.length (Lst eP n.pipes))] (.tup [.agg [.i 0, .v (.slice none 0 0)], .one (.v (.slice none 0 0)), .one (.i 3)]) [] := by
 have hML : maxLen = 9223372036854775807 := rfl
 have hnl := netB_len hok
 have hin : inB 0 ((n.pipes.length : Int) - 1) 0 = true := inB_mk (by omega)
 refine callFr_of (fn := Try.f49) (by kernel_rfl) rfl (by kernel_rfl) (by kernel_rfl) fun E => ?_
 refine aw_ent (T := ⟨70, [1], [(0, .agg [.i n.pump, .ls 1]), (1, .i 0)], [(1, some (Cut_zeroK1 n))]⟩) (Ent.refl _) ?_
 refine aw_seq ?_
 refine aw_r [(0, .new 1002), (1, .new 1004)]
  ⟨70, [1], [(1, .i 0), (2, .l (.ref 1002 0)), (4, .l (.ref 1004 0)), (5, .l (.v (.slice none 0 0)))], [(1, some (Cut_zeroK1 n)), (1002, some (.blk 24 [.i n.pump, .ls 1])), (1004, some Cut_zeroK2)]⟩
  [] (by kernel_rfl) trivial ?_
 refine aw_seq ?_
 refine aw_r [(2, .new 1015), (3, .call [1, 1015] (.tup [.agg [.i n.pump, .ls 1], .one (.i 0)]) []), (7, .new 1007)]
  ⟨70, [1], [(1, .i 0), (2, .l (.ref 1002 0)), (4, .l (.ref 1004 0)), (5, .l (.v (.slice none 0 0))), (6, .i 0), (7, .l (.ref 1007 0))], [(1, some (Cut_zeroK1 n)), (1002, some (.blk 24 [.i n.pump, .ls 1])), (1004, some Cut_zeroK2), (1007, some (.blk 111 [.i n.pump, .ls 1]))]⟩
  [CallOK Try.prog 69 [.agg [.i n.pump, .ls 1], .ls 1015] [1, 1015] [some (Cut_zeroK1 n), some (.vec 3 1 1 (exEl 1 [.i 0]))] (.tup [.agg [.i n.pump, .ls 1], .one (.i 0)]) []] (by kernel_rfl) (al1 (CallFr.to (open_ok_fr n 0 hok hin) [(1, 1), (2, 1015)] (by kernel_rfl) (by kernel_rfl) (by kernel_rfl) (by kernel_rfl) (by kernel_rfl) (dem_cons rfl (le_ro rfl el_rfl) (dem_cons rfl (le_vec_ro rfl (fun | 0, _ => (fun | 0, _ => rfl | 1, _ => rfl | 2, _ => rfl | 3, _ => rfl | 4, _ => rfl | (n+5), h => absurd h (by omega)) | (n+1), h => absurd h (by omega))) dem_nil)))) ?_
 refine aw_seq ?_
 refine aw_block ?_
 refine aw_seq ?_
 refine aw_r []
  ⟨70, [1], [(1, .i 0), (2, .l (.ref 1002 0)), (4, .l (.ref 1004 0)), (5, .l (.v (.slice none 0 0))), (6, .i 0), (7, .l (.ref 1007 0)), (19, .b (decide ((0 : Int) ≠ (0 : Int))))], [(1, some (Cut_zeroK1 n)), (1002, some (.blk 24 [.i n.pump, .ls 1])), (1004, some Cut_zeroK2), (1007, some (.blk 111 [.i n.pump, .ls 1]))]⟩
  [] (by kernel_rfl) trivial ?_
 have h1 : (decide ((0 : Int) ≠ (0 : Int))) = false := by decide
 refine aw_cond (b := decide ((0 : Int) ≠ (0 : Int))) rfl (fun h => Bool.noConfusion (h1.symm.trans h)) (fun _ => ?_)
 refine aw_seq ?_
 refine aw_r []
  ⟨70, [1], [(1, .i 0), (2, .l (.ref 1002 0)), (4, .l (.ref 1004 0)), (5, .l (.v (.slice none 0 0))), (7, .l (.ref 1007 0)), (24, .b (decide ((0 : Int) = (0 : Int))))], [(1, some (Cut_zeroK1 n)), (1002, some (.blk 24 [.i n.pump, .ls 1])), (1004, some Cut_zeroK2), (1007, some (.blk 111 [.i n.pump, .ls 1]))]⟩
  [] (by kernel_rfl) trivial ?_
 have h2 : (decide ((0 : Int) = (0 : Int))) = true := by decide
 refine aw_cond (b := decide ((0 : Int) = (0 : Int))) rfl (fun _ => ?_) (fun h => Bool.noConfusion (h2.symm.trans h))
 refine aw_seq ?_
 refine aw_r []
  ⟨70, [1], [(4, .l (.ref 1004 0)), (5, .l (.v (.slice none 0 0))), (6, .i 3)], [(1004, some Cut_zeroK2)]⟩
  [] (by kernel_rfl) trivial ?_
 exact aw_ret (ret_block (ret_then ⟨.inr rfl, end_ok ⟨70, [1], [(4, .l (.ref 8004 0)), (5, .l (.v (.slice none 0 0))), (6, .i 3)], [(8004, some Cut_zeroK2)]⟩
     (Ent.ren [(8004, 1004)] rfl rfl (by kernel_rfl) ⟨rfl, rfl, rfl, trivial⟩ (cbl rfl rfl trivial) (by kernel_rfl)) rfl (by kernel_rfl) wr_nil (by kernel_rfl)⟩))
def Cut_okK1 (n : Net) : Cn := .ro 5 n.pipes.length (Lst eP n.pipes)
def Cut_okK2  : Cn := .blk 24 [.i 0, .v (.slice none 0 0)]
def Cut_okK3 (n : Net) : Cn := .blk 24 [.i n.pump, .v (.slice none 0 0)]
def Cut_okK4 (n : Net) (node : Int) : Cn := .ro 1 n.pipes.length (Lst eB (behL n.pipes node))
def Cut_okK5  : Cn := .mp (MapI Try.prog 3 0 (fun _ => none))
def Cut_okK6  : Cn := .mp (MapI Try.prog 3 (0 + 1) (putI (fun _ => none) (-1) (-1)))
def Cut_okK7 (k : Nat) (n : Net) (node : Int) : Cn := .mp (MapI Try.prog 3 (k + 1) (toF n.pipes node k))
def Cut_okK8 (n : Net) (node : Int) (k : Nat) : Cn := .vec 54 5 ((keptT n.pipes node k).length) (Lst eP (keptT n.pipes node k))
def Cut_okK9 (n : Net) (node : Int) (k : Nat) : Cn := .vec 3 1 ((numT n.pipes node k).length) (Lst eI (numT n.pipes node k))
def Cut_okK10 (n : Net) (k : Nat) : Cn := .blk 54 [.i ((ix n.pipes k).parent), .i ((ix n.pipes k).length), .i ((ix n.pipes k).bore), .i ((ix n.pipes k).drop), .i ((ix n.pipes k).taps)]
def Cut_okK11 (k : Nat) (n : Net) (node : Int) : Cn := .mp (MapI Try.prog 3 ((k + 1) + 1) (putI (toF n.pipes node k) ((k : Nat) : Int) (((numT n.pipes node k).length : Nat) : Int)))
def Cut_okK12 (n : Net) (node : Int) (k : Nat) : Cn := .blk 54 [.i (((putI (toF n.pipes node k) ((k : Nat) : Int) (((numT n.pipes node k).length : Nat) : Int)) ((ix n.pipes k).parent)).getD 0), .i ((ix n.pipes k).length), .i ((ix n.pipes k).bore), .i ((ix n.pipes k).drop), .i ((ix n.pipes k).taps)]
def Cut_okK13 (n : Net) (node : Int) (k : Nat) : Cn := .vec 54 5 ((keptT n.pipes node k).length + 1) (Lst eP ((keptT n.pipes node k) ++ [(⟨(((putI (toF n.pipes node k) ((k : Nat) : Int) (((numT n.pipes node k).length : Nat) : Int)) ((ix n.pipes k).parent)).getD 0), (ix n.pipes k).length, (ix n.pipes k).bore, (ix n.pipes k).drop, (ix n.pipes k).taps⟩ : Pipe)]))
def Cut_okK14 (n : Net) (node : Int) (k : Nat) : Cn := .vec 3 1 ((numT n.pipes node k).length + 1) (Lst eI ((numT n.pipes node k) ++ [((k : Nat) : Int)]))
def Cut_okK15 (n : Net) (node : Int) : Cn := .vec 54 5 ((keptT n.pipes node n.pipes.length).length) (Lst eP (keptT n.pipes node n.pipes.length))
def Cut_okK16 (n : Net) (node : Int) : Cn := .vec 3 1 ((numT n.pipes node n.pipes.length).length) (Lst eI (numT n.pipes node n.pipes.length))
set_option maxHeartbeats 4000000 in
set_option maxRecDepth 100000 in
theorem Cut_ok (n : Net) (node : Int) (hn : n.pipes.length ≤ maxLen) (h0 : -9223372036854775808 ≤ node) (h1 : node < 9223372036854775808) (hok : netB n = true) (hin : inB 0 ((n.pipes.length : Int) - 1) node = true) (hnz : node ≠ 0) : CallFr Try.prog 49 [.agg [.i n.pump, .ls 1], .i node] [1] [some (.ro 5 n.pipes.length (Lst eP n.pipes))] (.tup [.agg [.i n.pump, .ls 11], .one (.ls 12), .one (.i 0)]) [(11, some (.vec 54 5 ((keptT n.pipes node n.pipes.length).length) (Lst eP (keptT n.pipes node n.pipes.length)))), (12, some (.vec 3 1 ((numT n.pipes node n.pipes.length).length) (Lst eI (numT n.pipes node n.pipes.length))))] := by
 have hML : maxLen = 9223372036854775807 := rfl
 have hnl := netB_len hok
 have ht := netB_tree hok
 have hib := inB_true hin
 refine callFr_of (fn := Try.f49) (by kernel_rfl) rfl (by kernel_rfl) (by kernel_rfl) fun E => ?_
 refine aw_ent (T := ⟨70, [1], [(0, .agg [.i n.pump, .ls 1]), (1, .i node)], [(1, some (Cut_okK1 n))]⟩) (Ent.refl _) ?_
 refine aw_seq ?_
 refine aw_r [(0, .new 1002), (1, .new 1004)]
  ⟨70, [1], [(1, .i node), (2, .l (.ref 1002 0)), (4, .l (.ref 1004 0)), (5, .l (.v (.slice none 0 0)))], [(1, some (Cut_okK1 n)), (1002, some (.blk 24 [.i n.pump, .ls 1])), (1004, some Cut_okK2)]⟩
  [] (by kernel_rfl) trivial ?_
 refine aw_seq ?_
 refine aw_r [(2, .new 1015), (3, .call [1, 1015] (.tup [.agg [.i n.pump, .ls 1], .one (.i 0)]) []), (7, .new 1007)]
  ⟨70, [1], [(1, .i node), (2, .l (.ref 1002 0)), (4, .l (.ref 1004 0)), (5, .l (.v (.slice none 0 0))), (6, .i 0), (7, .l (.ref 1007 0))], [(1, some (Cut_okK1 n)), (1002, some (.blk 24 [.i n.pump, .ls 1])), (1004, some Cut_okK2), (1007, some (.blk 111 [.i n.pump, .ls 1]))]⟩
  [CallOK Try.prog 69 [.agg [.i n.pump, .ls 1], .ls 1015] [1, 1015] [some (Cut_okK1 n), some (.vec 3 1 1 (exEl 1 [.i node]))] (.tup [.agg [.i n.pump, .ls 1], .one (.i 0)]) []] (by kernel_rfl) (al1 (CallFr.to (open_ok_fr n node hok hin) [(1, 1), (2, 1015)] (by kernel_rfl) (by kernel_rfl) (by kernel_rfl) (by kernel_rfl) (by kernel_rfl) (dem_cons rfl (le_ro rfl el_rfl) (dem_cons rfl (le_vec_ro rfl (fun | 0, _ => (fun | 0, _ => rfl | 1, _ => rfl | 2, _ => rfl | 3, _ => rfl | 4, _ => rfl | (n+5), h => absurd h (by omega)) | (n+1), h => absurd h (by omega))) dem_nil)))) ?_
 refine aw_seq ?_
 refine aw_block ?_
 refine aw_seq ?_
 refine aw_r []
  ⟨70, [1], [(1, .i node), (2, .l (.ref 1002 0)), (4, .l (.ref 1004 0)), (5, .l (.v (.slice none 0 0))), (6, .i 0), (7, .l (.ref 1007 0)), (19, .b (decide ((0 : Int) ≠ (0 : Int))))], [(1, some (Cut_okK1 n)), (1002, some (.blk 24 [.i n.pump, .ls 1])), (1004, some Cut_okK2), (1007, some (.blk 111 [.i n.pump, .ls 1]))]⟩
  [] (by kernel_rfl) trivial ?_
 have h1 : (decide ((0 : Int) ≠ (0 : Int))) = false := by decide
 refine aw_cond (b := decide ((0 : Int) ≠ (0 : Int))) rfl (fun h => Bool.noConfusion (h1.symm.trans h)) (fun _ => ?_)
 refine aw_seq ?_
 refine aw_r []
  ⟨70, [1], [(1, .i node), (2, .l (.ref 1002 0)), (4, .l (.ref 1004 0)), (5, .l (.v (.slice none 0 0))), (7, .l (.ref 1007 0)), (24, .b (decide (node = 0)))], [(1, some (Cut_okK1 n)), (1002, some (.blk 24 [.i n.pump, .ls 1])), (1004, some Cut_okK2), (1007, some (.blk 111 [.i n.pump, .ls 1]))]⟩
  [] (by kernel_rfl) trivial ?_
 have h2 : (decide (node = 0)) = false := by simpa using hnz
 refine aw_cond (b := decide (node = 0)) rfl (fun h => Bool.noConfusion (h2.symm.trans h)) (fun _ => ?_)
 refine aw_skip ?_
 refine aw_seq ?_
 refine aw_r []
  ⟨70, [1], [(1, .i node), (2, .l (.ref 1002 0)), (4, .l (.ref 1004 0)), (5, .l (.v (.slice none 0 0))), (7, .l (.ref 1007 0))], [(1, some (Cut_okK1 n)), (1002, some (.blk 24 [.i n.pump, .ls 1])), (1004, some (Cut_okK3 n)), (1007, some (.blk 111 [.i n.pump, .ls 1]))]⟩
  [] (by kernel_rfl) trivial ?_
 refine aw_seq ?_
 refine aw_r [(2, .call [1] (.ls 10330) [(10330, some (Cut_okK4 n node))]), (3, .act [] (.ls 1034) [(1034, some Cut_okK5)]), (4, .act [1034] (.v undef) [(1034, some Cut_okK6)])]
  ⟨70, [1], [(2, .l (.ref 1002 0)), (4, .l (.ref 1004 0)), (5, .l (.v (.slice none 0 0))), (8, .ls 10330), (9, .ls 1034)], [(1, some (Cut_okK1 n)), (1002, some (.blk 24 [.i n.pump, .ls 1])), (1004, some (Cut_okK3 n)), (1034, some Cut_okK6), (10330, some (Cut_okK4 n node))]⟩
  [CallOK Try.prog 81 [.agg [.i n.pump, .ls 1], .i node] [1] [some (Cut_okK1 n)] (.ls 10330) [(10330, some (Cut_okK4 n node))], ActOK Try.prog (.makeMap 141 none) 141 [] [] [] (.ls 1034) [(1034, some Cut_okK5)], ActOK Try.prog (.insert 141 (.tmp 34) (.const (.int .i64 (-1))) (.const (.int .i64 (-1)))) 0 [.ls 1034, .i (-1), .i (-1)] [1034] [some (.mp (MapI Try.prog 3 0 (fun _ => none)))] (.v undef) [(1034, some Cut_okK6)]] (by kernel_rfl) (al2 (CallFr.to (behind_fr n node hok (by omega)) [(1, 1), (4, 10330)] (by kernel_rfl) (by kernel_rfl) (by kernel_rfl) (by kernel_rfl) (by kernel_rfl) (dem_cons rfl (le_ro rfl el_rfl) dem_nil)) (al2 act_makeI (al1 (act_putI (e := 3) (by kernel_rfl) (by kernel_rfl) (.inr rfl) (by first | omega | rfl | assumption) (by first | omega | rfl | assumption) (by first | omega | rfl | assumption))))) ?_
 refine aw_seq ?_
 refine aw_seq ?_
 refine aw_r []
  ⟨70, [1], [(4, .l (.ref 1004 0)), (5, .l (.v (.slice none 0 0))), (8, .ls 10330), (9, .ls 1034), (37, .ls 1), (38, .i ((n.pipes.length : Nat) : Int)), (39, .i 0)], [(1, some (Cut_okK1 n)), (1004, some (Cut_okK3 n)), (1034, some Cut_okK6), (10330, some (Cut_okK4 n node))]⟩
  [] (by kernel_rfl) trivial ?_
 refine aw_block ?_
 refine aw_loop (ι := Nat) (fun zz => ⟨70, [1], [(4, .l (.ref 1004 0)), (5, .ls 9102), (8, .ls 10330), (9, .ls 1034), (37, .ls 1), (38, .i ((n.pipes.length : Nat) : Int)), (39, .i ((zz : Nat) : Int))], [(1, some (Cut_okK1 n)), (1004, some (.blk 24 [.i n.pump, .ls 9101])), (1034, some (Cut_okK7 zz n node)), (9101, some (Cut_okK8 n node zz)), (9102, some (Cut_okK9 n node zz)), (10330, some (Cut_okK4 n node))]⟩) (fun zz => (zz ≤ n.pipes.length)) (fun zz => n.pipes.length - zz) 0 (by first | omega | rfl | assumption | (simp; done))
     (Ent.trans (Ent.nilSlot 5 70001 3 1 (Lst eI (numT n.pipes node 0)) rfl (by omega) (by kernel_rfl)) (Ent.trans (Ent.nilCell 1004 70002 54 5 24 [.i n.pump, .v (.slice none 0 0)] 1 (Lst eP (keptT n.pipes node 0)) rfl rfl (by omega) (by kernel_rfl) (by kernel_rfl)) (Ent.ren [(9102, 70001), (9101, 70002)] rfl rfl (by kernel_rfl) ⟨rfl, rfl, rfl, rfl, rfl, rfl, rfl, trivial⟩ (cro rfl (cbl rfl rfl (conts_cons rfl (le_mpI (by omega) (by intro x; first | rfl | omega | assumption | (exact toF_zero _ _ _))) (conts_cons rfl (le_vec (by first | rfl | omega | assumption | (exact toF_zero _ _ _)) el_rfl) (conts_cons rfl (le_vec (by first | rfl | omega | assumption | (exact toF_zero _ _ _)) el_rfl) (cro rfl trivial)))))) (by kernel_rfl)))) fun zz hp => ?_
 obtain ⟨k, rfl⟩ : ∃ x, x = zz := ⟨_, rfl⟩
 have hk := hp
 have hkl := keptT_len n.pipes node k
 have hnm := numT_len n.pipes node k
 show AW _ E _ _ ⟨70, [1], [(4, .l (.ref 1004 0)), (5, .ls 9102), (8, .ls 10330), (9, .ls 1034), (37, .ls 1), (38, .i ((n.pipes.length : Nat) : Int)), (39, .i ((k : Nat) : Int))], [(1, some (Cut_okK1 n)), (1004, some (.blk 24 [.i n.pump, .ls 9101])), (1034, some (Cut_okK7 k n node)), (9101, some (Cut_okK8 n node k)), (9102, some (Cut_okK9 n node k)), (10330, some (Cut_okK4 n node))]⟩
 refine aw_seq ?_
 refine aw_r []
  ⟨70, [1], [(4, .l (.ref 1004 0)), (5, .ls 9102), (8, .ls 10330), (9, .ls 1034), (37, .ls 1), (38, .i ((n.pipes.length : Nat) : Int)), (39, .i ((k : Nat) : Int)), (40, .b (decide (((k : Nat) : Int) < ((n.pipes.length : Nat) : Int))))], [(1, some (Cut_okK1 n)), (1004, some (.blk 24 [.i n.pump, .ls 9101])), (1034, some (Cut_okK7 k n node)), (9101, some (Cut_okK8 n node k)), (9102, some (Cut_okK9 n node k)), (10330, some (Cut_okK4 n node))]⟩
  [] (by kernel_rfl) trivial ?_
 refine aw_seq ?_
 refine aw_cond (b := decide (((k : Nat) : Int) < ((n.pipes.length : Nat) : Int))) rfl (fun h3 => ?_) (fun h3 => ?_)
 ·
  have h3p : ((k : Nat) : Int) < ((n.pipes.length : Nat) : Int) := dtr h3
  refine aw_skip ?_
  refine aw_seq ?_
  refine aw_block ?_
  refine aw_seq ?_
  refine aw_r [(1, .idx k), (3, .new 1011)]
   ⟨70, [1], [(4, .l (.ref 1004 0)), (5, .ls 9102), (8, .ls 10330), (9, .ls 1034), (10, .i ((k : Nat) : Int)), (11, .l (.ref 1011 0)), (37, .ls 1), (38, .i ((n.pipes.length : Nat) : Int)), (39, .i ((k : Nat) : Int))], [(1, some (Cut_okK1 n)), (1004, some (.blk 24 [.i n.pump, .ls 9101])), (1011, some (Cut_okK10 n k)), (1034, some (Cut_okK7 k n node)), (9101, some (Cut_okK8 n node k)), (9102, some (Cut_okK9 n node k)), (10330, some (Cut_okK4 n node))]⟩
   [((k : Nat) : Int) = ((k : Nat) : Int), k < n.pipes.length, k < n.pipes.length] (by kernel_rfl) (al2 (by omega) (al2 (by omega) (al1 (by omega)))) ?_
  refine aw_seq ?_
  refine aw_seq ?_
  have hon : ix (behL n.pipes node) k = onB n.pipes node (k : Int) := behL_way ht (by omega) (by omega)
  refine aw_r [(2, .idx k)]
   ⟨70, [1], [(4, .l (.ref 1004 0)), (5, .ls 9102), (8, .ls 10330), (9, .ls 1034), (10, .i ((k : Nat) : Int)), (11, .l (.ref 1011 0)), (37, .ls 1), (38, .i ((n.pipes.length : Nat) : Int)), (39, .i ((k : Nat) : Int)), (47, .b (ix (behL n.pipes node) k))], [(1, some (Cut_okK1 n)), (1004, some (.blk 24 [.i n.pump, .ls 9101])), (1011, some (Cut_okK10 n k)), (1034, some (Cut_okK7 k n node)), (9101, some (Cut_okK8 n node k)), (9102, some (Cut_okK9 n node k)), (10330, some (Cut_okK4 n node))]⟩
   [((k : Nat) : Int) = ((k : Nat) : Int), k < n.pipes.length, k < n.pipes.length] (by kernel_rfl) (al2 (by omega) (al2 (by omega) (al1 (by omega)))) ?_
  refine aw_cond (b := (ix (behL n.pipes node) k)) rfl (fun h4 => ?_) (fun h4 => ?_)
  ·
   refine aw_exit (exit_then (exit_in ?_))
   refine aw_r [(0, .num (((k + 1) : Nat) : Int))]
    ⟨70, [1], [(4, .l (.ref 1004 0)), (5, .ls 9102), (8, .ls 10330), (9, .ls 1034), (37, .ls 1), (38, .i ((n.pipes.length : Nat) : Int)), (39, .i (((k + 1) : Nat) : Int))], [(1, some (Cut_okK1 n)), (1004, some (.blk 24 [.i n.pump, .ls 9101])), (1034, some (Cut_okK7 k n node)), (9101, some (Cut_okK8 n node k)), (9102, some (Cut_okK9 n node k)), (10330, some (Cut_okK4 n node))]⟩
    [(((k : Nat) : Int) + 1) = (((k + 1) : Nat) : Int), -9223372036854775808 ≤ (((k + 1) : Nat) : Int) ∧ (((k + 1) : Nat) : Int) < 9223372036854775808] (by kernel_rfl) (al2 (by omega) (al1 (by omega))) ?_
   exact ⟨k + 1, (by first | omega | rfl | assumption | (simp; done)), (show n.pipes.length - (k + 1) < n.pipes.length - k by first | omega | rfl | assumption),
       (Ent.ren [] rfl rfl (by kernel_rfl) ⟨rfl, rfl, rfl, rfl, rfl, rfl, rfl, trivial⟩ (cro rfl (cbl rfl rfl (conts_cons rfl (le_mpI (by omega) (by intro x; first | rfl | omega | assumption | (exact toF_keep _ _ (by rw [← hon]; assumption) x) | (exact toF_skip _ _ (by rw [← hon]; assumption) x) | (rw [numT_keep _ _ (by rw [← hon]; assumption)]; done) | (rw [numT_skip _ _ (by rw [← hon]; assumption)]; done) | (rw [keptT_skip _ _ (by rw [← hon]; assumption)]; done) | (rw [keptT_keep _ _ (by rw [← hon]; assumption), hpar]; rfl) | (rw [keptT_keep _ _ (by rw [← hon]; assumption)]; simp; done) | (rw [numT_keep _ _ (by rw [← hon]; assumption)]; simp; done))) (conts_cons rfl (le_vec (by first | rfl | omega | assumption | (exact toF_keep _ _ (by rw [← hon]; assumption) x) | (exact toF_skip _ _ (by rw [← hon]; assumption) x) | (rw [numT_keep _ _ (by rw [← hon]; assumption)]; done) | (rw [numT_skip _ _ (by rw [← hon]; assumption)]; done) | (rw [keptT_skip _ _ (by rw [← hon]; assumption)]; done) | (rw [keptT_keep _ _ (by rw [← hon]; assumption), hpar]; rfl) | (rw [keptT_keep _ _ (by rw [← hon]; assumption)]; simp; done) | (rw [numT_keep _ _ (by rw [← hon]; assumption)]; simp; done)) (lst_eq (by first | rfl | omega | assumption | (exact toF_keep _ _ (by rw [← hon]; assumption) x) | (exact toF_skip _ _ (by rw [← hon]; assumption) x) | (rw [numT_keep _ _ (by rw [← hon]; assumption)]; done) | (rw [numT_skip _ _ (by rw [← hon]; assumption)]; done) | (rw [keptT_skip _ _ (by rw [← hon]; assumption)]; done) | (rw [keptT_keep _ _ (by rw [← hon]; assumption), hpar]; rfl) | (rw [keptT_keep _ _ (by rw [← hon]; assumption)]; simp; done) | (rw [numT_keep _ _ (by rw [← hon]; assumption)]; simp; done)))) (conts_cons rfl (le_vec (by first | rfl | omega | assumption | (exact toF_keep _ _ (by rw [← hon]; assumption) x) | (exact toF_skip _ _ (by rw [← hon]; assumption) x) | (rw [numT_keep _ _ (by rw [← hon]; assumption)]; done) | (rw [numT_skip _ _ (by rw [← hon]; assumption)]; done) | (rw [keptT_skip _ _ (by rw [← hon]; assumption)]; done) | (rw [keptT_keep _ _ (by rw [← hon]; assumption), hpar]; rfl) | (rw [keptT_keep _ _ (by rw [← hon]; assumption)]; simp; done) | (rw [numT_keep _ _ (by rw [← hon]; assumption)]; simp; done)) (lst_eq (by first | rfl | omega | assumption | (exact toF_keep _ _ (by rw [← hon]; assumption) x) | (exact toF_skip _ _ (by rw [← hon]; assumption) x) | (rw [numT_keep _ _ (by rw [← hon]; assumption)]; done) | (rw [numT_skip _ _ (by rw [← hon]; assumption)]; done) | (rw [keptT_skip _ _ (by rw [← hon]; assumption)]; done) | (rw [keptT_keep _ _ (by rw [← hon]; assumption), hpar]; rfl) | (rw [keptT_keep _ _ (by rw [← hon]; assumption)]; simp; done) | (rw [numT_keep _ _ (by rw [← hon]; assumption)]; simp; done)))) (cro rfl trivial)))))) (by kernel_rfl))⟩
  ·
   refine aw_skip ?_
   refine aw_seq ?_
   refine aw_r [(4, .act [1034] (.v undef) [(1034, some (Cut_okK11 k n node))])]
    ⟨70, [1], [(4, .l (.ref 1004 0)), (5, .ls 9102), (8, .ls 10330), (9, .ls 1034), (10, .i ((k : Nat) : Int)), (11, .l (.ref 1011 0)), (37, .ls 1), (38, .i ((n.pipes.length : Nat) : Int)), (39, .i ((k : Nat) : Int))], [(1, some (Cut_okK1 n)), (1004, some (.blk 24 [.i n.pump, .ls 9101])), (1011, some (Cut_okK10 n k)), (1034, some (Cut_okK11 k n node)), (9101, some (Cut_okK8 n node k)), (9102, some (Cut_okK9 n node k)), (10330, some (Cut_okK4 n node))]⟩
    [ActOK Try.prog (.mapUpdate 141 (.tmp 48) (.tmp 49) (.tmp 51)) 0 [.ls 1034, .i ((k : Nat) : Int), .i (((numT n.pipes node k).length : Nat) : Int)] [1034] [some (.mp (MapI Try.prog 3 (k + 1) (toF n.pipes node k)))] (.v undef) [(1034, some (Cut_okK11 k n node))]] (by kernel_rfl) (al1 (act_putI (e := 3) (by kernel_rfl) (by kernel_rfl) (.inl rfl) (by first | omega | rfl | assumption) (by first | omega | rfl | assumption) (by first | omega | rfl | assumption))) ?_
   refine aw_seq ?_
   have hof : onB n.pipes node (k : Int) = false := by rw [← hon]; assumption
   have hpar : ((putI (toF n.pipes node k) (k : Int) ((numT n.pipes node k).length : Int)) (ix n.pipes k).parent).getD 0 = newN n.pipes node (ix n.pipes k).parent := by rw [toF_keep _ _ hof]; exact toF_parent ht (by omega) hof
   have hpp := ht k (by omega)
   rw [← ix_par] at hpp
   refine aw_r [(3, .act [1034] (.i (((putI (toF n.pipes node k) ((k : Nat) : Int) (((numT n.pipes node k).length : Nat) : Int)) ((ix n.pipes k).parent)).getD 0)) [])]
    ⟨70, [1], [(4, .l (.ref 1004 0)), (5, .ls 9102), (8, .ls 10330), (9, .ls 1034), (10, .i ((k : Nat) : Int)), (11, .l (.ref 1011 0)), (37, .ls 1), (38, .i ((n.pipes.length : Nat) : Int)), (39, .i ((k : Nat) : Int))], [(1, some (Cut_okK1 n)), (1004, some (.blk 24 [.i n.pump, .ls 9101])), (1011, some (Cut_okK12 n node k)), (1034, some (Cut_okK11 k n node)), (9101, some (Cut_okK8 n node k)), (9102, some (Cut_okK9 n node k)), (10330, some (Cut_okK4 n node))]⟩
    [ActOK Try.prog (.lookup 141 (.tmp 52) (.tmp 54) false) 3 [.ls 1034, .i ((ix n.pipes k).parent)] [1034] [some (.mp (MapI Try.prog 3 ((k + 1) + 1) (putI (toF n.pipes node k) ((k : Nat) : Int) (((numT n.pipes node k).length : Nat) : Int))))] (.i (((putI (toF n.pipes node k) ((k : Nat) : Int) (((numT n.pipes node k).length : Nat) : Int)) ((ix n.pipes k).parent)).getD 0)) []] (by kernel_rfl) (al1 (act_lookI (e := 3) (by kernel_rfl) (by kernel_rfl) (fun _ => rfl) (by first | omega | rfl | assumption) (by first | omega | rfl | assumption) rfl)) ?_
   refine aw_r [(3, .new 1060), (4, .lst 1061 ((keptT n.pipes node k).length + 1) (Lst eP ((keptT n.pipes node k) ++ [(⟨(((putI (toF n.pipes node k) ((k : Nat) : Int) (((numT n.pipes node k).length : Nat) : Int)) ((ix n.pipes k).parent)).getD 0), (ix n.pipes k).length, (ix n.pipes k).bore, (ix n.pipes k).drop, (ix n.pipes k).taps⟩ : Pipe)]))), (7, .new 1064), (8, .lst 1065 ((numT n.pipes node k).length + 1) (Lst eI ((numT n.pipes node k) ++ [((k : Nat) : Int)])))]
    ⟨70, [1], [(4, .l (.ref 1004 0)), (5, .ls 1065), (8, .ls 10330), (9, .ls 1034), (37, .ls 1), (38, .i ((n.pipes.length : Nat) : Int)), (39, .i ((k : Nat) : Int))], [(1, some (Cut_okK1 n)), (1004, some (.blk 24 [.i n.pump, .ls 1061])), (1034, some (Cut_okK11 k n node)), (1061, some (Cut_okK13 n node k)), (1065, some (Cut_okK14 n node k)), (10330, some (Cut_okK4 n node))]⟩
    [(keptT n.pipes node k).length + 1 ≤ 1000000000000, ((keptT n.pipes node k).length + 1) * 40 ≤ 140737488355328, AppOk 5 ((keptT n.pipes node k).length) 1 (Lst eP (keptT n.pipes node k)) (exEl 5 [.i (((putI (toF n.pipes node k) ((k : Nat) : Int) (((numT n.pipes node k).length : Nat) : Int)) ((ix n.pipes k).parent)).getD 0), .i ((ix n.pipes k).length), .i ((ix n.pipes k).bore), .i ((ix n.pipes k).drop), .i ((ix n.pipes k).taps)]) ((keptT n.pipes node k).length + 1) (Lst eP ((keptT n.pipes node k) ++ [(⟨(((putI (toF n.pipes node k) ((k : Nat) : Int) (((numT n.pipes node k).length : Nat) : Int)) ((ix n.pipes k).parent)).getD 0), (ix n.pipes k).length, (ix n.pipes k).bore, (ix n.pipes k).drop, (ix n.pipes k).taps⟩ : Pipe)])), (numT n.pipes node k).length + 1 ≤ 1000000000000, ((numT n.pipes node k).length + 1) * 8 ≤ 140737488355328, AppOk 1 ((numT n.pipes node k).length) 1 (Lst eI (numT n.pipes node k)) (exEl 1 [.i ((k : Nat) : Int)]) ((numT n.pipes node k).length + 1) (Lst eI ((numT n.pipes node k) ++ [((k : Nat) : Int)]))] (by kernel_rfl) (al2 (by omega) (al2 (by omega) (al2 (app_one (by first | omega | rfl | assumption) (by first | omega | rfl | assumption) (fun | 0, _ => rfl | 1, _ => rfl | 2, _ => rfl | 3, _ => rfl | 4, _ => rfl | (n + 5), h => absurd h (by omega))) (al2 (by omega) (al2 (by omega) (al1 (app_one (by first | omega | rfl | assumption) (by first | omega | rfl | assumption) (fun | 0, _ => rfl | (n + 1), h => absurd h (by omega))))))))) ?_
   refine aw_r [(0, .num (((k + 1) : Nat) : Int))]
    ⟨70, [1], [(4, .l (.ref 1004 0)), (5, .ls 1065), (8, .ls 10330), (9, .ls 1034), (37, .ls 1), (38, .i ((n.pipes.length : Nat) : Int)), (39, .i (((k + 1) : Nat) : Int))], [(1, some (Cut_okK1 n)), (1004, some (.blk 24 [.i n.pump, .ls 1061])), (1034, some (Cut_okK11 k n node)), (1061, some (Cut_okK13 n node k)), (1065, some (Cut_okK14 n node k)), (10330, some (Cut_okK4 n node))]⟩
    [(((k : Nat) : Int) + 1) = (((k + 1) : Nat) : Int), -9223372036854775808 ≤ (((k + 1) : Nat) : Int) ∧ (((k + 1) : Nat) : Int) < 9223372036854775808] (by kernel_rfl) (al2 (by omega) (al1 (by omega))) ?_
   exact ⟨k + 1, (by first | omega | rfl | assumption | (simp; done)), (show n.pipes.length - (k + 1) < n.pipes.length - k by first | omega | rfl | assumption),
       (Ent.ren [(9102, 1065), (9101, 1061)] rfl rfl (by kernel_rfl) ⟨rfl, rfl, rfl, rfl, rfl, rfl, rfl, trivial⟩ (cro rfl (cbl rfl rfl (conts_cons rfl (le_mpI (by omega) (by intro x; first | rfl | omega | assumption | (exact toF_keep _ _ (by rw [← hon]; assumption) x) | (exact toF_skip _ _ (by rw [← hon]; assumption) x) | (rw [numT_keep _ _ (by rw [← hon]; assumption)]; done) | (rw [numT_skip _ _ (by rw [← hon]; assumption)]; done) | (rw [keptT_skip _ _ (by rw [← hon]; assumption)]; done) | (rw [keptT_keep _ _ (by rw [← hon]; assumption), hpar]; rfl) | (rw [keptT_keep _ _ (by rw [← hon]; assumption)]; simp; done) | (rw [numT_keep _ _ (by rw [← hon]; assumption)]; simp; done))) (conts_cons rfl (le_vec (by first | rfl | omega | assumption | (exact toF_keep _ _ (by rw [← hon]; assumption) x) | (exact toF_skip _ _ (by rw [← hon]; assumption) x) | (rw [numT_keep _ _ (by rw [← hon]; assumption)]; done) | (rw [numT_skip _ _ (by rw [← hon]; assumption)]; done) | (rw [keptT_skip _ _ (by rw [← hon]; assumption)]; done) | (rw [keptT_keep _ _ (by rw [← hon]; assumption), hpar]; rfl) | (rw [keptT_keep _ _ (by rw [← hon]; assumption)]; simp; done) | (rw [numT_keep _ _ (by rw [← hon]; assumption)]; simp; done)) (lst_eq (by first | rfl | omega | assumption | (exact toF_keep _ _ (by rw [← hon]; assumption) x) | (exact toF_skip _ _ (by rw [← hon]; assumption) x) | (rw [numT_keep _ _ (by rw [← hon]; assumption)]; done) | (rw [numT_skip _ _ (by rw [← hon]; assumption)]; done) | (rw [keptT_skip _ _ (by rw [← hon]; assumption)]; done) | (rw [keptT_keep _ _ (by rw [← hon]; assumption), hpar]; rfl) | (rw [keptT_keep _ _ (by rw [← hon]; assumption)]; simp; done) | (rw [numT_keep _ _ (by rw [← hon]; assumption)]; simp; done)))) (conts_cons rfl (le_vec (by first | rfl | omega | assumption | (exact toF_keep _ _ (by rw [← hon]; assumption) x) | (exact toF_skip _ _ (by rw [← hon]; assumption) x) | (rw [numT_keep _ _ (by rw [← hon]; assumption)]; done) | (rw [numT_skip _ _ (by rw [← hon]; assumption)]; done) | (rw [keptT_skip _ _ (by rw [← hon]; assumption)]; done) | (rw [keptT_keep _ _ (by rw [← hon]; assumption), hpar]; rfl) | (rw [keptT_keep _ _ (by rw [← hon]; assumption)]; simp; done) | (rw [numT_keep _ _ (by rw [← hon]; assumption)]; simp; done)) (lst_eq (by first | rfl | omega | assumption | (exact toF_keep _ _ (by rw [← hon]; assumption) x) | (exact toF_skip _ _ (by rw [← hon]; assumption) x) | (rw [numT_keep _ _ (by rw [← hon]; assumption)]; done) | (rw [numT_skip _ _ (by rw [← hon]; assumption)]; done) | (rw [keptT_skip _ _ (by rw [← hon]; assumption)]; done) | (rw [keptT_keep _ _ (by rw [← hon]; assumption), hpar]; rfl) | (rw [keptT_keep _ _ (by rw [← hon]; assumption)]; simp; done) | (rw [numT_keep _ _ (by rw [← hon]; assumption)]; simp; done)))) (cro rfl trivial)))))) (by kernel_rfl))⟩
 ·
  have h3p : ((n.pipes.length : Nat) : Int) ≤ ((k : Nat) : Int) := dlt h3
  refine aw_exit (exit_then (exit_then (exit_in ?_)))
  refine aw_seq ?_
  refine aw_r []
   ⟨70, [1], [(4, .l (.ref 1004 0)), (5, .ls 9102), (6, .i 0)], [(1004, some (.blk 24 [.i n.pump, .ls 9101])), (9101, some (Cut_okK8 n node k)), (9102, some (Cut_okK9 n node k))]⟩
   [] (by kernel_rfl) trivial ?_
  exact aw_ret ⟨.inr rfl, end_ok ⟨70, [1], [(4, .l (.ref 8004 0)), (5, .ls 12), (6, .i 0)], [(11, some (Cut_okK15 n node)), (12, some (Cut_okK16 n node)), (8004, some (.blk 24 [.i n.pump, .ls 11]))]⟩
      (Ent.ren [(8004, 1004), (12, 9102), (11, 9101)] rfl rfl (by kernel_rfl) ⟨rfl, rfl, rfl, trivial⟩ (conts_cons rfl (le_vec (by first | rfl | omega | assumption | (rw [show k = n.pipes.length by omega])) (lst_eq (by first | rfl | omega | assumption | (rw [show k = n.pipes.length by omega])))) (conts_cons rfl (le_vec (by first | rfl | omega | assumption | (rw [show k = n.pipes.length by omega])) (lst_eq (by first | rfl | omega | assumption | (rw [show k = n.pipes.length by omega])))) (cbl rfl rfl trivial))) (by kernel_rfl)) rfl (by kernel_rfl) (wr_cons rfl (plain_Lst plain_eP) (wr_cons rfl (plain_Lst plain_eI) wr_nil)) (by kernel_rfl)⟩
end Go.Proofs.Ytepibjfmeibgcaa
namespace Go.Proofs.Ytepibjfmeibgcaa
open Go.RowKit
set_option linter.unusedVariables false
/-- A pipe of other tubing, behind so many nodes. -/
def graftP (L : Nat) (node : Int) (q : Pipe) : Pipe := { q with parent := if q.parent = 0 then node else q.parent + ((L : Int) - 1) }
def graftT (ps qs : List Pipe) (node : Int) (k : Nat) : List Pipe := ps ++ ((qs.drop 1).take k).map (graftP ps.length node)
theorem graftT_zero (ps qs : List Pipe) (node : Int) : graftT ps qs node 0 = ps := by simp [graftT]
theorem graftT_len (ps qs : List Pipe) (node : Int) {k : Nat} (h : k ≤ qs.length - 1) : (graftT ps qs node k).length = ps.length + k := by
  unfold graftT; rw [List.length_append, List.length_map, List.length_take, List.length_drop]; omega
theorem graftT_succ (ps qs : List Pipe) (node : Int) {k : Nat} (h : 1 + k < qs.length) : graftT ps qs node (k + 1) = graftT ps qs node k ++ [graftP ps.length node (ix qs (1 + k))] := by
  unfold graftT
  rw [List.take_succ_eq_append_getElem (by rw [List.length_drop]; omega), List.map_append, ← List.append_assoc, List.getElem_drop, ix_eq h]; rfl
theorem graftP_zero (L : Nat) (node : Int) {q : Pipe} (h : q.parent = 0) : graftP L node q = { q with parent := node } := by unfold graftP; rw [if_pos h]
theorem graftP_pos (L : Nat) (node : Int) {q : Pipe} (h : q.parent ≠ 0) : graftP L node q = { q with parent := q.parent + ((L : Int) - 1) } := by unfold graftP; rw [if_neg h]
set_option maxRecDepth 100000 in
theorem clone_fr (l : List Pipe) (h0 : 0 < l.length) (h1 : l.length ≤ 1000000) : CallFr Try.prog 83 [.ls 1] [1] [some (.ro 5 l.length (Lst eP l))] (.ls 2) [(2, some (.vec 54 5 l.length (Lst eP l)))] := by
 refine callFr_of (fn := Try.f83) (by kernel_rfl) rfl (by kernel_rfl) (by kernel_rfl) fun E => ?_
 refine aw_ent (T := ⟨8, [1], [(0, .ls 1)], [(1, some (.ro 5 l.length (Lst eP l)))]⟩) (Ent.refl _) ?_
 refine aw_seq ?_
 refine aw_r []
  ⟨8, [1], [(0, .ls 1)], [(1, some (.ro 5 l.length (Lst eP l)))]⟩
  [] (by kernel_rfl) trivial ?_
 refine aw_seq ?_
 refine aw_seq ?_
 refine aw_r [(1, .act [1] (.b false) [])]
  ⟨8, [1], [(0, .ls 1), (4, .b false)], [(1, some (.ro 5 l.length (Lst eP l)))]⟩
  [ActOK Try.prog (.binOp .eql 22 (.tmp 3) (.const (.slice none 0 0)) 22) 4 [.ls 1, .v (.slice none 0 0)] [1] [some (.ro 5 l.length (Lst eP l))] (.b false) []] (by kernel_rfl) (al1 (act_nonil (u := 54) (by kernel_rfl) (by first | omega | rfl | assumption))) ?_
 refine aw_false rfl ?_
 refine aw_skip ?_
 refine aw_seq ?_
 refine aw_r [(0, .new 1005), (2, .lst 1007 l.length (Lst eP l))]
  ⟨8, [1], [(2, .ls 1007)], [(1007, some (.vec 54 5 l.length (Lst eP l)))]⟩
  [0 + l.length ≤ 1000000000000, (0 + l.length) * 40 ≤ 140737488355328, AppOk 5 0 l.length (exEl 5 []) (Lst eP l) l.length (Lst eP l)] (by kernel_rfl) (al2 (by omega) (al2 (by omega) (al1 (app_nil (by first | omega | rfl | assumption))))) ?_
 exact aw_ret ⟨.inr rfl, end_ok ⟨8, [1], [(2, .ls 2)], [(2, some (.vec 54 5 l.length (Lst eP l)))]⟩
     (Ent.ren [(2, 1007)] rfl rfl (by kernel_rfl) ⟨rfl, trivial⟩ (cve rfl trivial) (by kernel_rfl)) rfl (by kernel_rfl) (wr_cons rfl (plain_Lst plain_eP) wr_nil) (by kernel_rfl)⟩
def Graft_badK1 (n : Net) : Cn := .ro 5 n.pipes.length (Lst eP n.pipes)
def Graft_badK2 (o : Net) : Cn := .ro 5 o.pipes.length (Lst eP o.pipes)
def Graft_badK3  : Cn := .blk 24 [.i 0, .v (.slice none 0 0)]
set_option maxHeartbeats 4000000 in
set_option maxRecDepth 100000 in
theorem Graft_bad (n o : Net) (node : Int) (hn : n.pipes.length ≤ maxLen) (ho : o.pipes.length ≤ maxLen) (h0 : -9223372036854775808 ≤ node) (h1 : node < 9223372036854775808) (hbad : netB n = false) : CallFr Try.prog 50 [.agg [.i n.pump, .ls 1], .i node, .agg [.i o.pump, .ls 2]] [1, 2] [some (.ro 5 n.pipes.length (Lst eP n.pipes)), some (.ro 5 o.pipes.length (Lst eP o.pipes))] (.tup [.agg [.i 0, .v (.slice none 0 0)], .one (.i 2)]) [] := by
 have hML : maxLen = 9223372036854775807 := rfl
 refine callFr_of (fn := Try.f50) (by kernel_rfl) rfl (by kernel_rfl) (by kernel_rfl) fun E => ?_
 refine aw_ent (T := ⟨81, [1, 2], [(0, .agg [.i n.pump, .ls 1]), (1, .i node), (2, .agg [.i o.pump, .ls 2])], [(1, some (Graft_badK1 n)), (2, some (Graft_badK2 o))]⟩) (Ent.refl _) ?_
 refine aw_seq ?_
 refine aw_r [(0, .new 1003), (1, .new 1005), (2, .new 1006)]
  ⟨81, [1, 2], [(1, .i node), (3, .l (.ref 1003 0)), (5, .l (.ref 1005 0)), (6, .l (.ref 1006 0))], [(1, some (Graft_badK1 n)), (2, some (Graft_badK2 o)), (1003, some (.blk 24 [.i n.pump, .ls 1])), (1005, some (.blk 24 [.i o.pump, .ls 2])), (1006, some Graft_badK3)]⟩
  [] (by kernel_rfl) trivial ?_
 refine aw_seq ?_
 refine aw_seq ?_
 refine aw_r [(1, .call [1] (.i (chk n)) [])]
  ⟨81, [1, 2], [(1, .i node), (3, .l (.ref 1003 0)), (5, .l (.ref 1005 0)), (6, .l (.ref 1006 0)), (8, .i (chk n))], [(1, some (Graft_badK1 n)), (2, some (Graft_badK2 o)), (1003, some (.blk 24 [.i n.pump, .ls 1])), (1005, some (.blk 24 [.i o.pump, .ls 2])), (1006, some Graft_badK3)]⟩
  [CallOK Try.prog 43 [.agg [.i n.pump, .ls 1]] [1] [some (Graft_badK1 n)] (.i (chk n)) []] (by kernel_rfl) (al1 (CallFr.to (check_fr n (by omega)) [(1, 1)] (by kernel_rfl) (by kernel_rfl) (by kernel_rfl) (by kernel_rfl) (by kernel_rfl) (dem_cons rfl (le_ro rfl el_rfl) dem_nil))) ?_
 refine aw_seq ?_
 refine aw_r []
  ⟨81, [1, 2], [(1, .i node), (3, .l (.ref 1003 0)), (5, .l (.ref 1005 0)), (6, .l (.ref 1006 0)), (8, .i (chk n)), (16, .b (decide (chk n ≠ 0)))], [(1, some (Graft_badK1 n)), (2, some (Graft_badK2 o)), (1003, some (.blk 24 [.i n.pump, .ls 1])), (1005, some (.blk 24 [.i o.pump, .ls 2])), (1006, some Graft_badK3)]⟩
  [] (by kernel_rfl) trivial ?_
 have h1 : (decide (chk n ≠ 0)) = true := by rw [chk_bad hbad]; rfl
 refine aw_cond (b := decide (chk n ≠ 0)) rfl (fun _ => ?_) (fun h => Bool.noConfusion (h1.symm.trans h))
 refine aw_seq ?_
 refine aw_r []
  ⟨81, [1, 2], [(6, .l (.ref 1006 0)), (7, .i (chk n))], [(1006, some Graft_badK3)]⟩
  [] (by kernel_rfl) trivial ?_
 exact aw_ret (ret_then ⟨.inr rfl, end_ok ⟨81, [1, 2], [(6, .l (.ref 8006 0)), (7, .i 2)], [(8006, some Graft_badK3)]⟩
     (Ent.ren [(8006, 1006)] rfl rfl (by kernel_rfl) ⟨rfl, (slot_i rfl (by first | rfl | omega | assumption | (exact chk_bad hbad))), trivial⟩ (cbl rfl rfl trivial) (by kernel_rfl)) rfl (by kernel_rfl) wr_nil (by kernel_rfl)⟩)
def Graft_bad2K1 (n : Net) : Cn := .ro 5 n.pipes.length (Lst eP n.pipes)
def Graft_bad2K2 (o : Net) : Cn := .ro 5 o.pipes.length (Lst eP o.pipes)
def Graft_bad2K3  : Cn := .blk 24 [.i 0, .v (.slice none 0 0)]
set_option maxHeartbeats 4000000 in
set_option maxRecDepth 100000 in
theorem Graft_bad2 (n o : Net) (node : Int) (hn : n.pipes.length ≤ maxLen) (ho : o.pipes.length ≤ maxLen) (h0 : -9223372036854775808 ≤ node) (h1 : node < 9223372036854775808) (hok : netB n = true) (hbad : netB o = false) : CallFr Try.prog 50 [.agg [.i n.pump, .ls 1], .i node, .agg [.i o.pump, .ls 2]] [1, 2] [some (.ro 5 n.pipes.length (Lst eP n.pipes)), some (.ro 5 o.pipes.length (Lst eP o.pipes))] (.tup [.agg [.i 0, .v (.slice none 0 0)], .one (.i 2)]) [] := by
 have hML : maxLen = 9223372036854775807 := rfl
 refine callFr_of (fn := Try.f50) (by kernel_rfl) rfl (by kernel_rfl) (by kernel_rfl) fun E => ?_
 refine aw_ent (T := ⟨81, [1, 2], [(0, .agg [.i n.pump, .ls 1]), (1, .i node), (2, .agg [.i o.pump, .ls 2])], [(1, some (Graft_bad2K1 n)), (2, some (Graft_bad2K2 o))]⟩) (Ent.refl _) ?_
 refine aw_seq ?_
 refine aw_r [(0, .new 1003), (1, .new 1005), (2, .new 1006)]
  ⟨81, [1, 2], [(1, .i node), (3, .l (.ref 1003 0)), (5, .l (.ref 1005 0)), (6, .l (.ref 1006 0))], [(1, some (Graft_bad2K1 n)), (2, some (Graft_bad2K2 o)), (1003, some (.blk 24 [.i n.pump, .ls 1])), (1005, some (.blk 24 [.i o.pump, .ls 2])), (1006, some Graft_bad2K3)]⟩
  [] (by kernel_rfl) trivial ?_
 refine aw_seq ?_
 refine aw_seq ?_
 refine aw_r [(1, .call [1] (.i (chk n)) [])]
  ⟨81, [1, 2], [(1, .i node), (3, .l (.ref 1003 0)), (5, .l (.ref 1005 0)), (6, .l (.ref 1006 0)), (8, .i (chk n))], [(1, some (Graft_bad2K1 n)), (2, some (Graft_bad2K2 o)), (1003, some (.blk 24 [.i n.pump, .ls 1])), (1005, some (.blk 24 [.i o.pump, .ls 2])), (1006, some Graft_bad2K3)]⟩
  [CallOK Try.prog 43 [.agg [.i n.pump, .ls 1]] [1] [some (Graft_bad2K1 n)] (.i (chk n)) []] (by kernel_rfl) (al1 (CallFr.to (check_fr n (by omega)) [(1, 1)] (by kernel_rfl) (by kernel_rfl) (by kernel_rfl) (by kernel_rfl) (by kernel_rfl) (dem_cons rfl (le_ro rfl el_rfl) dem_nil))) ?_
 refine aw_seq ?_
 refine aw_r []
  ⟨81, [1, 2], [(1, .i node), (3, .l (.ref 1003 0)), (5, .l (.ref 1005 0)), (6, .l (.ref 1006 0)), (8, .i (chk n)), (16, .b (decide (chk n ≠ 0)))], [(1, some (Graft_bad2K1 n)), (2, some (Graft_bad2K2 o)), (1003, some (.blk 24 [.i n.pump, .ls 1])), (1005, some (.blk 24 [.i o.pump, .ls 2])), (1006, some Graft_bad2K3)]⟩
  [] (by kernel_rfl) trivial ?_
 have h1 : (decide (chk n ≠ 0)) = false := by rw [chk_ok hok]; rfl
 refine aw_cond (b := decide (chk n ≠ 0)) rfl (fun h => Bool.noConfusion (h1.symm.trans h)) (fun _ => ?_)
 refine aw_skip ?_
 refine aw_seq ?_
 refine aw_seq ?_
 refine aw_r [(1, .call [2] (.i (chk o)) [])]
  ⟨81, [1, 2], [(1, .i node), (3, .l (.ref 1003 0)), (5, .l (.ref 1005 0)), (6, .l (.ref 1006 0)), (9, .i (chk o))], [(1, some (Graft_bad2K1 n)), (2, some (Graft_bad2K2 o)), (1003, some (.blk 24 [.i n.pump, .ls 1])), (1005, some (.blk 24 [.i o.pump, .ls 2])), (1006, some Graft_bad2K3)]⟩
  [CallOK Try.prog 43 [.agg [.i o.pump, .ls 2]] [2] [some (Graft_bad2K2 o)] (.i (chk o)) []] (by kernel_rfl) (al1 (CallFr.to (check_fr o (by omega)) [(1, 2)] (by kernel_rfl) (by kernel_rfl) (by kernel_rfl) (by kernel_rfl) (by kernel_rfl) (dem_cons rfl (le_ro rfl el_rfl) dem_nil))) ?_
 refine aw_seq ?_
 refine aw_r []
  ⟨81, [1, 2], [(1, .i node), (3, .l (.ref 1003 0)), (5, .l (.ref 1005 0)), (6, .l (.ref 1006 0)), (9, .i (chk o)), (22, .b (decide (chk o ≠ 0)))], [(1, some (Graft_bad2K1 n)), (2, some (Graft_bad2K2 o)), (1003, some (.blk 24 [.i n.pump, .ls 1])), (1005, some (.blk 24 [.i o.pump, .ls 2])), (1006, some Graft_bad2K3)]⟩
  [] (by kernel_rfl) trivial ?_
 have h2 : (decide (chk o ≠ 0)) = true := by rw [chk_bad hbad]; rfl
 refine aw_cond (b := decide (chk o ≠ 0)) rfl (fun _ => ?_) (fun h => Bool.noConfusion (h2.symm.trans h))
 refine aw_seq ?_
 refine aw_r []
  ⟨81, [1, 2], [(6, .l (.ref 1006 0)), (7, .i (chk o))], [(1006, some Graft_bad2K3)]⟩
  [] (by kernel_rfl) trivial ?_
 exact aw_ret (ret_then ⟨.inr rfl, end_ok ⟨81, [1, 2], [(6, .l (.ref 8006 0)), (7, .i 2)], [(8006, some Graft_bad2K3)]⟩
     (Ent.ren [(8006, 1006)] rfl rfl (by kernel_rfl) ⟨rfl, (slot_i rfl (by first | rfl | omega | assumption | (exact chk_bad hbad))), trivial⟩ (cbl rfl rfl trivial) (by kernel_rfl)) rfl (by kernel_rfl) wr_nil (by kernel_rfl)⟩)
def Graft_noneK1 (n : Net) : Cn := .ro 5 n.pipes.length (Lst eP n.pipes)
def Graft_noneK2 (o : Net) : Cn := .ro 5 o.pipes.length (Lst eP o.pipes)
def Graft_noneK3  : Cn := .blk 24 [.i 0, .v (.slice none 0 0)]
set_option maxHeartbeats 4000000 in
set_option maxRecDepth 100000 in
theorem Graft_none (n o : Net) (node : Int) (hn : n.pipes.length ≤ maxLen) (ho : o.pipes.length ≤ maxLen) (h0 : -9223372036854775808 ≤ node) (h1 : node < 9223372036854775808) (hok : netB n = true) (hob : netB o = true) (hin : inB 0 (((n.pipes.length : Nat) : Int) - 1) node = false) : CallFr Try.prog 50 [.agg [.i n.pump, .ls 1], .i node, .agg [.i o.pump, .ls 2]] [1, 2] [some (.ro 5 n.pipes.length (Lst eP n.pipes)), some (.ro 5 o.pipes.length (Lst eP o.pipes))] (.tup [.agg [.i 0, .v (.slice none 0 0)], .one (.i 7)]) [] := by
 have hML : maxLen = 9223372036854775807 := rfl
 have hnl := netB_len hok
 have hol := netB_len hob
 refine callFr_of (fn := Try.f50) (by kernel_rfl) rfl (by kernel_rfl) (by kernel_rfl) fun E => ?_
 refine aw_ent (T := ⟨81, [1, 2], [(0, .agg [.i n.pump, .ls 1]), (1, .i node), (2, .agg [.i o.pump, .ls 2])], [(1, some (Graft_noneK1 n)), (2, some (Graft_noneK2 o))]⟩) (Ent.refl _) ?_
 refine aw_seq ?_
 refine aw_r [(0, .new 1003), (1, .new 1005), (2, .new 1006)]
  ⟨81, [1, 2], [(1, .i node), (3, .l (.ref 1003 0)), (5, .l (.ref 1005 0)), (6, .l (.ref 1006 0))], [(1, some (Graft_noneK1 n)), (2, some (Graft_noneK2 o)), (1003, some (.blk 24 [.i n.pump, .ls 1])), (1005, some (.blk 24 [.i o.pump, .ls 2])), (1006, some Graft_noneK3)]⟩
  [] (by kernel_rfl) trivial ?_
 refine aw_seq ?_
 refine aw_seq ?_
 refine aw_r [(1, .call [1] (.i (chk n)) [])]
  ⟨81, [1, 2], [(1, .i node), (3, .l (.ref 1003 0)), (5, .l (.ref 1005 0)), (6, .l (.ref 1006 0)), (8, .i (chk n))], [(1, some (Graft_noneK1 n)), (2, some (Graft_noneK2 o)), (1003, some (.blk 24 [.i n.pump, .ls 1])), (1005, some (.blk 24 [.i o.pump, .ls 2])), (1006, some Graft_noneK3)]⟩
  [CallOK Try.prog 43 [.agg [.i n.pump, .ls 1]] [1] [some (Graft_noneK1 n)] (.i (chk n)) []] (by kernel_rfl) (al1 (CallFr.to (check_fr n (by omega)) [(1, 1)] (by kernel_rfl) (by kernel_rfl) (by kernel_rfl) (by kernel_rfl) (by kernel_rfl) (dem_cons rfl (le_ro rfl el_rfl) dem_nil))) ?_
 refine aw_seq ?_
 refine aw_r []
  ⟨81, [1, 2], [(1, .i node), (3, .l (.ref 1003 0)), (5, .l (.ref 1005 0)), (6, .l (.ref 1006 0)), (8, .i (chk n)), (16, .b (decide (chk n ≠ 0)))], [(1, some (Graft_noneK1 n)), (2, some (Graft_noneK2 o)), (1003, some (.blk 24 [.i n.pump, .ls 1])), (1005, some (.blk 24 [.i o.pump, .ls 2])), (1006, some Graft_noneK3)]⟩
  [] (by kernel_rfl) trivial ?_
 have h1 : (decide (chk n ≠ 0)) = false := by rw [chk_ok hok]; rfl
 refine aw_cond (b := decide (chk n ≠ 0)) rfl (fun h => Bool.noConfusion (h1.symm.trans h)) (fun _ => ?_)
 refine aw_skip ?_
 refine aw_seq ?_
 refine aw_seq ?_
 refine aw_r [(1, .call [2] (.i (chk o)) [])]
  ⟨81, [1, 2], [(1, .i node), (3, .l (.ref 1003 0)), (5, .l (.ref 1005 0)), (6, .l (.ref 1006 0)), (9, .i (chk o))], [(1, some (Graft_noneK1 n)), (2, some (Graft_noneK2 o)), (1003, some (.blk 24 [.i n.pump, .ls 1])), (1005, some (.blk 24 [.i o.pump, .ls 2])), (1006, some Graft_noneK3)]⟩
  [CallOK Try.prog 43 [.agg [.i o.pump, .ls 2]] [2] [some (Graft_noneK2 o)] (.i (chk o)) []] (by kernel_rfl) (al1 (CallFr.to (check_fr o (by omega)) [(1, 2)] (by kernel_rfl) (by kernel_rfl) (by kernel_rfl) (by kernel_rfl) (by kernel_rfl) (dem_cons rfl (le_ro rfl el_rfl) dem_nil))) ?_
 refine aw_seq ?_
 refine aw_r []
  ⟨81, [1, 2], [(1, .i node), (3, .l (.ref 1003 0)), (5, .l (.ref 1005 0)), (6, .l (.ref 1006 0)), (9, .i (chk o)), (22, .b (decide (chk o ≠ 0)))], [(1, some (Graft_noneK1 n)), (2, some (Graft_noneK2 o)), (1003, some (.blk 24 [.i n.pump, .ls 1])), (1005, some (.blk 24 [.i o.pump, .ls 2])), (1006, some Graft_noneK3)]⟩
  [] (by kernel_rfl) trivial ?_
 have h2 : (decide (chk o ≠ 0)) = false := by rw [chk_ok hob]; rfl
 refine aw_cond (b := decide (chk o ≠ 0)) rfl (fun h => Bool.noConfusion (h2.symm.trans h)) (fun _ => ?_)
 refine aw_skip ?_
 refine aw_seq ?_
 refine aw_block ?_
 refine aw_seq ?_
 refine aw_r [(5, .new 1031), (6, .call [1031] (.b (inB 0 (((n.pipes.length : Nat) : Int) - 1) node)) [])]
  ⟨81, [1, 2], [(1, .i node), (3, .l (.ref 1003 0)), (5, .l (.ref 1005 0)), (6, .l (.ref 1006 0)), (25, .b (!(inB 0 (((n.pipes.length : Nat) : Int) - 1) node)))], [(1, some (Graft_noneK1 n)), (2, some (Graft_noneK2 o)), (1003, some (.blk 24 [.i n.pump, .ls 1])), (1005, some (.blk 24 [.i o.pump, .ls 2])), (1006, some Graft_noneK3)]⟩
  [-9223372036854775808 ≤ (((n.pipes.length : Nat) : Int) - 1) ∧ (((n.pipes.length : Nat) : Int) - 1) < 9223372036854775808, CallOK Try.prog 61 [.i 0, .i (((n.pipes.length : Nat) : Int) - 1), .ls 1031] [1031] [some (.vec 3 1 1 (exEl 1 [.i node]))] (.b (inB 0 (((n.pipes.length : Nat) : Int) - 1) node)) []] (by kernel_rfl) (al2 (by omega) (al1 (CallFr.to (within_fr 0 (((n.pipes.length : Nat) : Int) - 1) node) [(1, 1031)] (by kernel_rfl) (by kernel_rfl) (by kernel_rfl) (by kernel_rfl) (by kernel_rfl) (dem_cons rfl (le_vec_ro rfl (fun | 0, _ => (fun | 0, _ => rfl | 1, _ => rfl | 2, _ => rfl | 3, _ => rfl | 4, _ => rfl | (n+5), h => absurd h (by omega)) | (n+1), h => absurd h (by omega))) dem_nil)))) ?_
 have h3 : (!(inB 0 (((n.pipes.length : Nat) : Int) - 1) node)) = true := by rw [hin] <;> rfl
 refine aw_cond (b := (!(inB 0 (((n.pipes.length : Nat) : Int) - 1) node))) rfl (fun _ => ?_) (fun h => Bool.noConfusion (h3.symm.trans h))
 refine aw_seq ?_
 refine aw_r []
  ⟨81, [1, 2], [(6, .l (.ref 1006 0)), (7, .i 7)], [(1006, some Graft_noneK3)]⟩
  [] (by kernel_rfl) trivial ?_
 exact aw_ret (ret_block (ret_then ⟨.inr rfl, end_ok ⟨81, [1, 2], [(6, .l (.ref 8006 0)), (7, .i 7)], [(8006, some Graft_noneK3)]⟩
     (Ent.ren [(8006, 1006)] rfl rfl (by kernel_rfl) ⟨rfl, rfl, trivial⟩ (cbl rfl rfl trivial) (by kernel_rfl)) rfl (by kernel_rfl) wr_nil (by kernel_rfl)⟩))
def Graft_fullK1 (n : Net) : Cn := .ro 5 n.pipes.length (Lst eP n.pipes)
def Graft_fullK2 (o : Net) : Cn := .ro 5 o.pipes.length (Lst eP o.pipes)
def Graft_fullK3  : Cn := .blk 24 [.i 0, .v (.slice none 0 0)]
set_option maxHeartbeats 4000000 in
set_option maxRecDepth 100000 in
theorem Graft_full (n o : Net) (node : Int) (hn : n.pipes.length ≤ maxLen) (ho : o.pipes.length ≤ maxLen) (h0 : -9223372036854775808 ≤ node) (h1 : node < 9223372036854775808) (hok : netB n = true) (hob : netB o = true) (hin : inB 0 (((n.pipes.length : Nat) : Int) - 1) node = true) (hfu : decide (60 < (((n.pipes.length + o.pipes.length : Nat) : Int) - 1)) = true) : CallFr Try.prog 50 [.agg [.i n.pump, .ls 1], .i node, .agg [.i o.pump, .ls 2]] [1, 2] [some (.ro 5 n.pipes.length (Lst eP n.pipes)), some (.ro 5 o.pipes.length (Lst eP o.pipes))] (.tup [.agg [.i 0, .v (.slice none 0 0)], .one (.i 8)]) [] := by
 have hML : maxLen = 9223372036854775807 := rfl
 have hnl := netB_len hok
 have hol := netB_len hob
 refine callFr_of (fn := Try.f50) (by kernel_rfl) rfl (by kernel_rfl) (by kernel_rfl) fun E => ?_
 refine aw_ent (T := ⟨81, [1, 2], [(0, .agg [.i n.pump, .ls 1]), (1, .i node), (2, .agg [.i o.pump, .ls 2])], [(1, some (Graft_fullK1 n)), (2, some (Graft_fullK2 o))]⟩) (Ent.refl _) ?_
 refine aw_seq ?_
 refine aw_r [(0, .new 1003), (1, .new 1005), (2, .new 1006)]
  ⟨81, [1, 2], [(1, .i node), (3, .l (.ref 1003 0)), (5, .l (.ref 1005 0)), (6, .l (.ref 1006 0))], [(1, some (Graft_fullK1 n)), (2, some (Graft_fullK2 o)), (1003, some (.blk 24 [.i n.pump, .ls 1])), (1005, some (.blk 24 [.i o.pump, .ls 2])), (1006, some Graft_fullK3)]⟩
  [] (by kernel_rfl) trivial ?_
 refine aw_seq ?_
 refine aw_seq ?_
 refine aw_r [(1, .call [1] (.i (chk n)) [])]
  ⟨81, [1, 2], [(1, .i node), (3, .l (.ref 1003 0)), (5, .l (.ref 1005 0)), (6, .l (.ref 1006 0)), (8, .i (chk n))], [(1, some (Graft_fullK1 n)), (2, some (Graft_fullK2 o)), (1003, some (.blk 24 [.i n.pump, .ls 1])), (1005, some (.blk 24 [.i o.pump, .ls 2])), (1006, some Graft_fullK3)]⟩
  [CallOK Try.prog 43 [.agg [.i n.pump, .ls 1]] [1] [some (Graft_fullK1 n)] (.i (chk n)) []] (by kernel_rfl) (al1 (CallFr.to (check_fr n (by omega)) [(1, 1)] (by kernel_rfl) (by kernel_rfl) (by kernel_rfl) (by kernel_rfl) (by kernel_rfl) (dem_cons rfl (le_ro rfl el_rfl) dem_nil))) ?_
 refine aw_seq ?_
 refine aw_r []
  ⟨81, [1, 2], [(1, .i node), (3, .l (.ref 1003 0)), (5, .l (.ref 1005 0)), (6, .l (.ref 1006 0)), (8, .i (chk n)), (16, .b (decide (chk n ≠ 0)))], [(1, some (Graft_fullK1 n)), (2, some (Graft_fullK2 o)), (1003, some (.blk 24 [.i n.pump, .ls 1])), (1005, some (.blk 24 [.i o.pump, .ls 2])), (1006, some Graft_fullK3)]⟩
  [] (by kernel_rfl) trivial ?_
 have h1 : (decide (chk n ≠ 0)) = false := by rw [chk_ok hok]; rfl
 refine aw_cond (b := decide (chk n ≠ 0)) rfl (fun h => Bool.noConfusion (h1.symm.trans h)) (fun _ => ?_)
 refine aw_skip ?_
 refine aw_seq ?_
 refine aw_seq ?_
 refine aw_r [(1, .call [2] (.i (chk o)) [])]
  ⟨81, [1, 2], [(1, .i node), (3, .l (.ref 1003 0)), (5, .l (.ref 1005 0)), (6, .l (.ref 1006 0)), (9, .i (chk o))], [(1, some (Graft_fullK1 n)), (2, some (Graft_fullK2 o)), (1003, some (.blk 24 [.i n.pump, .ls 1])), (1005, some (.blk 24 [.i o.pump, .ls 2])), (1006, some Graft_fullK3)]⟩
  [CallOK Try.prog 43 [.agg [.i o.pump, .ls 2]] [2] [some (Graft_fullK2 o)] (.i (chk o)) []] (by kernel_rfl) (al1 (CallFr.to (check_fr o (by omega)) [(1, 2)] (by kernel_rfl) (by kernel_rfl) (by kernel_rfl) (by kernel_rfl) (by kernel_rfl) (dem_cons rfl (le_ro rfl el_rfl) dem_nil))) ?_
 refine aw_seq ?_
 refine aw_r []
  ⟨81, [1, 2], [(1, .i node), (3, .l (.ref 1003 0)), (5, .l (.ref 1005 0)), (6, .l (.ref 1006 0)), (9, .i (chk o)), (22, .b (decide (chk o ≠ 0)))], [(1, some (Graft_fullK1 n)), (2, some (Graft_fullK2 o)), (1003, some (.blk 24 [.i n.pump, .ls 1])), (1005, some (.blk 24 [.i o.pump, .ls 2])), (1006, some Graft_fullK3)]⟩
  [] (by kernel_rfl) trivial ?_
 have h2 : (decide (chk o ≠ 0)) = false := by rw [chk_ok hob]; rfl
 refine aw_cond (b := decide (chk o ≠ 0)) rfl (fun h => Bool.noConfusion (h2.symm.trans h)) (fun _ => ?_)
 refine aw_skip ?_
 refine aw_seq ?_
 refine aw_block ?_
 refine aw_seq ?_
 refine aw_r [(5, .new 1031), (6, .call [1031] (.b (inB 0 (((n.pipes.length : Nat) : Int) - 1) node)) [])]
  ⟨81, [1, 2], [(1, .i node), (3, .l (.ref 1003 0)), (5, .l (.ref 1005 0)), (6, .l (.ref 1006 0)), (25, .b (!(inB 0 (((n.pipes.length : Nat) : Int) - 1) node)))], [(1, some (Graft_fullK1 n)), (2, some (Graft_fullK2 o)), (1003, some (.blk 24 [.i n.pump, .ls 1])), (1005, some (.blk 24 [.i o.pump, .ls 2])), (1006, some Graft_fullK3)]⟩
  [-9223372036854775808 ≤ (((n.pipes.length : Nat) : Int) - 1) ∧ (((n.pipes.length : Nat) : Int) - 1) < 9223372036854775808, CallOK Try.prog 61 [.i 0, .i (((n.pipes.length : Nat) : Int) - 1), .ls 1031] [1031] [some (.vec 3 1 1 (exEl 1 [.i node]))] (.b (inB 0 (((n.pipes.length : Nat) : Int) - 1) node)) []] (by kernel_rfl) (al2 (by omega) (al1 (CallFr.to (within_fr 0 (((n.pipes.length : Nat) : Int) - 1) node) [(1, 1031)] (by kernel_rfl) (by kernel_rfl) (by kernel_rfl) (by kernel_rfl) (by kernel_rfl) (dem_cons rfl (le_vec_ro rfl (fun | 0, _ => (fun | 0, _ => rfl | 1, _ => rfl | 2, _ => rfl | 3, _ => rfl | 4, _ => rfl | (n+5), h => absurd h (by omega)) | (n+1), h => absurd h (by omega))) dem_nil)))) ?_
 have h3 : (!(inB 0 (((n.pipes.length : Nat) : Int) - 1) node)) = false := by rw [hin] <;> rfl
 refine aw_cond (b := (!(inB 0 (((n.pipes.length : Nat) : Int) - 1) node))) rfl (fun h => Bool.noConfusion (h3.symm.trans h)) (fun _ => ?_)
 refine aw_seq ?_
 refine aw_r [(6, .num (((n.pipes.length + o.pipes.length) : Nat) : Int))]
  ⟨81, [1, 2], [(1, .i node), (3, .l (.ref 1003 0)), (5, .l (.ref 1005 0)), (6, .l (.ref 1006 0)), (35, .b (decide (60 < ((((n.pipes.length + o.pipes.length) : Nat) : Int) - 1))))], [(1, some (Graft_fullK1 n)), (2, some (Graft_fullK2 o)), (1003, some (.blk 24 [.i n.pump, .ls 1])), (1005, some (.blk 24 [.i o.pump, .ls 2])), (1006, some Graft_fullK3)]⟩
  [(((n.pipes.length : Nat) : Int) + ((o.pipes.length : Nat) : Int)) = (((n.pipes.length + o.pipes.length) : Nat) : Int), -9223372036854775808 ≤ (((n.pipes.length + o.pipes.length) : Nat) : Int) ∧ (((n.pipes.length + o.pipes.length) : Nat) : Int) < 9223372036854775808, -9223372036854775808 ≤ ((((n.pipes.length + o.pipes.length) : Nat) : Int) - 1) ∧ ((((n.pipes.length + o.pipes.length) : Nat) : Int) - 1) < 9223372036854775808] (by kernel_rfl) (al2 (by omega) (al2 (by omega) (al1 (by omega)))) ?_
 refine aw_cond (b := decide (60 < ((((n.pipes.length + o.pipes.length) : Nat) : Int) - 1))) rfl (fun _ => ?_) (fun h => Bool.noConfusion (hfu.symm.trans h))
 refine aw_seq ?_
 refine aw_r []
  ⟨81, [1, 2], [(6, .l (.ref 1006 0)), (7, .i 8)], [(1006, some Graft_fullK3)]⟩
  [] (by kernel_rfl) trivial ?_
 exact aw_ret (ret_block (ret_then ⟨.inr rfl, end_ok ⟨81, [1, 2], [(6, .l (.ref 8006 0)), (7, .i 8)], [(8006, some Graft_fullK3)]⟩
     (Ent.ren [(8006, 1006)] rfl rfl (by kernel_rfl) ⟨rfl, rfl, trivial⟩ (cbl rfl rfl trivial) (by kernel_rfl)) rfl (by kernel_rfl) wr_nil (by kernel_rfl)⟩))
def Graft_okK1 (n : Net) : Cn := .ro 5 n.pipes.length (Lst eP n.pipes)
def Graft_okK2 (o : Net) : Cn := .ro 5 o.pipes.length (Lst eP o.pipes)
def Graft_okK3  : Cn := .blk 24 [.i 0, .v (.slice none 0 0)]
def Graft_okK4 (n : Net) : Cn := .vec 54 5 ((n.pipes).length) (Lst eP n.pipes)
def Graft_okK5 (o : Net) : Cn := .ro 5 (o.pipes.length - 1) (fun i j => (Lst eP o.pipes) (1 + i) j)
def Graft_okK6 (n : Net) (k : Nat) (o : Net) (node : Int) : Cn := .vec 54 5 (n.pipes.length + k) (Lst eP (graftT n.pipes o.pipes node k))
def Graft_okK7 (o : Net) (k : Nat) : Cn := .blk 54 [.i ((ix o.pipes (1 + k)).parent), .i ((ix o.pipes (1 + k)).length), .i ((ix o.pipes (1 + k)).bore), .i ((ix o.pipes (1 + k)).drop), .i ((ix o.pipes (1 + k)).taps)]
def Graft_okK8 (o : Net) (k : Nat) (n : Net) : Cn := .blk 54 [.i ((ix o.pipes (1 + k)).parent + ((((n.pipes).length : Nat) : Int) - 1)), .i ((ix o.pipes (1 + k)).length), .i ((ix o.pipes (1 + k)).bore), .i ((ix o.pipes (1 + k)).drop), .i ((ix o.pipes (1 + k)).taps)]
def Graft_okK9 (node : Int) (o : Net) (k : Nat) : Cn := .blk 54 [.i node, .i ((ix o.pipes (1 + k)).length), .i ((ix o.pipes (1 + k)).bore), .i ((ix o.pipes (1 + k)).drop), .i ((ix o.pipes (1 + k)).taps)]
def Graft_okK10 (n : Net) (k : Nat) (o : Net) (node : Int) : Cn := .vec 54 5 ((n.pipes.length + k) + 1) (Lst eP ((graftT n.pipes o.pipes node k) ++ [(⟨node, (ix o.pipes (1 + k)).length, (ix o.pipes (1 + k)).bore, (ix o.pipes (1 + k)).drop, (ix o.pipes (1 + k)).taps⟩ : Pipe)]))
def Graft_okK11 (n : Net) (k : Nat) (o : Net) (node : Int) : Cn := .vec 54 5 ((n.pipes.length + k) + 1) (Lst eP ((graftT n.pipes o.pipes node k) ++ [(⟨((ix o.pipes (1 + k)).parent + ((((n.pipes).length : Nat) : Int) - 1)), (ix o.pipes (1 + k)).length, (ix o.pipes (1 + k)).bore, (ix o.pipes (1 + k)).drop, (ix o.pipes (1 + k)).taps⟩ : Pipe)]))
def Graft_okK12 (n : Net) (o : Net) (node : Int) : Cn := .vec 54 5 (n.pipes.length + (o.pipes.length - 1)) (Lst eP (graftT n.pipes o.pipes node (o.pipes.length - 1)))
set_option maxHeartbeats 4000000 in
set_option maxRecDepth 100000 in
theorem Graft_ok (n o : Net) (node : Int) (hn : n.pipes.length ≤ maxLen) (ho : o.pipes.length ≤ maxLen) (h0 : -9223372036854775808 ≤ node) (h1 : node < 9223372036854775808) (hok : netB n = true) (hob : netB o = true) (hin : inB 0 (((n.pipes.length : Nat) : Int) - 1) node = true) (hfu : decide (60 < (((n.pipes.length + o.pipes.length : Nat) : Int) - 1)) = false) : CallFr Try.prog 50 [.agg [.i n.pump, .ls 1], .i node, .agg [.i o.pump, .ls 2]] [1, 2] [some (.ro 5 n.pipes.length (Lst eP n.pipes)), some (.ro 5 o.pipes.length (Lst eP o.pipes))] (.tup [.agg [.i n.pump, .ls 11], .one (.i 0)]) [(11, some (.vec 54 5 (n.pipes.length + (o.pipes.length - 1)) (Lst eP (graftT n.pipes o.pipes node (o.pipes.length - 1)))))] := by
 have hML : maxLen = 9223372036854775807 := rfl
 have hnl := netB_len hok
 have hol := netB_len hob
 have hib := inB_true hin
 have hot := netB_tree hob
 refine callFr_of (fn := Try.f50) (by kernel_rfl) rfl (by kernel_rfl) (by kernel_rfl) fun E => ?_
 refine aw_ent (T := ⟨81, [1, 2], [(0, .agg [.i n.pump, .ls 1]), (1, .i node), (2, .agg [.i o.pump, .ls 2])], [(1, some (Graft_okK1 n)), (2, some (Graft_okK2 o))]⟩) (Ent.refl _) ?_
 refine aw_seq ?_
 refine aw_r [(0, .new 1003), (1, .new 1005), (2, .new 1006)]
  ⟨81, [1, 2], [(1, .i node), (3, .l (.ref 1003 0)), (5, .l (.ref 1005 0)), (6, .l (.ref 1006 0))], [(1, some (Graft_okK1 n)), (2, some (Graft_okK2 o)), (1003, some (.blk 24 [.i n.pump, .ls 1])), (1005, some (.blk 24 [.i o.pump, .ls 2])), (1006, some Graft_okK3)]⟩
  [] (by kernel_rfl) trivial ?_
 refine aw_seq ?_
 refine aw_seq ?_
 refine aw_r [(1, .call [1] (.i (chk n)) [])]
  ⟨81, [1, 2], [(1, .i node), (3, .l (.ref 1003 0)), (5, .l (.ref 1005 0)), (6, .l (.ref 1006 0)), (8, .i (chk n))], [(1, some (Graft_okK1 n)), (2, some (Graft_okK2 o)), (1003, some (.blk 24 [.i n.pump, .ls 1])), (1005, some (.blk 24 [.i o.pump, .ls 2])), (1006, some Graft_okK3)]⟩
  [CallOK Try.prog 43 [.agg [.i n.pump, .ls 1]] [1] [some (Graft_okK1 n)] (.i (chk n)) []] (by kernel_rfl) (al1 (CallFr.to (check_fr n (by omega)) [(1, 1)] (by kernel_rfl) (by kernel_rfl) (by kernel_rfl) (by kernel_rfl) (by kernel_rfl) (dem_cons rfl (le_ro rfl el_rfl) dem_nil))) ?_
 refine aw_seq ?_
 refine aw_r []
  ⟨81, [1, 2], [(1, .i node), (3, .l (.ref 1003 0)), (5, .l (.ref 1005 0)), (6, .l (.ref 1006 0)), (8, .i (chk n)), (16, .b (decide (chk n ≠ 0)))], [(1, some (Graft_okK1 n)), (2, some (Graft_okK2 o)), (1003, some (.blk 24 [.i n.pump, .ls 1])), (1005, some (.blk 24 [.i o.pump, .ls 2])), (1006, some Graft_okK3)]⟩
  [] (by kernel_rfl) trivial ?_
 have h1 : (decide (chk n ≠ 0)) = false := by rw [chk_ok hok]; rfl
 refine aw_cond (b := decide (chk n ≠ 0)) rfl (fun h => Bool.noConfusion (h1.symm.trans h)) (fun _ => ?_)
 refine aw_skip ?_
 refine aw_seq ?_
 refine aw_seq ?_
 refine aw_r [(1, .call [2] (.i (chk o)) [])]
  ⟨81, [1, 2], [(1, .i node), (3, .l (.ref 1003 0)), (5, .l (.ref 1005 0)), (6, .l (.ref 1006 0)), (9, .i (chk o))], [(1, some (Graft_okK1 n)), (2, some (Graft_okK2 o)), (1003, some (.blk 24 [.i n.pump, .ls 1])), (1005, some (.blk 24 [.i o.pump, .ls 2])), (1006, some Graft_okK3)]⟩
  [CallOK Try.prog 43 [.agg [.i o.pump, .ls 2]] [2] [some (Graft_okK2 o)] (.i (chk o)) []] (by kernel_rfl) (al1 (CallFr.to (check_fr o (by omega)) [(1, 2)] (by kernel_rfl) (by kernel_rfl) (by kernel_rfl) (by kernel_rfl) (by kernel_rfl) (dem_cons rfl (le_ro rfl el_rfl) dem_nil))) ?_
 refine aw_seq ?_
 refine aw_r []
  ⟨81, [1, 2], [(1, .i node), (3, .l (.ref 1003 0)), (5, .l (.ref 1005 0)), (6, .l (.ref 1006 0)), (9, .i (chk o)), (22, .b (decide (chk o ≠ 0)))], [(1, some (Graft_okK1 n)), (2, some (Graft_okK2 o)), (1003, some (.blk 24 [.i n.pump, .ls 1])), (1005, some (.blk 24 [.i o.pump, .ls 2])), (1006, some Graft_okK3)]⟩
  [] (by kernel_rfl) trivial ?_
 have h2 : (decide (chk o ≠ 0)) = false := by rw [chk_ok hob]; rfl
 refine aw_cond (b := decide (chk o ≠ 0)) rfl (fun h => Bool.noConfusion (h2.symm.trans h)) (fun _ => ?_)
 refine aw_skip ?_
 refine aw_seq ?_
 refine aw_block ?_
 refine aw_seq ?_
 refine aw_r [(5, .new 1031), (6, .call [1031] (.b (inB 0 (((n.pipes.length : Nat) : Int) - 1) node)) [])]
  ⟨81, [1, 2], [(1, .i node), (3, .l (.ref 1003 0)), (5, .l (.ref 1005 0)), (6, .l (.ref 1006 0)), (25, .b (!(inB 0 (((n.pipes.length : Nat) : Int) - 1) node)))], [(1, some (Graft_okK1 n)), (2, some (Graft_okK2 o)), (1003, some (.blk 24 [.i n.pump, .ls 1])), (1005, some (.blk 24 [.i o.pump, .ls 2])), (1006, some Graft_okK3)]⟩
  [-9223372036854775808 ≤ (((n.pipes.length : Nat) : Int) - 1) ∧ (((n.pipes.length : Nat) : Int) - 1) < 9223372036854775808, CallOK Try.prog 61 [.i 0, .i (((n.pipes.length : Nat) : Int) - 1), .ls 1031] [1031] [some (.vec 3 1 1 (exEl 1 [.i node]))] (.b (inB 0 (((n.pipes.length : Nat) : Int) - 1) node)) []] (by kernel_rfl) (al2 (by omega) (al1 (CallFr.to (within_fr 0 (((n.pipes.length : Nat) : Int) - 1) node) [(1, 1031)] (by kernel_rfl) (by kernel_rfl) (by kernel_rfl) (by kernel_rfl) (by kernel_rfl) (dem_cons rfl (le_vec_ro rfl (fun | 0, _ => (fun | 0, _ => rfl | 1, _ => rfl | 2, _ => rfl | 3, _ => rfl | 4, _ => rfl | (n+5), h => absurd h (by omega)) | (n+1), h => absurd h (by omega))) dem_nil)))) ?_
 have h3 : (!(inB 0 (((n.pipes.length : Nat) : Int) - 1) node)) = false := by rw [hin] <;> rfl
 refine aw_cond (b := (!(inB 0 (((n.pipes.length : Nat) : Int) - 1) node))) rfl (fun h => Bool.noConfusion (h3.symm.trans h)) (fun _ => ?_)
 refine aw_seq ?_
 refine aw_r [(6, .num (((n.pipes.length + o.pipes.length) : Nat) : Int))]
  ⟨81, [1, 2], [(1, .i node), (3, .l (.ref 1003 0)), (5, .l (.ref 1005 0)), (6, .l (.ref 1006 0)), (35, .b (decide (60 < ((((n.pipes.length + o.pipes.length) : Nat) : Int) - 1))))], [(1, some (Graft_okK1 n)), (2, some (Graft_okK2 o)), (1003, some (.blk 24 [.i n.pump, .ls 1])), (1005, some (.blk 24 [.i o.pump, .ls 2])), (1006, some Graft_okK3)]⟩
  [(((n.pipes.length : Nat) : Int) + ((o.pipes.length : Nat) : Int)) = (((n.pipes.length + o.pipes.length) : Nat) : Int), -9223372036854775808 ≤ (((n.pipes.length + o.pipes.length) : Nat) : Int) ∧ (((n.pipes.length + o.pipes.length) : Nat) : Int) < 9223372036854775808, -9223372036854775808 ≤ ((((n.pipes.length + o.pipes.length) : Nat) : Int) - 1) ∧ ((((n.pipes.length + o.pipes.length) : Nat) : Int) - 1) < 9223372036854775808] (by kernel_rfl) (al2 (by omega) (al2 (by omega) (al1 (by omega)))) ?_
 refine aw_cond (b := decide (60 < ((((n.pipes.length + o.pipes.length) : Nat) : Int) - 1))) rfl (fun h => Bool.noConfusion (hfu.symm.trans h)) (fun _ => ?_)
 refine aw_skip ?_
 refine aw_seq ?_
 refine aw_r [(2, .call [1] (.ls 10480) [(10480, some (Graft_okK4 n))])]
  ⟨81, [1, 2], [(1, .i node), (3, .l (.ref 1003 0)), (5, .l (.ref 1005 0)), (6, .l (.ref 1006 0))], [(2, some (Graft_okK2 o)), (1003, some (.blk 24 [.i n.pump, .ls 10480])), (1005, some (.blk 24 [.i o.pump, .ls 2])), (1006, some Graft_okK3), (10480, some (Graft_okK4 n))]⟩
  [CallOK Try.prog 83 [.ls 1] [1] [some (Graft_okK1 n)] (.ls 10480) [(10480, some (Graft_okK4 n))]] (by kernel_rfl) (al1 (CallFr.to (clone_fr n.pipes (by omega) (by omega)) [(1, 1), (2, 10480)] (by kernel_rfl) (by kernel_rfl) (by kernel_rfl) (by kernel_rfl) (by kernel_rfl) (dem_cons rfl (le_ro rfl el_rfl) dem_nil))) ?_
 refine aw_seq ?_
 refine aw_r []
  ⟨81, [1, 2], [(1, .i node), (3, .l (.ref 1003 0)), (5, .l (.ref 1005 0)), (6, .l (.ref 1006 0)), (10, .i ((((n.pipes).length : Nat) : Int) - 1))], [(2, some (Graft_okK2 o)), (1003, some (.blk 24 [.i n.pump, .ls 10480])), (1005, some (.blk 24 [.i o.pump, .ls 2])), (1006, some Graft_okK3), (10480, some (Graft_okK4 n))]⟩
  [-9223372036854775808 ≤ ((((n.pipes).length : Nat) : Int) - 1) ∧ ((((n.pipes).length : Nat) : Int) - 1) < 9223372036854775808] (by kernel_rfl) (al1 (by omega)) ?_
 refine aw_seq ?_
 refine aw_seq ?_
 refine aw_r [(2, .cut 1056 1 o.pipes.length)]
  ⟨81, [1, 2], [(1, .i node), (3, .l (.ref 1003 0)), (6, .l (.ref 1006 0)), (10, .i ((((n.pipes).length : Nat) : Int) - 1)), (56, .ls 1056), (57, .i (((o.pipes.length - 1) : Nat) : Int)), (58, .i 0)], [(1003, some (.blk 24 [.i n.pump, .ls 10480])), (1006, some Graft_okK3), (1056, some (Graft_okK5 o)), (10480, some (Graft_okK4 n))]⟩
  [1 = ((1 : Nat) : Int), o.pipes.length = o.pipes.length, 1 ≤ o.pipes.length, o.pipes.length ≤ o.pipes.length] (by kernel_rfl) (al2 (by omega) (al2 rfl (al2 (by omega) (al1 (by omega))))) ?_
 refine aw_block ?_
 refine aw_loop (ι := Nat) (fun zz => ⟨81, [1, 2], [(1, .i node), (3, .l (.ref 1003 0)), (6, .l (.ref 1006 0)), (10, .i ((((n.pipes).length : Nat) : Int) - 1)), (56, .ls 1056), (57, .i (((o.pipes.length - 1) : Nat) : Int)), (58, .i ((zz : Nat) : Int))], [(1003, some (.blk 24 [.i n.pump, .ls 9201])), (1006, some Graft_okK3), (1056, some (Graft_okK5 o)), (9201, some (Graft_okK6 n zz o node))]⟩) (fun zz => (zz ≤ o.pipes.length - 1)) (fun zz => o.pipes.length - 1 - zz) 0 (by first | omega | rfl | assumption | (simp; done))
     (Ent.ren [(9201, 10480)] rfl rfl (by kernel_rfl) ⟨rfl, rfl, rfl, rfl, rfl, rfl, rfl, trivial⟩ (cbl rfl rfl (cbl rfl rfl (cro rfl (conts_cons rfl (le_vec (by first | rfl | omega | assumption | (rw [graftT_zero]) | (simp)) (lst_eq (by first | rfl | omega | assumption | (rw [graftT_zero]) | (simp)))) trivial)))) (by kernel_rfl)) fun zz hp => ?_
 obtain ⟨k, rfl⟩ : ∃ x, x = zz := ⟨_, rfl⟩
 have hk := hp
 have hpp := fun h => hot (k + 1) h
 have hpb : ∀ h : k + 1 < o.pipes.length, -1 ≤ (ix o.pipes (k + 1)).parent ∧ (ix o.pipes (k + 1)).parent < ((k + 1 : Nat) : Int) := fun h => by have := hot (k + 1) h; rw [← ix_par] at this; exact ⟨this.1, this.2.1⟩
 rw [show k + 1 = 1 + k from Nat.add_comm _ _] at hpb
 show AW _ E _ _ ⟨81, [1, 2], [(1, .i node), (3, .l (.ref 1003 0)), (6, .l (.ref 1006 0)), (10, .i ((((n.pipes).length : Nat) : Int) - 1)), (56, .ls 1056), (57, .i (((o.pipes.length - 1) : Nat) : Int)), (58, .i ((k : Nat) : Int))], [(1003, some (.blk 24 [.i n.pump, .ls 9201])), (1006, some Graft_okK3), (1056, some (Graft_okK5 o)), (9201, some (Graft_okK6 n k o node))]⟩
 refine aw_seq ?_
 refine aw_r []
  ⟨81, [1, 2], [(1, .i node), (3, .l (.ref 1003 0)), (6, .l (.ref 1006 0)), (10, .i ((((n.pipes).length : Nat) : Int) - 1)), (56, .ls 1056), (57, .i (((o.pipes.length - 1) : Nat) : Int)), (58, .i ((k : Nat) : Int)), (59, .b (decide (((k : Nat) : Int) < (((o.pipes.length - 1) : Nat) : Int))))], [(1003, some (.blk 24 [.i n.pump, .ls 9201])), (1006, some Graft_okK3), (1056, some (Graft_okK5 o)), (9201, some (Graft_okK6 n k o node))]⟩
  [] (by kernel_rfl) trivial ?_
 refine aw_seq ?_
 refine aw_cond (b := decide (((k : Nat) : Int) < (((o.pipes.length - 1) : Nat) : Int))) rfl (fun h4 => ?_) (fun h4 => ?_)
 ·
  have h4p : ((k : Nat) : Int) < (((o.pipes.length - 1) : Nat) : Int) := dtr h4
  refine aw_skip ?_
  refine aw_seq ?_
  refine aw_block ?_
  refine aw_seq ?_
  refine aw_r [(0, .idx k), (2, .new 1012)]
   ⟨81, [1, 2], [(1, .i node), (3, .l (.ref 1003 0)), (6, .l (.ref 1006 0)), (10, .i ((((n.pipes).length : Nat) : Int) - 1)), (12, .l (.ref 1012 0)), (56, .ls 1056), (57, .i (((o.pipes.length - 1) : Nat) : Int)), (58, .i ((k : Nat) : Int))], [(1003, some (.blk 24 [.i n.pump, .ls 9201])), (1006, some Graft_okK3), (1012, some (Graft_okK7 o k)), (1056, some (Graft_okK5 o)), (9201, some (Graft_okK6 n k o node))]⟩
   [((k : Nat) : Int) = ((k : Nat) : Int), k < (o.pipes.length - 1), k < (o.pipes.length - 1)] (by kernel_rfl) (al2 (by omega) (al2 (by omega) (al1 (by omega)))) ?_
  refine aw_seq ?_
  refine aw_seq ?_
  refine aw_r []
   ⟨81, [1, 2], [(1, .i node), (3, .l (.ref 1003 0)), (6, .l (.ref 1006 0)), (10, .i ((((n.pipes).length : Nat) : Int) - 1)), (12, .l (.ref 1012 0)), (56, .ls 1056), (57, .i (((o.pipes.length - 1) : Nat) : Int)), (58, .i ((k : Nat) : Int))], [(1003, some (.blk 24 [.i n.pump, .ls 9201])), (1006, some Graft_okK3), (1012, some (Graft_okK8 o k n)), (1056, some (Graft_okK5 o)), (9201, some (Graft_okK6 n k o node))]⟩
   [-9223372036854775808 ≤ ((ix o.pipes (1 + k)).parent + ((((n.pipes).length : Nat) : Int) - 1)) ∧ ((ix o.pipes (1 + k)).parent + ((((n.pipes).length : Nat) : Int) - 1)) < 9223372036854775808] (by kernel_rfl) (al1 (by omega)) ?_
  refine aw_seq ?_
  refine aw_r []
   ⟨81, [1, 2], [(1, .i node), (3, .l (.ref 1003 0)), (6, .l (.ref 1006 0)), (10, .i ((((n.pipes).length : Nat) : Int) - 1)), (12, .l (.ref 1012 0)), (56, .ls 1056), (57, .i (((o.pipes.length - 1) : Nat) : Int)), (58, .i ((k : Nat) : Int)), (70, .b (decide (((ix o.pipes (1 + k)).parent + ((((n.pipes).length : Nat) : Int) - 1)) = ((((n.pipes).length : Nat) : Int) - 1))))], [(1003, some (.blk 24 [.i n.pump, .ls 9201])), (1006, some Graft_okK3), (1012, some (Graft_okK8 o k n)), (1056, some (Graft_okK5 o)), (9201, some (Graft_okK6 n k o node))]⟩
   [] (by kernel_rfl) trivial ?_
  refine aw_cond (b := decide (((ix o.pipes (1 + k)).parent + ((((n.pipes).length : Nat) : Int) - 1)) = ((((n.pipes).length : Nat) : Int) - 1))) rfl (fun h5 => ?_) (fun h5 => ?_)
  ·
   have h5p : ((ix o.pipes (1 + k)).parent + ((((n.pipes).length : Nat) : Int) - 1)) = ((((n.pipes).length : Nat) : Int) - 1) := dtr h5
   refine aw_r []
    ⟨81, [1, 2], [(1, .i node), (3, .l (.ref 1003 0)), (6, .l (.ref 1006 0)), (10, .i ((((n.pipes).length : Nat) : Int) - 1)), (12, .l (.ref 1012 0)), (56, .ls 1056), (57, .i (((o.pipes.length - 1) : Nat) : Int)), (58, .i ((k : Nat) : Int))], [(1003, some (.blk 24 [.i n.pump, .ls 9201])), (1006, some Graft_okK3), (1012, some (Graft_okK9 node o k)), (1056, some (Graft_okK5 o)), (9201, some (Graft_okK6 n k o node))]⟩
    [] (by kernel_rfl) trivial ?_
   refine aw_r [(3, .new 1076), (4, .lst 1077 ((n.pipes.length + k) + 1) (Lst eP ((graftT n.pipes o.pipes node k) ++ [(⟨node, (ix o.pipes (1 + k)).length, (ix o.pipes (1 + k)).bore, (ix o.pipes (1 + k)).drop, (ix o.pipes (1 + k)).taps⟩ : Pipe)])))]
    ⟨81, [1, 2], [(1, .i node), (3, .l (.ref 1003 0)), (6, .l (.ref 1006 0)), (10, .i ((((n.pipes).length : Nat) : Int) - 1)), (56, .ls 1056), (57, .i (((o.pipes.length - 1) : Nat) : Int)), (58, .i ((k : Nat) : Int))], [(1003, some (.blk 24 [.i n.pump, .ls 1077])), (1006, some Graft_okK3), (1056, some (Graft_okK5 o)), (1077, some (Graft_okK10 n k o node))]⟩
    [(n.pipes.length + k) + 1 ≤ 1000000000000, ((n.pipes.length + k) + 1) * 40 ≤ 140737488355328, AppOk 5 (n.pipes.length + k) 1 (Lst eP (graftT n.pipes o.pipes node k)) (exEl 5 [.i node, .i ((ix o.pipes (1 + k)).length), .i ((ix o.pipes (1 + k)).bore), .i ((ix o.pipes (1 + k)).drop), .i ((ix o.pipes (1 + k)).taps)]) ((n.pipes.length + k) + 1) (Lst eP ((graftT n.pipes o.pipes node k) ++ [(⟨node, (ix o.pipes (1 + k)).length, (ix o.pipes (1 + k)).bore, (ix o.pipes (1 + k)).drop, (ix o.pipes (1 + k)).taps⟩ : Pipe)]))] (by kernel_rfl) (al2 (by omega) (al2 (by omega) (al1 (app_one (by first | rfl | omega | (rw [graftT_len] <;> omega)) (by first | rfl | omega | (rw [graftT_len] <;> omega)) (fun | 0, _ => rfl | 1, _ => rfl | 2, _ => rfl | 3, _ => rfl | 4, _ => rfl | (n + 5), h => absurd h (by omega)))))) ?_
   refine aw_r [(0, .num (((k + 1) : Nat) : Int))]
    ⟨81, [1, 2], [(1, .i node), (3, .l (.ref 1003 0)), (6, .l (.ref 1006 0)), (10, .i ((((n.pipes).length : Nat) : Int) - 1)), (56, .ls 1056), (57, .i (((o.pipes.length - 1) : Nat) : Int)), (58, .i (((k + 1) : Nat) : Int))], [(1003, some (.blk 24 [.i n.pump, .ls 1077])), (1006, some Graft_okK3), (1056, some (Graft_okK5 o)), (1077, some (Graft_okK10 n k o node))]⟩
    [(((k : Nat) : Int) + 1) = (((k + 1) : Nat) : Int), -9223372036854775808 ≤ (((k + 1) : Nat) : Int) ∧ (((k + 1) : Nat) : Int) < 9223372036854775808] (by kernel_rfl) (al2 (by omega) (al1 (by omega))) ?_
   exact ⟨k + 1, (by first | omega | rfl | assumption | (simp; done)), (show o.pipes.length - 1 - (k + 1) < o.pipes.length - 1 - k by first | omega | rfl | assumption),
       (Ent.ren [(9201, 1077)] rfl rfl (by kernel_rfl) ⟨rfl, rfl, rfl, rfl, rfl, rfl, rfl, trivial⟩ (cbl rfl rfl (cbl rfl rfl (cro rfl (conts_cons rfl (le_vec rfl (lst_eq (by first | rfl | omega | assumption | (rw [graftT_succ _ _ _ (by omega), graftP_zero _ _ (by omega)] <;> rfl) | (rw [graftT_succ _ _ _ (by omega), graftP_pos _ _ (by omega)] <;> rfl) | (omega)))) trivial)))) (by kernel_rfl))⟩
  ·
   have h5p : ((ix o.pipes (1 + k)).parent + ((((n.pipes).length : Nat) : Int) - 1)) ≠ ((((n.pipes).length : Nat) : Int) - 1) := deq h5
   refine aw_skip ?_
   refine aw_r [(3, .new 1076), (4, .lst 1077 ((n.pipes.length + k) + 1) (Lst eP ((graftT n.pipes o.pipes node k) ++ [(⟨((ix o.pipes (1 + k)).parent + ((((n.pipes).length : Nat) : Int) - 1)), (ix o.pipes (1 + k)).length, (ix o.pipes (1 + k)).bore, (ix o.pipes (1 + k)).drop, (ix o.pipes (1 + k)).taps⟩ : Pipe)])))]
    ⟨81, [1, 2], [(1, .i node), (3, .l (.ref 1003 0)), (6, .l (.ref 1006 0)), (10, .i ((((n.pipes).length : Nat) : Int) - 1)), (56, .ls 1056), (57, .i (((o.pipes.length - 1) : Nat) : Int)), (58, .i ((k : Nat) : Int))], [(1003, some (.blk 24 [.i n.pump, .ls 1077])), (1006, some Graft_okK3), (1056, some (Graft_okK5 o)), (1077, some (Graft_okK11 n k o node))]⟩
    [(n.pipes.length + k) + 1 ≤ 1000000000000, ((n.pipes.length + k) + 1) * 40 ≤ 140737488355328, AppOk 5 (n.pipes.length + k) 1 (Lst eP (graftT n.pipes o.pipes node k)) (exEl 5 [.i ((ix o.pipes (1 + k)).parent + ((((n.pipes).length : Nat) : Int) - 1)), .i ((ix o.pipes (1 + k)).length), .i ((ix o.pipes (1 + k)).bore), .i ((ix o.pipes (1 + k)).drop), .i ((ix o.pipes (1 + k)).taps)]) ((n.pipes.length + k) + 1) (Lst eP ((graftT n.pipes o.pipes node k) ++ [(⟨((ix o.pipes (1 + k)).parent + ((((n.pipes).length : Nat) : Int) - 1)), (ix o.pipes (1 + k)).length, (ix o.pipes (1 + k)).bore, (ix o.pipes (1 + k)).drop, (ix o.pipes (1 + k)).taps⟩ : Pipe)]))] (by kernel_rfl) (al2 (by omega) (al2 (by omega) (al1 (app_one (by first | rfl | omega | (rw [graftT_len] <;> omega)) (by first | rfl | omega | (rw [graftT_len] <;> omega)) (fun | 0, _ => rfl | 1, _ => rfl | 2, _ => rfl | 3, _ => rfl | 4, _ => rfl | (n + 5), h => absurd h (by omega)))))) ?_
   refine aw_r [(0, .num (((k + 1) : Nat) : Int))]
    ⟨81, [1, 2], [(1, .i node), (3, .l (.ref 1003 0)), (6, .l (.ref 1006 0)), (10, .i ((((n.pipes).length : Nat) : Int) - 1)), (56, .ls 1056), (57, .i (((o.pipes.length - 1) : Nat) : Int)), (58, .i (((k + 1) : Nat) : Int))], [(1003, some (.blk 24 [.i n.pump, .ls 1077])), (1006, some Graft_okK3), (1056, some (Graft_okK5 o)), (1077, some (Graft_okK11 n k o node))]⟩
    [(((k : Nat) : Int) + 1) = (((k + 1) : Nat) : Int), -9223372036854775808 ≤ (((k + 1) : Nat) : Int) ∧ (((k + 1) : Nat) : Int) < 9223372036854775808] (by kernel_rfl) (al2 (by omega) (al1 (by omega))) ?_
   exact ⟨k + 1, (by first | omega | rfl | assumption | (simp; done)), (show o.pipes.length - 1 - (k + 1) < o.pipes.length - 1 - k by first | omega | rfl | assumption),
       (Ent.ren [(9201, 1077)] rfl rfl (by kernel_rfl) ⟨rfl, rfl, rfl, rfl, rfl, rfl, rfl, trivial⟩ (cbl rfl rfl (cbl rfl rfl (cro rfl (conts_cons rfl (le_vec rfl (lst_eq (by first | rfl | omega | assumption | (rw [graftT_succ _ _ _ (by omega), graftP_zero _ _ (by omega)] <;> rfl) | (rw [graftT_succ _ _ _ (by omega), graftP_pos _ _ (by omega)] <;> rfl) | (omega)))) trivial)))) (by kernel_rfl))⟩
 ·
  have h4p : (((o.pipes.length - 1) : Nat) : Int) ≤ ((k : Nat) : Int) := dlt h4
  refine aw_exit (exit_then (exit_then (exit_in ?_)))
  refine aw_seq ?_
  refine aw_r []
   ⟨81, [1, 2], [(6, .l (.ref 1006 0)), (7, .i 0)], [(1006, some (.blk 24 [.i n.pump, .ls 9201])), (9201, some (Graft_okK6 n k o node))]⟩
   [] (by kernel_rfl) trivial ?_
  exact aw_ret ⟨.inr rfl, end_ok ⟨81, [1, 2], [(6, .l (.ref 8006 0)), (7, .i 0)], [(11, some (Graft_okK12 n o node)), (8006, some (.blk 24 [.i n.pump, .ls 11]))]⟩
      (Ent.ren [(8006, 1006), (11, 9201)] rfl rfl (by kernel_rfl) ⟨rfl, rfl, trivial⟩ (conts_cons rfl (le_vec (by first | rfl | omega | assumption | (rw [show k = o.pipes.length - 1 by omega])) (lst_eq (by first | rfl | omega | assumption | (rw [show k = o.pipes.length - 1 by omega])))) (cbl rfl rfl trivial)) (by kernel_rfl)) rfl (by kernel_rfl) (wr_cons rfl (plain_Lst plain_eP) wr_nil) (by kernel_rfl)⟩
end Go.Proofs.Ytepibjfmeibgcaa
