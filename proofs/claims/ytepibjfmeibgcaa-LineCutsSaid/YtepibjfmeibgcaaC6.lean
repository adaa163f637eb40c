/- LineCuts, walked. -/
import Derived.Test.YtepibjfmeibgcaaC5
import Derived.Test.YtepibjfmeibgcaaProg
namespace Go.Proofs.Ytepibjfmeibgcaa
open Go.RowKit
set_option linter.unusedVariables false
theorem Cut_zero0 (n : Net) (x : Int) (hn : n.pipes.length ≤ maxLen) (hok : netB n = true) (hx : x = 0) : CallFr Try.prog 49 [.agg [.i n.pump, .ls 1], .i x] [1] [some (.ro 5 n.pipes.length (Lst eP n.pipes))] (.tup [.agg [.i 0, .v (.slice none 0 0)], .one (.v (.slice none 0 0)), .one (.i 3)]) [] := by
  subst hx; exact Cut_zero n hn hok
set_option maxHeartbeats 4000000 in
set_option maxRecDepth 100000 in
theorem cuts_fr (n o : Net) (node : Int) (hn : n.pipes.length ≤ maxLen) (ho : o.pipes.length ≤ maxLen) (h0 : -9223372036854775808 ≤ node ∧ node < 9223372036854775808) : CallFr Try.prog 11 [.agg [.i n.pump, .ls 1], .agg [.i o.pump, .ls 2], .i node] [1, 2] [some (.ro 5 n.pipes.length (Lst eP n.pipes)), some (.ro 5 o.pipes.length (Lst eP o.pipes))] (.b true) [] := by
  have hML : maxLen = 9223372036854775807 := rfl
  have hgl : (graftT n.pipes o.pipes node (o.pipes.length - 1)).length = n.pipes.length + (o.pipes.length - 1) := graftT_len _ _ _ (Nat.le_refl _)
  have hkl := keptT_len n.pipes node n.pipes.length
  have hnm := numT_len n.pipes node n.pipes.length
  have hal : ∀ x : Net, alikeB x x = true := fun x => by unfold alikeB; simp
  refine callFr_of (fn := Try.f11) (by kernel_rfl) rfl (by kernel_rfl) (by kernel_rfl) fun E => ?_
  refine aw_ent (T := ⟨124, [1, 2], [(0, .agg [.i n.pump, .ls 1]), (1, .agg [.i o.pump, .ls 2]), (2, .i node)], [(1, some (.ro 5 n.pipes.length (Lst eP n.pipes))), (2, some (.ro 5 o.pipes.length (Lst eP o.pipes)))]⟩) (Ent.refl _) ?_
  refine aw_seq ?_
  refine aw_region [(0, .new 1003), (1, .new 1004)] [2, 3, 4] [1, 2, 1003, 1004]
      ⟨124, [1, 2], [(2, .i node), (3, .l (.ref 1003 0)), (4, .l (.ref 1004 0))], [(1, some (.ro 5 n.pipes.length (Lst eP n.pipes))), (2, some (.ro 5 o.pipes.length (Lst eP o.pipes))), (1003, some (.blk 24 [.i n.pump, .ls 1])), (1004, some (.blk 24 [.i o.pump, .ls 2]))]⟩
      [] (by kernel_rfl) trivial ?_
  refine aw_seq ?_
  refine aw_seq ?_
  rcases Bool.eq_false_or_eq_true (decide (70 < ((n.pipes.length : Nat) : Int))) with h1 | h1
  ·
    have h1p : 70 < ((n.pipes.length : Nat) : Int) := by first | exact of_decide_eq_true h1 | (have := h1; simp at this; first | exact this | omega)
    have v2 : CallOK Try.prog 14 [.agg [.i n.pump, .ls 1], .l (.v (.slice none 0 0)), .l (.v (.slice none 0 0))] [1] [some (.ro 5 n.pipes.length (Lst eP n.pipes))] (.b (decide (70 < ((n.pipes.length : Nat) : Int)))) [] := (CallFr.to (great_nn n (by omega)) [(1, 1)] (by kernel_rfl) (by kernel_rfl) (by kernel_rfl) (by kernel_rfl) (by kernel_rfl) (dem_cons rfl (le_ro rfl el_rfl) dem_nil))
    refine aw_region [(1, .call [1] (.b (decide (70 < ((n.pipes.length : Nat) : Int)))) []), (2, .dec true)] [2, 3, 4, 24] [1, 2, 1003, 1004]
        ⟨124, [1, 2], [(2, .i node), (3, .l (.ref 1003 0)), (4, .l (.ref 1004 0)), (24, .b true)], [(1, some (.ro 5 n.pipes.length (Lst eP n.pipes))), (2, some (.ro 5 o.pipes.length (Lst eP o.pipes))), (1003, some (.blk 24 [.i n.pump, .ls 1])), (1004, some (.blk 24 [.i o.pump, .ls 2]))]⟩
        [CallOK Try.prog 14 [.agg [.i n.pump, .ls 1], .l (.v (.slice none 0 0)), .l (.v (.slice none 0 0))] [1] [some (.ro 5 n.pipes.length (Lst eP n.pipes))] (.b (decide (70 < ((n.pipes.length : Nat) : Int)))) [], decide (70 < ((n.pipes.length : Nat) : Int)) = true] (by kernel_rfl) ⟨v2, h1⟩ ?_
    clear v2
    refine aw_true rfl ?_
    refine aw_seq ?_
    have v3 : CallOK Try.prog 15 [] [] [] (.b true) [] := (CallFr.to (known_fr ) [] (by kernel_rfl) (by kernel_rfl) (by kernel_rfl) (by kernel_rfl) (by kernel_rfl) dem_nil)
    refine aw_region [(0, .call [] (.b true) [])] [6] []
        ⟨124, [1, 2], [(6, .b true)], []⟩
        [CallOK Try.prog 15 [] [] [] (.b true) []] (by kernel_rfl) v3 ?_
    clear v3
    exact aw_ret (ret_then ⟨.inr rfl, end_ok ⟨124, [1, 2], [(6, .b true)], []⟩
        (Ent.ren [] rfl rfl (by kernel_rfl) (slots_cons rfl slots_nil) conts_nil (by kernel_rfl)) rfl (by kernel_rfl) wr_nil (by kernel_rfl)⟩)
  ·
    have h1p : ((n.pipes.length : Nat) : Int) ≤ 70 := by first | (have := of_decide_eq_false h1; omega) | (have := h1; simp at this; first | exact this | omega)
    have v4 : CallOK Try.prog 14 [.agg [.i n.pump, .ls 1], .l (.v (.slice none 0 0)), .l (.v (.slice none 0 0))] [1] [some (.ro 5 n.pipes.length (Lst eP n.pipes))] (.b (decide (70 < ((n.pipes.length : Nat) : Int)))) [] := (CallFr.to (great_nn n (by omega)) [(1, 1)] (by kernel_rfl) (by kernel_rfl) (by kernel_rfl) (by kernel_rfl) (by kernel_rfl) (dem_cons rfl (le_ro rfl el_rfl) dem_nil))
    have v5 : CallOK Try.prog 14 [.agg [.i o.pump, .ls 2], .l (.v (.slice none 0 0)), .l (.v (.slice none 0 0))] [2] [some (.ro 5 o.pipes.length (Lst eP o.pipes))] (.b (decide (70 < ((o.pipes.length : Nat) : Int)))) [] := (CallFr.to (great_nn o (by omega)) [(1, 2)] (by kernel_rfl) (by kernel_rfl) (by kernel_rfl) (by kernel_rfl) (by kernel_rfl) (dem_cons rfl (le_ro rfl el_rfl) dem_nil))
    refine aw_region [(1, .call [1] (.b (decide (70 < ((n.pipes.length : Nat) : Int)))) []), (2, .dec false), (4, .call [2] (.b (decide (70 < ((o.pipes.length : Nat) : Int)))) [])] [2, 3, 4, 24] [1, 2, 1003, 1004]
        ⟨124, [1, 2], [(2, .i node), (3, .l (.ref 1003 0)), (4, .l (.ref 1004 0)), (24, .b (decide (70 < ((o.pipes.length : Nat) : Int))))], [(1, some (.ro 5 n.pipes.length (Lst eP n.pipes))), (2, some (.ro 5 o.pipes.length (Lst eP o.pipes))), (1003, some (.blk 24 [.i n.pump, .ls 1])), (1004, some (.blk 24 [.i o.pump, .ls 2]))]⟩
        [CallOK Try.prog 14 [.agg [.i n.pump, .ls 1], .l (.v (.slice none 0 0)), .l (.v (.slice none 0 0))] [1] [some (.ro 5 n.pipes.length (Lst eP n.pipes))] (.b (decide (70 < ((n.pipes.length : Nat) : Int)))) [], decide (70 < ((n.pipes.length : Nat) : Int)) = false, CallOK Try.prog 14 [.agg [.i o.pump, .ls 2], .l (.v (.slice none 0 0)), .l (.v (.slice none 0 0))] [2] [some (.ro 5 o.pipes.length (Lst eP o.pipes))] (.b (decide (70 < ((o.pipes.length : Nat) : Int)))) []] (by kernel_rfl) ⟨v4, h1, v5⟩ ?_
    clear v4 v5
    refine aw_cond (b := decide (70 < ((o.pipes.length : Nat) : Int))) rfl (fun h6 => ?_) (fun h6 => ?_)
    ·
      have h6p : 70 < ((o.pipes.length : Nat) : Int) := by first | exact of_decide_eq_true h6 | (have := h6; simp at this; first | exact this | omega)
      refine aw_seq ?_
      have v7 : CallOK Try.prog 15 [] [] [] (.b true) [] := (CallFr.to (known_fr ) [] (by kernel_rfl) (by kernel_rfl) (by kernel_rfl) (by kernel_rfl) (by kernel_rfl) dem_nil)
      refine aw_region [(0, .call [] (.b true) [])] [6] []
          ⟨124, [1, 2], [(6, .b true)], []⟩
          [CallOK Try.prog 15 [] [] [] (.b true) []] (by kernel_rfl) v7 ?_
      clear v7
      exact aw_ret (ret_then ⟨.inr rfl, end_ok ⟨124, [1, 2], [(6, .b true)], []⟩
          (Ent.ren [] rfl rfl (by kernel_rfl) (slots_cons rfl slots_nil) conts_nil (by kernel_rfl)) rfl (by kernel_rfl) wr_nil (by kernel_rfl)⟩)
    ·
      have h6p : ((o.pipes.length : Nat) : Int) ≤ 70 := by first | (have := of_decide_eq_false h6; omega) | (have := h6; simp at this; first | exact this | omega)
      refine aw_skip ?_
      refine aw_seq ?_
      have v8 : CallOK Try.prog 17 [.agg [.i n.pump, .ls 1]] [1] [some (.ro 5 n.pipes.length (Lst eP n.pipes))] (.agg [.i n.pump, .ls 10270]) [(10270, some (.vec 54 5 ((n.pipes).length) (Lst eP n.pipes)))] := (CallFr.to (own_fr n (by omega)) [(1, 1), (2, 10270)] (by kernel_rfl) (by kernel_rfl) (by kernel_rfl) (by kernel_rfl) (by kernel_rfl) (dem_cons rfl (le_ro rfl el_rfl) dem_nil))
      have v9 : CallOK Try.prog 17 [.agg [.i o.pump, .ls 2]] [2] [some (.ro 5 o.pipes.length (Lst eP o.pipes))] (.agg [.i o.pump, .ls 10290]) [(10290, some (.vec 54 5 ((o.pipes).length) (Lst eP o.pipes)))] := (CallFr.to (own_fr o (by omega)) [(1, 2), (2, 10290)] (by kernel_rfl) (by kernel_rfl) (by kernel_rfl) (by kernel_rfl) (by kernel_rfl) (dem_cons rfl (le_ro rfl el_rfl) dem_nil))
      refine aw_drawn [(1, .call [1] (.agg [.i n.pump, .ls 10270]) [(10270, some (.vec 54 5 ((n.pipes).length) (Lst eP n.pipes)))]), (3, .call [2] (.agg [.i o.pump, .ls 10290]) [(10290, some (.vec 54 5 ((o.pipes).length) (Lst eP o.pipes)))]), (4, .new 1007), (5, .new 1008)] [2, 3, 4, 7, 8] [1, 2, 1003, 1004, 1007, 1008, 10270, 10290]
          ⟨124, [1, 2], [(2, .i node), (3, .l (.ref 1003 0)), (4, .l (.ref 1004 0)), (7, .l (.ref 1007 0)), (8, .l (.ref 1008 0))], [(1, some (.ro 5 n.pipes.length (Lst eP n.pipes))), (2, some (.ro 5 o.pipes.length (Lst eP o.pipes))), (1003, some (.blk 24 [.i n.pump, .ls 1])), (1004, some (.blk 24 [.i o.pump, .ls 2])), (1007, some (.blk 24 [.i n.pump, .ls 10270])), (1008, some (.blk 24 [.i o.pump, .ls 10290])), (10270, some (.vec 54 5 ((n.pipes).length) (Lst eP n.pipes))), (10290, some (.vec 54 5 ((o.pipes).length) (Lst eP o.pipes)))]⟩
          [CallOK Try.prog 17 [.agg [.i n.pump, .ls 1]] [1] [some (.ro 5 n.pipes.length (Lst eP n.pipes))] (.agg [.i n.pump, .ls 10270]) [(10270, some (.vec 54 5 ((n.pipes).length) (Lst eP n.pipes)))], CallOK Try.prog 17 [.agg [.i o.pump, .ls 2]] [2] [some (.ro 5 o.pipes.length (Lst eP o.pipes))] (.agg [.i o.pump, .ls 10290]) [(10290, some (.vec 54 5 ((o.pipes).length) (Lst eP o.pipes)))]] (by kernel_rfl) (by kernel_rfl) ⟨v8, v9⟩ ?_
      clear v8 v9
      refine aw_seq ?_
      rcases Bool.eq_false_or_eq_true (netB n) with h10 | h10
      ·
        have hnl := netB_len h10
        rcases Bool.eq_false_or_eq_true (inB 0 (((n.pipes.length : Nat) : Int) - 1) node) with h11 | h11
        ·
          rcases Bool.eq_false_or_eq_true (decide (node = 0)) with h12 | h12
          ·
            have v13 : CallOK Try.prog 49 [.agg [.i n.pump, .ls 10270], .i node] [10270] [some (.vec 54 5 ((n.pipes).length) (Lst eP n.pipes))] (.tup [.agg [.i 0, .v (.slice none 0 0)], .one (.v (.slice none 0 0)), .one (.i 3)]) [] := (CallFr.to (Cut_zero0 n node (by omega) h10 (of_decide_eq_true h12)) [(1, 10270)] (by kernel_rfl) (by kernel_rfl) (by kernel_rfl) (by kernel_rfl) (by kernel_rfl) (dem_cons rfl (le_vec_ro rfl el_rfl) dem_nil))
            refine aw_region [(2, .call [10270] (.tup [.agg [.i 0, .v (.slice none 0 0)], .one (.v (.slice none 0 0)), .one (.i 3)]) []), (7, .new 1009)] [2, 3, 4, 7, 8, 9, 10, 11] [1, 2, 1003, 1004, 1007, 1008, 1009, 10270, 10290]
                ⟨124, [1, 2], [(2, .i node), (3, .l (.ref 1003 0)), (4, .l (.ref 1004 0)), (7, .l (.ref 1007 0)), (8, .l (.ref 1008 0)), (9, .l (.ref 1009 0)), (10, .l (.v (.slice none 0 0))), (11, .i 3)], [(1, some (.ro 5 n.pipes.length (Lst eP n.pipes))), (2, some (.ro 5 o.pipes.length (Lst eP o.pipes))), (1003, some (.blk 24 [.i n.pump, .ls 1])), (1004, some (.blk 24 [.i o.pump, .ls 2])), (1007, some (.blk 24 [.i n.pump, .ls 10270])), (1008, some (.blk 24 [.i o.pump, .ls 10290])), (1009, some (.blk 24 [.i 0, .v (.slice none 0 0)])), (10270, some (.vec 54 5 ((n.pipes).length) (Lst eP n.pipes))), (10290, some (.vec 54 5 ((o.pipes).length) (Lst eP o.pipes)))]⟩
                [CallOK Try.prog 49 [.agg [.i n.pump, .ls 10270], .i node] [10270] [some (.vec 54 5 ((n.pipes).length) (Lst eP n.pipes))] (.tup [.agg [.i 0, .v (.slice none 0 0)], .one (.v (.slice none 0 0)), .one (.i 3)]) []] (by kernel_rfl) v13 ?_
            clear v13
            refine aw_seq ?_
            rcases Bool.eq_false_or_eq_true (netB o) with h14 | h14
            ·
              have hol := netB_len h14
              rcases Bool.eq_false_or_eq_true (decide (60 < (((n.pipes.length + o.pipes.length : Nat) : Int) - 1))) with h15 | h15
              ·
                have v16 : CallOK Try.prog 50 [.agg [.i n.pump, .ls 10270], .i node, .agg [.i o.pump, .ls 10290]] [10270, 10290] [some (.vec 54 5 ((n.pipes).length) (Lst eP n.pipes)), some (.vec 54 5 ((o.pipes).length) (Lst eP o.pipes))] (.tup [.agg [.i 0, .v (.slice none 0 0)], .one (.i 8)]) [] := (CallFr.to (Graft_full n o node (by omega) (by omega) (by omega) (by omega) h10 h14 h11 h15) [(1, 10270), (2, 10290)] (by kernel_rfl) (by kernel_rfl) (by kernel_rfl) (by kernel_rfl) (by kernel_rfl) (dem_cons rfl (le_vec_ro rfl el_rfl) (dem_cons rfl (le_vec_ro rfl el_rfl) dem_nil)))
                refine aw_region [(3, .call [10270, 10290] (.tup [.agg [.i 0, .v (.slice none 0 0)], .one (.i 8)]) []), (7, .new 1012)] [2, 3, 4, 7, 8, 9, 10, 11, 12, 13] [1, 2, 1003, 1004, 1007, 1008, 1009, 1012, 10270, 10290]
                    ⟨124, [1, 2], [(2, .i node), (3, .l (.ref 1003 0)), (4, .l (.ref 1004 0)), (7, .l (.ref 1007 0)), (8, .l (.ref 1008 0)), (9, .l (.ref 1009 0)), (10, .l (.v (.slice none 0 0))), (11, .i 3), (12, .l (.ref 1012 0)), (13, .i 8)], [(1, some (.ro 5 n.pipes.length (Lst eP n.pipes))), (2, some (.ro 5 o.pipes.length (Lst eP o.pipes))), (1003, some (.blk 24 [.i n.pump, .ls 1])), (1004, some (.blk 24 [.i o.pump, .ls 2])), (1007, some (.blk 24 [.i n.pump, .ls 10270])), (1008, some (.blk 24 [.i o.pump, .ls 10290])), (1009, some (.blk 24 [.i 0, .v (.slice none 0 0)])), (1012, some (.blk 24 [.i 0, .v (.slice none 0 0)])), (10270, some (.vec 54 5 ((n.pipes).length) (Lst eP n.pipes))), (10290, some (.vec 54 5 ((o.pipes).length) (Lst eP o.pipes)))]⟩
                    [CallOK Try.prog 50 [.agg [.i n.pump, .ls 10270], .i node, .agg [.i o.pump, .ls 10290]] [10270, 10290] [some (.vec 54 5 ((n.pipes).length) (Lst eP n.pipes)), some (.vec 54 5 ((o.pipes).length) (Lst eP o.pipes))] (.tup [.agg [.i 0, .v (.slice none 0 0)], .one (.i 8)]) []] (by kernel_rfl) v16 ?_
                clear v16
                refine aw_seq ?_
                refine aw_seq ?_
                have h17 : ((!(alikeB n n))) = false := by rw [hal]; rfl
                have v18 : CallOK Try.prog 36 [.agg [.i n.pump, .ls 10270], .agg [.i n.pump, .ls 1]] [10270, 1] [some (.vec 54 5 ((n.pipes).length) (Lst eP n.pipes)), some (.ro 5 n.pipes.length (Lst eP n.pipes))] (.b (alikeB n n)) [] := (CallFr.to (alike_fr n n (by first | omega | (dsimp only; omega)) (by first | omega | (dsimp only; omega))) [(1, 10270), (2, 1)] (by kernel_rfl) (by kernel_rfl) (by kernel_rfl) (by kernel_rfl) (by kernel_rfl) (dem_cons rfl (le_vec_ro rfl el_rfl) (dem_cons rfl (le_ro rfl el_rfl) dem_nil)))
                have v19 : CallOK Try.prog 36 [.agg [.i o.pump, .ls 10290], .agg [.i o.pump, .ls 2]] [10290, 2] [some (.vec 54 5 ((o.pipes).length) (Lst eP o.pipes)), some (.ro 5 o.pipes.length (Lst eP o.pipes))] (.b (alikeB o o)) [] := (CallFr.to (alike_fr o o (by first | omega | (dsimp only; omega)) (by first | omega | (dsimp only; omega))) [(1, 10290), (2, 2)] (by kernel_rfl) (by kernel_rfl) (by kernel_rfl) (by kernel_rfl) (by kernel_rfl) (dem_cons rfl (le_vec_ro rfl el_rfl) (dem_cons rfl (le_ro rfl el_rfl) dem_nil)))
                refine aw_region [(2, .call [10270, 1] (.b (alikeB n n)) []), (4, .dec false), (7, .call [10290, 2] (.b (alikeB o o)) [])] [2, 3, 4, 9, 10, 11, 12, 13, 53] [1, 2, 1003, 1004, 1009, 1012]
                    ⟨124, [1, 2], [(2, .i node), (3, .l (.ref 1003 0)), (4, .l (.ref 1004 0)), (9, .l (.ref 1009 0)), (10, .l (.v (.slice none 0 0))), (11, .i 3), (12, .l (.ref 1012 0)), (13, .i 8), (53, .b (!(alikeB o o)))], [(1, some (.ro 5 n.pipes.length (Lst eP n.pipes))), (2, some (.ro 5 o.pipes.length (Lst eP o.pipes))), (1003, some (.blk 24 [.i n.pump, .ls 1])), (1004, some (.blk 24 [.i o.pump, .ls 2])), (1009, some (.blk 24 [.i 0, .v (.slice none 0 0)])), (1012, some (.blk 24 [.i 0, .v (.slice none 0 0)]))]⟩
                    [CallOK Try.prog 36 [.agg [.i n.pump, .ls 10270], .agg [.i n.pump, .ls 1]] [10270, 1] [some (.vec 54 5 ((n.pipes).length) (Lst eP n.pipes)), some (.ro 5 n.pipes.length (Lst eP n.pipes))] (.b (alikeB n n)) [], (!(alikeB n n)) = false, CallOK Try.prog 36 [.agg [.i o.pump, .ls 10290], .agg [.i o.pump, .ls 2]] [10290, 2] [some (.vec 54 5 ((o.pipes).length) (Lst eP o.pipes)), some (.ro 5 o.pipes.length (Lst eP o.pipes))] (.b (alikeB o o)) []] (by kernel_rfl) ⟨v18, h17, v19⟩ ?_
                clear v18 v19
                have h20 : ((!(alikeB o o))) = false := by rw [hal]; rfl
                refine aw_cond (b := (!(alikeB o o))) rfl (fun h => Bool.noConfusion (h20.symm.trans h)) (fun _ => ?_)
                refine aw_skip ?_
                refine aw_seq ?_
                have v21 : CallOK Try.prog 51 [.agg [.i n.pump, .ls 1], .i node, .agg [.i o.pump, .ls 2]] [1, 2] [some (.ro 5 n.pipes.length (Lst eP n.pipes)), some (.ro 5 o.pipes.length (Lst eP o.pipes))] (.tup [.agg [.i 0, .v (.slice none 0 0)], .one (.i 8)]) [] := (CallFr.to (refGraft_full n o node (by omega) (by omega) (by omega) (by omega) h10 h14 h11 h15) [(1, 1), (2, 2)] (by kernel_rfl) (by kernel_rfl) (by kernel_rfl) (by kernel_rfl) (by kernel_rfl) (dem_cons rfl (le_ro rfl el_rfl) (dem_cons rfl (le_ro rfl el_rfl) dem_nil)))
                refine aw_region [(3, .call [1, 2] (.tup [.agg [.i 0, .v (.slice none 0 0)], .one (.i 8)]) []), (7, .new 1014)] [2, 3, 9, 10, 11, 12, 13, 14, 15] [1, 1003, 1009, 1012, 1014]
                    ⟨124, [1, 2], [(2, .i node), (3, .l (.ref 1003 0)), (9, .l (.ref 1009 0)), (10, .l (.v (.slice none 0 0))), (11, .i 3), (12, .l (.ref 1012 0)), (13, .i 8), (14, .l (.ref 1014 0)), (15, .i 8)], [(1, some (.ro 5 n.pipes.length (Lst eP n.pipes))), (1003, some (.blk 24 [.i n.pump, .ls 1])), (1009, some (.blk 24 [.i 0, .v (.slice none 0 0)])), (1012, some (.blk 24 [.i 0, .v (.slice none 0 0)])), (1014, some (.blk 24 [.i 0, .v (.slice none 0 0)]))]⟩
                    [CallOK Try.prog 51 [.agg [.i n.pump, .ls 1], .i node, .agg [.i o.pump, .ls 2]] [1, 2] [some (.ro 5 n.pipes.length (Lst eP n.pipes)), some (.ro 5 o.pipes.length (Lst eP o.pipes))] (.tup [.agg [.i 0, .v (.slice none 0 0)], .one (.i 8)]) []] (by kernel_rfl) v21 ?_
                clear v21
                refine aw_seq ?_
                refine aw_seq ?_
                have h22 : (decide ((8 : Int) ≠ (8 : Int))) = false := by decide
                have v23 : CallOK Try.prog 36 [.agg [.i 0, .v (.slice none 0 0)], .agg [.i 0, .v (.slice none 0 0)]] [] [] (.b (alikeB ⟨0, []⟩ ⟨0, []⟩)) [] := (CallFr.to (alike_nil 0 0) [] (by kernel_rfl) (by kernel_rfl) (by kernel_rfl) (by kernel_rfl) (by kernel_rfl) dem_nil)
                refine aw_region [(3, .dec false), (6, .call [] (.b (alikeB ⟨0, []⟩ ⟨0, []⟩)) [])] [2, 3, 9, 10, 11, 69] [1, 1003, 1009]
                    ⟨124, [1, 2], [(2, .i node), (3, .l (.ref 1003 0)), (9, .l (.ref 1009 0)), (10, .l (.v (.slice none 0 0))), (11, .i 3), (69, .b (!(alikeB ⟨0, []⟩ ⟨0, []⟩)))], [(1, some (.ro 5 n.pipes.length (Lst eP n.pipes))), (1003, some (.blk 24 [.i n.pump, .ls 1])), (1009, some (.blk 24 [.i 0, .v (.slice none 0 0)]))]⟩
                    [decide ((8 : Int) ≠ (8 : Int)) = false, CallOK Try.prog 36 [.agg [.i 0, .v (.slice none 0 0)], .agg [.i 0, .v (.slice none 0 0)]] [] [] (.b (alikeB ⟨0, []⟩ ⟨0, []⟩)) []] (by kernel_rfl) ⟨h22, v23⟩ ?_
                clear v23
                have h24 : ((!(alikeB ⟨0, []⟩ ⟨0, []⟩))) = false := by rw [hal]; rfl
                refine aw_cond (b := (!(alikeB ⟨0, []⟩ ⟨0, []⟩))) rfl (fun h => Bool.noConfusion (h24.symm.trans h)) (fun _ => ?_)
                refine aw_skip ?_
                refine aw_seq ?_
                refine aw_region [] [2, 3, 9, 10, 11, 16] [1, 1003, 1009]
                    ⟨124, [1, 2], [(2, .i node), (3, .l (.ref 1003 0)), (9, .l (.ref 1009 0)), (10, .l (.v (.slice none 0 0))), (11, .i 3), (16, .i 0)], [(1, some (.ro 5 n.pipes.length (Lst eP n.pipes))), (1003, some (.blk 24 [.i n.pump, .ls 1])), (1009, some (.blk 24 [.i 0, .v (.slice none 0 0)]))]⟩
                    [] (by kernel_rfl) trivial ?_
                refine aw_seq ?_
                refine aw_block ?_
                refine aw_seq ?_
                have v25 : CallOK Try.prog 32 [.agg [.i n.pump, .ls 1]] [1] [some (.ro 5 n.pipes.length (Lst eP n.pipes))] (.b (netB n)) [] := (CallFr.to (refNet_fr n (by omega)) [(1, 1)] (by kernel_rfl) (by kernel_rfl) (by kernel_rfl) (by kernel_rfl) (by kernel_rfl) (dem_cons rfl (le_ro rfl el_rfl) dem_nil))
                refine aw_region [(1, .call [1] (.b (netB n)) [])] [2, 3, 9, 10, 11, 16, 70] [1, 1003, 1009]
                    ⟨124, [1, 2], [(2, .i node), (3, .l (.ref 1003 0)), (9, .l (.ref 1009 0)), (10, .l (.v (.slice none 0 0))), (11, .i 3), (16, .i 0), (70, .b (!(netB n)))], [(1, some (.ro 5 n.pipes.length (Lst eP n.pipes))), (1003, some (.blk 24 [.i n.pump, .ls 1])), (1009, some (.blk 24 [.i 0, .v (.slice none 0 0)]))]⟩
                    [CallOK Try.prog 32 [.agg [.i n.pump, .ls 1]] [1] [some (.ro 5 n.pipes.length (Lst eP n.pipes))] (.b (netB n)) []] (by kernel_rfl) v25 ?_
                clear v25
                have h26 : (!(netB n)) = false := by rw [h10] <;> rfl
                refine aw_cond (b := (!(netB n))) rfl (fun h => Bool.noConfusion (h26.symm.trans h)) (fun _ => ?_)
                refine aw_seq ?_
                have v27 : -9223372036854775808 ≤ (((n.pipes.length : Nat) : Int) - 1) ∧ (((n.pipes.length : Nat) : Int) - 1) < 9223372036854775808 := (by first | omega | rfl | assumption)
                have v28 : CallOK Try.prog 52 [.i node, .i 0, .i (((n.pipes.length : Nat) : Int) - 1)] [] [] (.b (inB 0 (((n.pipes.length : Nat) : Int) - 1) node)) [] := (CallFr.to (refIn1_fr node 0 (((n.pipes.length : Nat) : Int) - 1)) [] (by kernel_rfl) (by kernel_rfl) (by kernel_rfl) (by kernel_rfl) (by kernel_rfl) dem_nil)
                refine aw_region [(5, .call [] (.b (inB 0 (((n.pipes.length : Nat) : Int) - 1) node)) [])] [2, 3, 9, 10, 11, 16, 74] [1, 1003, 1009]
                    ⟨124, [1, 2], [(2, .i node), (3, .l (.ref 1003 0)), (9, .l (.ref 1009 0)), (10, .l (.v (.slice none 0 0))), (11, .i 3), (16, .i 0), (74, .b (!(inB 0 (((n.pipes.length : Nat) : Int) - 1) node)))], [(1, some (.ro 5 n.pipes.length (Lst eP n.pipes))), (1003, some (.blk 24 [.i n.pump, .ls 1])), (1009, some (.blk 24 [.i 0, .v (.slice none 0 0)]))]⟩
                    [-9223372036854775808 ≤ (((n.pipes.length : Nat) : Int) - 1) ∧ (((n.pipes.length : Nat) : Int) - 1) < 9223372036854775808, CallOK Try.prog 52 [.i node, .i 0, .i (((n.pipes.length : Nat) : Int) - 1)] [] [] (.b (inB 0 (((n.pipes.length : Nat) : Int) - 1) node)) []] (by kernel_rfl) ⟨v27, v28⟩ ?_
                clear v27 v28
                have h29 : (!(inB 0 (((n.pipes.length : Nat) : Int) - 1) node)) = false := by rw [h11] <;> rfl
                refine aw_cond (b := (!(inB 0 (((n.pipes.length : Nat) : Int) - 1) node))) rfl (fun h => Bool.noConfusion (h29.symm.trans h)) (fun _ => ?_)
                refine aw_seq ?_
                refine aw_region [] [2, 3, 9, 10, 11, 16, 82] [1, 1003, 1009]
                    ⟨124, [1, 2], [(2, .i node), (3, .l (.ref 1003 0)), (9, .l (.ref 1009 0)), (10, .l (.v (.slice none 0 0))), (11, .i 3), (16, .i 0), (82, .b (decide (node = 0)))], [(1, some (.ro 5 n.pipes.length (Lst eP n.pipes))), (1003, some (.blk 24 [.i n.pump, .ls 1])), (1009, some (.blk 24 [.i 0, .v (.slice none 0 0)]))]⟩
                    [] (by kernel_rfl) trivial ?_
                refine aw_cond (b := decide (node = 0)) rfl (fun _ => ?_) (fun h => Bool.noConfusion (h12.symm.trans h))
                refine aw_region [] [2, 3, 9, 10, 11, 16] [1, 1003, 1009]
                    ⟨124, [1, 2], [(2, .i node), (3, .l (.ref 1003 0)), (9, .l (.ref 1009 0)), (10, .l (.v (.slice none 0 0))), (11, .i 3), (16, .i 3)], [(1, some (.ro 5 n.pipes.length (Lst eP n.pipes))), (1003, some (.blk 24 [.i n.pump, .ls 1])), (1009, some (.blk 24 [.i 0, .v (.slice none 0 0)]))]⟩
                    [] (by kernel_rfl) trivial ?_
                refine aw_seq ?_
                refine aw_seq ?_
                refine aw_region [] [2, 3, 9, 10, 11, 16, 86] [1, 1003, 1009]
                    ⟨124, [1, 2], [(2, .i node), (3, .l (.ref 1003 0)), (9, .l (.ref 1009 0)), (10, .l (.v (.slice none 0 0))), (11, .i 3), (16, .i 3), (86, .b (decide ((3 : Int) ≠ (0 : Int))))], [(1, some (.ro 5 n.pipes.length (Lst eP n.pipes))), (1003, some (.blk 24 [.i n.pump, .ls 1])), (1009, some (.blk 24 [.i 0, .v (.slice none 0 0)]))]⟩
                    [] (by kernel_rfl) trivial ?_
                have h30 : (decide ((3 : Int) ≠ (0 : Int))) = true := by decide
                refine aw_cond (b := decide ((3 : Int) ≠ (0 : Int))) rfl (fun _ => ?_) (fun h => Bool.noConfusion (h30.symm.trans h))
                refine aw_seq ?_
                have h31 : (decide ((3 : Int) = (3 : Int))) = true := by decide
                have h32 : (alikeB ⟨0, []⟩ ⟨0, []⟩) = true := by exact hal _
                have h33 : (decide ((0 : Int) = (0 : Int))) = true := by decide
                have v34 : CallOK Try.prog 36 [.agg [.i 0, .v (.slice none 0 0)], .agg [.i 0, .v (.slice none 0 0)]] [] [] (.b (alikeB ⟨0, []⟩ ⟨0, []⟩)) [] := (CallFr.to (alike_nil 0 0) [] (by kernel_rfl) (by kernel_rfl) (by kernel_rfl) (by kernel_rfl) (by kernel_rfl) dem_nil)
                have v35 : CallOK Try.prog 15 [] [] [] (.b true) [] := (CallFr.to (known_fr ) [] (by kernel_rfl) (by kernel_rfl) (by kernel_rfl) (by kernel_rfl) (by kernel_rfl) dem_nil)
                refine aw_region [(3, .dec true), (6, .call [] (.b (alikeB ⟨0, []⟩ ⟨0, []⟩)) []), (8, .dec true), (13, .dec true), (14, .call [] (.b true) [])] [6] []
                    ⟨124, [1, 2], [(6, .b true)], []⟩
                    [decide ((3 : Int) = (3 : Int)) = true, CallOK Try.prog 36 [.agg [.i 0, .v (.slice none 0 0)], .agg [.i 0, .v (.slice none 0 0)]] [] [] (.b (alikeB ⟨0, []⟩ ⟨0, []⟩)) [], alikeB ⟨0, []⟩ ⟨0, []⟩ = true, decide ((0 : Int) = (0 : Int)) = true, CallOK Try.prog 15 [] [] [] (.b true) []] (by kernel_rfl) ⟨h31, v34, h32, h33, v35⟩ ?_
                clear v34 v35
                exact aw_ret (ret_then ⟨.inr rfl, end_ok ⟨124, [1, 2], [(6, .b true)], []⟩
                    (Ent.ren [] rfl rfl (by kernel_rfl) (slots_cons rfl slots_nil) conts_nil (by kernel_rfl)) rfl (by kernel_rfl) wr_nil (by kernel_rfl)⟩)
              ·
                have v36 : CallOK Try.prog 50 [.agg [.i n.pump, .ls 10270], .i node, .agg [.i o.pump, .ls 10290]] [10270, 10290] [some (.vec 54 5 ((n.pipes).length) (Lst eP n.pipes)), some (.vec 54 5 ((o.pipes).length) (Lst eP o.pipes))] (.tup [.agg [.i n.pump, .ls 10410], .one (.i 0)]) [(10410, some (.vec 54 5 (n.pipes.length + (o.pipes.length - 1)) (Lst eP (graftT n.pipes o.pipes node (o.pipes.length - 1)))))] := (CallFr.to (Graft_ok n o node (by omega) (by omega) (by omega) (by omega) h10 h14 h11 h15) [(1, 10270), (2, 10290), (11, 10410)] (by kernel_rfl) (by kernel_rfl) (by kernel_rfl) (by kernel_rfl) (by kernel_rfl) (dem_cons rfl (le_vec_ro rfl el_rfl) (dem_cons rfl (le_vec_ro rfl el_rfl) dem_nil)))
                refine aw_region [(3, .call [10270, 10290] (.tup [.agg [.i n.pump, .ls 10410], .one (.i 0)]) [(10410, some (.vec 54 5 (n.pipes.length + (o.pipes.length - 1)) (Lst eP (graftT n.pipes o.pipes node (o.pipes.length - 1)))))]), (7, .new 1012)] [2, 3, 4, 7, 8, 9, 10, 11, 12, 13] [1, 2, 1003, 1004, 1007, 1008, 1009, 1012, 10270, 10290, 10410]
                    ⟨124, [1, 2], [(2, .i node), (3, .l (.ref 1003 0)), (4, .l (.ref 1004 0)), (7, .l (.ref 1007 0)), (8, .l (.ref 1008 0)), (9, .l (.ref 1009 0)), (10, .l (.v (.slice none 0 0))), (11, .i 3), (12, .l (.ref 1012 0)), (13, .i 0)], [(1, some (.ro 5 n.pipes.length (Lst eP n.pipes))), (2, some (.ro 5 o.pipes.length (Lst eP o.pipes))), (1003, some (.blk 24 [.i n.pump, .ls 1])), (1004, some (.blk 24 [.i o.pump, .ls 2])), (1007, some (.blk 24 [.i n.pump, .ls 10270])), (1008, some (.blk 24 [.i o.pump, .ls 10290])), (1009, some (.blk 24 [.i 0, .v (.slice none 0 0)])), (1012, some (.blk 24 [.i n.pump, .ls 10410])), (10270, some (.vec 54 5 ((n.pipes).length) (Lst eP n.pipes))), (10290, some (.vec 54 5 ((o.pipes).length) (Lst eP o.pipes))), (10410, some (.vec 54 5 (n.pipes.length + (o.pipes.length - 1)) (Lst eP (graftT n.pipes o.pipes node (o.pipes.length - 1)))))]⟩
                    [CallOK Try.prog 50 [.agg [.i n.pump, .ls 10270], .i node, .agg [.i o.pump, .ls 10290]] [10270, 10290] [some (.vec 54 5 ((n.pipes).length) (Lst eP n.pipes)), some (.vec 54 5 ((o.pipes).length) (Lst eP o.pipes))] (.tup [.agg [.i n.pump, .ls 10410], .one (.i 0)]) [(10410, some (.vec 54 5 (n.pipes.length + (o.pipes.length - 1)) (Lst eP (graftT n.pipes o.pipes node (o.pipes.length - 1)))))]] (by kernel_rfl) v36 ?_
                clear v36
                refine aw_seq ?_
                refine aw_seq ?_
                have h37 : ((!(alikeB n n))) = false := by rw [hal]; rfl
                have v38 : CallOK Try.prog 36 [.agg [.i n.pump, .ls 10270], .agg [.i n.pump, .ls 1]] [10270, 1] [some (.vec 54 5 ((n.pipes).length) (Lst eP n.pipes)), some (.ro 5 n.pipes.length (Lst eP n.pipes))] (.b (alikeB n n)) [] := (CallFr.to (alike_fr n n (by first | omega | (dsimp only; omega)) (by first | omega | (dsimp only; omega))) [(1, 10270), (2, 1)] (by kernel_rfl) (by kernel_rfl) (by kernel_rfl) (by kernel_rfl) (by kernel_rfl) (dem_cons rfl (le_vec_ro rfl el_rfl) (dem_cons rfl (le_ro rfl el_rfl) dem_nil)))
                have v39 : CallOK Try.prog 36 [.agg [.i o.pump, .ls 10290], .agg [.i o.pump, .ls 2]] [10290, 2] [some (.vec 54 5 ((o.pipes).length) (Lst eP o.pipes)), some (.ro 5 o.pipes.length (Lst eP o.pipes))] (.b (alikeB o o)) [] := (CallFr.to (alike_fr o o (by first | omega | (dsimp only; omega)) (by first | omega | (dsimp only; omega))) [(1, 10290), (2, 2)] (by kernel_rfl) (by kernel_rfl) (by kernel_rfl) (by kernel_rfl) (by kernel_rfl) (dem_cons rfl (le_vec_ro rfl el_rfl) (dem_cons rfl (le_ro rfl el_rfl) dem_nil)))
                refine aw_region [(2, .call [10270, 1] (.b (alikeB n n)) []), (4, .dec false), (7, .call [10290, 2] (.b (alikeB o o)) [])] [2, 3, 4, 9, 10, 11, 12, 13, 53] [1, 2, 1003, 1004, 1009, 1012, 10410]
                    ⟨124, [1, 2], [(2, .i node), (3, .l (.ref 1003 0)), (4, .l (.ref 1004 0)), (9, .l (.ref 1009 0)), (10, .l (.v (.slice none 0 0))), (11, .i 3), (12, .l (.ref 1012 0)), (13, .i 0), (53, .b (!(alikeB o o)))], [(1, some (.ro 5 n.pipes.length (Lst eP n.pipes))), (2, some (.ro 5 o.pipes.length (Lst eP o.pipes))), (1003, some (.blk 24 [.i n.pump, .ls 1])), (1004, some (.blk 24 [.i o.pump, .ls 2])), (1009, some (.blk 24 [.i 0, .v (.slice none 0 0)])), (1012, some (.blk 24 [.i n.pump, .ls 10410])), (10410, some (.vec 54 5 (n.pipes.length + (o.pipes.length - 1)) (Lst eP (graftT n.pipes o.pipes node (o.pipes.length - 1)))))]⟩
                    [CallOK Try.prog 36 [.agg [.i n.pump, .ls 10270], .agg [.i n.pump, .ls 1]] [10270, 1] [some (.vec 54 5 ((n.pipes).length) (Lst eP n.pipes)), some (.ro 5 n.pipes.length (Lst eP n.pipes))] (.b (alikeB n n)) [], (!(alikeB n n)) = false, CallOK Try.prog 36 [.agg [.i o.pump, .ls 10290], .agg [.i o.pump, .ls 2]] [10290, 2] [some (.vec 54 5 ((o.pipes).length) (Lst eP o.pipes)), some (.ro 5 o.pipes.length (Lst eP o.pipes))] (.b (alikeB o o)) []] (by kernel_rfl) ⟨v38, h37, v39⟩ ?_
                clear v38 v39
                have h40 : ((!(alikeB o o))) = false := by rw [hal]; rfl
                refine aw_cond (b := (!(alikeB o o))) rfl (fun h => Bool.noConfusion (h40.symm.trans h)) (fun _ => ?_)
                refine aw_skip ?_
                refine aw_seq ?_
                have v41 : CallOK Try.prog 51 [.agg [.i n.pump, .ls 1], .i node, .agg [.i o.pump, .ls 2]] [1, 2] [some (.ro 5 n.pipes.length (Lst eP n.pipes)), some (.ro 5 o.pipes.length (Lst eP o.pipes))] (.tup [.agg [.i n.pump, .ls 10580], .one (.i 0)]) [(10580, some (.vec 54 5 (n.pipes.length + (o.pipes.length - 1)) (Lst eP (graftT n.pipes o.pipes node (o.pipes.length - 1)))))] := (CallFr.to (refGraft_ok n o node (by omega) (by omega) (by omega) (by omega) h10 h14 h11 h15) [(1, 1), (2, 2), (11, 10580)] (by kernel_rfl) (by kernel_rfl) (by kernel_rfl) (by kernel_rfl) (by kernel_rfl) (dem_cons rfl (le_ro rfl el_rfl) (dem_cons rfl (le_ro rfl el_rfl) dem_nil)))
                refine aw_region [(3, .call [1, 2] (.tup [.agg [.i n.pump, .ls 10580], .one (.i 0)]) [(10580, some (.vec 54 5 (n.pipes.length + (o.pipes.length - 1)) (Lst eP (graftT n.pipes o.pipes node (o.pipes.length - 1)))))]), (7, .new 1014)] [2, 3, 9, 10, 11, 12, 13, 14, 15] [1, 1003, 1009, 1012, 1014, 10410, 10580]
                    ⟨124, [1, 2], [(2, .i node), (3, .l (.ref 1003 0)), (9, .l (.ref 1009 0)), (10, .l (.v (.slice none 0 0))), (11, .i 3), (12, .l (.ref 1012 0)), (13, .i 0), (14, .l (.ref 1014 0)), (15, .i 0)], [(1, some (.ro 5 n.pipes.length (Lst eP n.pipes))), (1003, some (.blk 24 [.i n.pump, .ls 1])), (1009, some (.blk 24 [.i 0, .v (.slice none 0 0)])), (1012, some (.blk 24 [.i n.pump, .ls 10410])), (1014, some (.blk 24 [.i n.pump, .ls 10580])), (10410, some (.vec 54 5 (n.pipes.length + (o.pipes.length - 1)) (Lst eP (graftT n.pipes o.pipes node (o.pipes.length - 1))))), (10580, some (.vec 54 5 (n.pipes.length + (o.pipes.length - 1)) (Lst eP (graftT n.pipes o.pipes node (o.pipes.length - 1)))))]⟩
                    [CallOK Try.prog 51 [.agg [.i n.pump, .ls 1], .i node, .agg [.i o.pump, .ls 2]] [1, 2] [some (.ro 5 n.pipes.length (Lst eP n.pipes)), some (.ro 5 o.pipes.length (Lst eP o.pipes))] (.tup [.agg [.i n.pump, .ls 10580], .one (.i 0)]) [(10580, some (.vec 54 5 (n.pipes.length + (o.pipes.length - 1)) (Lst eP (graftT n.pipes o.pipes node (o.pipes.length - 1)))))]] (by kernel_rfl) v41 ?_
                clear v41
                refine aw_seq ?_
                refine aw_seq ?_
                have h42 : (decide ((0 : Int) ≠ (0 : Int))) = false := by decide
                have v43 : CallOK Try.prog 36 [.agg [.i n.pump, .ls 10410], .agg [.i n.pump, .ls 10580]] [10410, 10580] [some (.vec 54 5 (n.pipes.length + (o.pipes.length - 1)) (Lst eP (graftT n.pipes o.pipes node (o.pipes.length - 1)))), some (.vec 54 5 (n.pipes.length + (o.pipes.length - 1)) (Lst eP (graftT n.pipes o.pipes node (o.pipes.length - 1))))] (.b (alikeB (⟨n.pump, (graftT n.pipes o.pipes node (o.pipes.length - 1))⟩) (⟨n.pump, (graftT n.pipes o.pipes node (o.pipes.length - 1))⟩))) [] := (CallFr.to (alike_fr (⟨n.pump, (graftT n.pipes o.pipes node (o.pipes.length - 1))⟩) (⟨n.pump, (graftT n.pipes o.pipes node (o.pipes.length - 1))⟩) (by first | omega | (dsimp only; omega)) (by first | omega | (dsimp only; omega))) [(1, 10410), (2, 10580)] (by kernel_rfl) (by kernel_rfl) (by kernel_rfl) (by kernel_rfl) (by kernel_rfl) (dem_cons rfl (le_vec_ro (by first | rfl | omega | (dsimp only; omega)) el_rfl) (dem_cons rfl (le_vec_ro (by first | rfl | omega | (dsimp only; omega)) el_rfl) dem_nil)))
                refine aw_region [(3, .dec false), (6, .call [10410, 10580] (.b (alikeB (⟨n.pump, (graftT n.pipes o.pipes node (o.pipes.length - 1))⟩) (⟨n.pump, (graftT n.pipes o.pipes node (o.pipes.length - 1))⟩))) [])] [2, 3, 9, 10, 11, 69] [1, 1003, 1009]
                    ⟨124, [1, 2], [(2, .i node), (3, .l (.ref 1003 0)), (9, .l (.ref 1009 0)), (10, .l (.v (.slice none 0 0))), (11, .i 3), (69, .b (!(alikeB (⟨n.pump, (graftT n.pipes o.pipes node (o.pipes.length - 1))⟩) (⟨n.pump, (graftT n.pipes o.pipes node (o.pipes.length - 1))⟩))))], [(1, some (.ro 5 n.pipes.length (Lst eP n.pipes))), (1003, some (.blk 24 [.i n.pump, .ls 1])), (1009, some (.blk 24 [.i 0, .v (.slice none 0 0)]))]⟩
                    [decide ((0 : Int) ≠ (0 : Int)) = false, CallOK Try.prog 36 [.agg [.i n.pump, .ls 10410], .agg [.i n.pump, .ls 10580]] [10410, 10580] [some (.vec 54 5 (n.pipes.length + (o.pipes.length - 1)) (Lst eP (graftT n.pipes o.pipes node (o.pipes.length - 1)))), some (.vec 54 5 (n.pipes.length + (o.pipes.length - 1)) (Lst eP (graftT n.pipes o.pipes node (o.pipes.length - 1))))] (.b (alikeB (⟨n.pump, (graftT n.pipes o.pipes node (o.pipes.length - 1))⟩) (⟨n.pump, (graftT n.pipes o.pipes node (o.pipes.length - 1))⟩))) []] (by kernel_rfl) ⟨h42, v43⟩ ?_
                clear v43
                have h44 : ((!(alikeB (⟨n.pump, (graftT n.pipes o.pipes node (o.pipes.length - 1))⟩) (⟨n.pump, (graftT n.pipes o.pipes node (o.pipes.length - 1))⟩)))) = false := by rw [hal]; rfl
                refine aw_cond (b := (!(alikeB (⟨n.pump, (graftT n.pipes o.pipes node (o.pipes.length - 1))⟩) (⟨n.pump, (graftT n.pipes o.pipes node (o.pipes.length - 1))⟩)))) rfl (fun h => Bool.noConfusion (h44.symm.trans h)) (fun _ => ?_)
                refine aw_skip ?_
                refine aw_seq ?_
                refine aw_region [] [2, 3, 9, 10, 11, 16] [1, 1003, 1009]
                    ⟨124, [1, 2], [(2, .i node), (3, .l (.ref 1003 0)), (9, .l (.ref 1009 0)), (10, .l (.v (.slice none 0 0))), (11, .i 3), (16, .i 0)], [(1, some (.ro 5 n.pipes.length (Lst eP n.pipes))), (1003, some (.blk 24 [.i n.pump, .ls 1])), (1009, some (.blk 24 [.i 0, .v (.slice none 0 0)]))]⟩
                    [] (by kernel_rfl) trivial ?_
                refine aw_seq ?_
                refine aw_block ?_
                refine aw_seq ?_
                have v45 : CallOK Try.prog 32 [.agg [.i n.pump, .ls 1]] [1] [some (.ro 5 n.pipes.length (Lst eP n.pipes))] (.b (netB n)) [] := (CallFr.to (refNet_fr n (by omega)) [(1, 1)] (by kernel_rfl) (by kernel_rfl) (by kernel_rfl) (by kernel_rfl) (by kernel_rfl) (dem_cons rfl (le_ro rfl el_rfl) dem_nil))
                refine aw_region [(1, .call [1] (.b (netB n)) [])] [2, 3, 9, 10, 11, 16, 70] [1, 1003, 1009]
                    ⟨124, [1, 2], [(2, .i node), (3, .l (.ref 1003 0)), (9, .l (.ref 1009 0)), (10, .l (.v (.slice none 0 0))), (11, .i 3), (16, .i 0), (70, .b (!(netB n)))], [(1, some (.ro 5 n.pipes.length (Lst eP n.pipes))), (1003, some (.blk 24 [.i n.pump, .ls 1])), (1009, some (.blk 24 [.i 0, .v (.slice none 0 0)]))]⟩
                    [CallOK Try.prog 32 [.agg [.i n.pump, .ls 1]] [1] [some (.ro 5 n.pipes.length (Lst eP n.pipes))] (.b (netB n)) []] (by kernel_rfl) v45 ?_
                clear v45
                have h46 : (!(netB n)) = false := by rw [h10] <;> rfl
                refine aw_cond (b := (!(netB n))) rfl (fun h => Bool.noConfusion (h46.symm.trans h)) (fun _ => ?_)
                refine aw_seq ?_
                have v47 : -9223372036854775808 ≤ (((n.pipes.length : Nat) : Int) - 1) ∧ (((n.pipes.length : Nat) : Int) - 1) < 9223372036854775808 := (by first | omega | rfl | assumption)
                have v48 : CallOK Try.prog 52 [.i node, .i 0, .i (((n.pipes.length : Nat) : Int) - 1)] [] [] (.b (inB 0 (((n.pipes.length : Nat) : Int) - 1) node)) [] := (CallFr.to (refIn1_fr node 0 (((n.pipes.length : Nat) : Int) - 1)) [] (by kernel_rfl) (by kernel_rfl) (by kernel_rfl) (by kernel_rfl) (by kernel_rfl) dem_nil)
                refine aw_region [(5, .call [] (.b (inB 0 (((n.pipes.length : Nat) : Int) - 1) node)) [])] [2, 3, 9, 10, 11, 16, 74] [1, 1003, 1009]
                    ⟨124, [1, 2], [(2, .i node), (3, .l (.ref 1003 0)), (9, .l (.ref 1009 0)), (10, .l (.v (.slice none 0 0))), (11, .i 3), (16, .i 0), (74, .b (!(inB 0 (((n.pipes.length : Nat) : Int) - 1) node)))], [(1, some (.ro 5 n.pipes.length (Lst eP n.pipes))), (1003, some (.blk 24 [.i n.pump, .ls 1])), (1009, some (.blk 24 [.i 0, .v (.slice none 0 0)]))]⟩
                    [-9223372036854775808 ≤ (((n.pipes.length : Nat) : Int) - 1) ∧ (((n.pipes.length : Nat) : Int) - 1) < 9223372036854775808, CallOK Try.prog 52 [.i node, .i 0, .i (((n.pipes.length : Nat) : Int) - 1)] [] [] (.b (inB 0 (((n.pipes.length : Nat) : Int) - 1) node)) []] (by kernel_rfl) ⟨v47, v48⟩ ?_
                clear v47 v48
                have h49 : (!(inB 0 (((n.pipes.length : Nat) : Int) - 1) node)) = false := by rw [h11] <;> rfl
                refine aw_cond (b := (!(inB 0 (((n.pipes.length : Nat) : Int) - 1) node))) rfl (fun h => Bool.noConfusion (h49.symm.trans h)) (fun _ => ?_)
                refine aw_seq ?_
                refine aw_region [] [2, 3, 9, 10, 11, 16, 82] [1, 1003, 1009]
                    ⟨124, [1, 2], [(2, .i node), (3, .l (.ref 1003 0)), (9, .l (.ref 1009 0)), (10, .l (.v (.slice none 0 0))), (11, .i 3), (16, .i 0), (82, .b (decide (node = 0)))], [(1, some (.ro 5 n.pipes.length (Lst eP n.pipes))), (1003, some (.blk 24 [.i n.pump, .ls 1])), (1009, some (.blk 24 [.i 0, .v (.slice none 0 0)]))]⟩
                    [] (by kernel_rfl) trivial ?_
                refine aw_cond (b := decide (node = 0)) rfl (fun _ => ?_) (fun h => Bool.noConfusion (h12.symm.trans h))
                refine aw_region [] [2, 3, 9, 10, 11, 16] [1, 1003, 1009]
                    ⟨124, [1, 2], [(2, .i node), (3, .l (.ref 1003 0)), (9, .l (.ref 1009 0)), (10, .l (.v (.slice none 0 0))), (11, .i 3), (16, .i 3)], [(1, some (.ro 5 n.pipes.length (Lst eP n.pipes))), (1003, some (.blk 24 [.i n.pump, .ls 1])), (1009, some (.blk 24 [.i 0, .v (.slice none 0 0)]))]⟩
                    [] (by kernel_rfl) trivial ?_
                refine aw_seq ?_
                refine aw_seq ?_
                refine aw_region [] [2, 3, 9, 10, 11, 16, 86] [1, 1003, 1009]
                    ⟨124, [1, 2], [(2, .i node), (3, .l (.ref 1003 0)), (9, .l (.ref 1009 0)), (10, .l (.v (.slice none 0 0))), (11, .i 3), (16, .i 3), (86, .b (decide ((3 : Int) ≠ (0 : Int))))], [(1, some (.ro 5 n.pipes.length (Lst eP n.pipes))), (1003, some (.blk 24 [.i n.pump, .ls 1])), (1009, some (.blk 24 [.i 0, .v (.slice none 0 0)]))]⟩
                    [] (by kernel_rfl) trivial ?_
                have h50 : (decide ((3 : Int) ≠ (0 : Int))) = true := by decide
                refine aw_cond (b := decide ((3 : Int) ≠ (0 : Int))) rfl (fun _ => ?_) (fun h => Bool.noConfusion (h50.symm.trans h))
                refine aw_seq ?_
                have h51 : (decide ((3 : Int) = (3 : Int))) = true := by decide
                have h52 : (alikeB ⟨0, []⟩ ⟨0, []⟩) = true := by exact hal _
                have h53 : (decide ((0 : Int) = (0 : Int))) = true := by decide
                have v54 : CallOK Try.prog 36 [.agg [.i 0, .v (.slice none 0 0)], .agg [.i 0, .v (.slice none 0 0)]] [] [] (.b (alikeB ⟨0, []⟩ ⟨0, []⟩)) [] := (CallFr.to (alike_nil 0 0) [] (by kernel_rfl) (by kernel_rfl) (by kernel_rfl) (by kernel_rfl) (by kernel_rfl) dem_nil)
                have v55 : CallOK Try.prog 15 [] [] [] (.b true) [] := (CallFr.to (known_fr ) [] (by kernel_rfl) (by kernel_rfl) (by kernel_rfl) (by kernel_rfl) (by kernel_rfl) dem_nil)
                refine aw_region [(3, .dec true), (6, .call [] (.b (alikeB ⟨0, []⟩ ⟨0, []⟩)) []), (8, .dec true), (13, .dec true), (14, .call [] (.b true) [])] [6] []
                    ⟨124, [1, 2], [(6, .b true)], []⟩
                    [decide ((3 : Int) = (3 : Int)) = true, CallOK Try.prog 36 [.agg [.i 0, .v (.slice none 0 0)], .agg [.i 0, .v (.slice none 0 0)]] [] [] (.b (alikeB ⟨0, []⟩ ⟨0, []⟩)) [], alikeB ⟨0, []⟩ ⟨0, []⟩ = true, decide ((0 : Int) = (0 : Int)) = true, CallOK Try.prog 15 [] [] [] (.b true) []] (by kernel_rfl) ⟨h51, v54, h52, h53, v55⟩ ?_
                clear v54 v55
                exact aw_ret (ret_then ⟨.inr rfl, end_ok ⟨124, [1, 2], [(6, .b true)], []⟩
                    (Ent.ren [] rfl rfl (by kernel_rfl) (slots_cons rfl slots_nil) conts_nil (by kernel_rfl)) rfl (by kernel_rfl) wr_nil (by kernel_rfl)⟩)
            ·
              have v56 : CallOK Try.prog 50 [.agg [.i n.pump, .ls 10270], .i node, .agg [.i o.pump, .ls 10290]] [10270, 10290] [some (.vec 54 5 ((n.pipes).length) (Lst eP n.pipes)), some (.vec 54 5 ((o.pipes).length) (Lst eP o.pipes))] (.tup [.agg [.i 0, .v (.slice none 0 0)], .one (.i 2)]) [] := (CallFr.to (Graft_bad2 n o node (by omega) (by omega) (by omega) (by omega) h10 h14) [(1, 10270), (2, 10290)] (by kernel_rfl) (by kernel_rfl) (by kernel_rfl) (by kernel_rfl) (by kernel_rfl) (dem_cons rfl (le_vec_ro rfl el_rfl) (dem_cons rfl (le_vec_ro rfl el_rfl) dem_nil)))
              refine aw_region [(3, .call [10270, 10290] (.tup [.agg [.i 0, .v (.slice none 0 0)], .one (.i 2)]) []), (7, .new 1012)] [2, 3, 4, 7, 8, 9, 10, 11, 12, 13] [1, 2, 1003, 1004, 1007, 1008, 1009, 1012, 10270, 10290]
                  ⟨124, [1, 2], [(2, .i node), (3, .l (.ref 1003 0)), (4, .l (.ref 1004 0)), (7, .l (.ref 1007 0)), (8, .l (.ref 1008 0)), (9, .l (.ref 1009 0)), (10, .l (.v (.slice none 0 0))), (11, .i 3), (12, .l (.ref 1012 0)), (13, .i 2)], [(1, some (.ro 5 n.pipes.length (Lst eP n.pipes))), (2, some (.ro 5 o.pipes.length (Lst eP o.pipes))), (1003, some (.blk 24 [.i n.pump, .ls 1])), (1004, some (.blk 24 [.i o.pump, .ls 2])), (1007, some (.blk 24 [.i n.pump, .ls 10270])), (1008, some (.blk 24 [.i o.pump, .ls 10290])), (1009, some (.blk 24 [.i 0, .v (.slice none 0 0)])), (1012, some (.blk 24 [.i 0, .v (.slice none 0 0)])), (10270, some (.vec 54 5 ((n.pipes).length) (Lst eP n.pipes))), (10290, some (.vec 54 5 ((o.pipes).length) (Lst eP o.pipes)))]⟩
                  [CallOK Try.prog 50 [.agg [.i n.pump, .ls 10270], .i node, .agg [.i o.pump, .ls 10290]] [10270, 10290] [some (.vec 54 5 ((n.pipes).length) (Lst eP n.pipes)), some (.vec 54 5 ((o.pipes).length) (Lst eP o.pipes))] (.tup [.agg [.i 0, .v (.slice none 0 0)], .one (.i 2)]) []] (by kernel_rfl) v56 ?_
              clear v56
              refine aw_seq ?_
              refine aw_seq ?_
              have h57 : ((!(alikeB n n))) = false := by rw [hal]; rfl
              have v58 : CallOK Try.prog 36 [.agg [.i n.pump, .ls 10270], .agg [.i n.pump, .ls 1]] [10270, 1] [some (.vec 54 5 ((n.pipes).length) (Lst eP n.pipes)), some (.ro 5 n.pipes.length (Lst eP n.pipes))] (.b (alikeB n n)) [] := (CallFr.to (alike_fr n n (by first | omega | (dsimp only; omega)) (by first | omega | (dsimp only; omega))) [(1, 10270), (2, 1)] (by kernel_rfl) (by kernel_rfl) (by kernel_rfl) (by kernel_rfl) (by kernel_rfl) (dem_cons rfl (le_vec_ro rfl el_rfl) (dem_cons rfl (le_ro rfl el_rfl) dem_nil)))
              have v59 : CallOK Try.prog 36 [.agg [.i o.pump, .ls 10290], .agg [.i o.pump, .ls 2]] [10290, 2] [some (.vec 54 5 ((o.pipes).length) (Lst eP o.pipes)), some (.ro 5 o.pipes.length (Lst eP o.pipes))] (.b (alikeB o o)) [] := (CallFr.to (alike_fr o o (by first | omega | (dsimp only; omega)) (by first | omega | (dsimp only; omega))) [(1, 10290), (2, 2)] (by kernel_rfl) (by kernel_rfl) (by kernel_rfl) (by kernel_rfl) (by kernel_rfl) (dem_cons rfl (le_vec_ro rfl el_rfl) (dem_cons rfl (le_ro rfl el_rfl) dem_nil)))
              refine aw_region [(2, .call [10270, 1] (.b (alikeB n n)) []), (4, .dec false), (7, .call [10290, 2] (.b (alikeB o o)) [])] [2, 3, 4, 9, 10, 11, 12, 13, 53] [1, 2, 1003, 1004, 1009, 1012]
                  ⟨124, [1, 2], [(2, .i node), (3, .l (.ref 1003 0)), (4, .l (.ref 1004 0)), (9, .l (.ref 1009 0)), (10, .l (.v (.slice none 0 0))), (11, .i 3), (12, .l (.ref 1012 0)), (13, .i 2), (53, .b (!(alikeB o o)))], [(1, some (.ro 5 n.pipes.length (Lst eP n.pipes))), (2, some (.ro 5 o.pipes.length (Lst eP o.pipes))), (1003, some (.blk 24 [.i n.pump, .ls 1])), (1004, some (.blk 24 [.i o.pump, .ls 2])), (1009, some (.blk 24 [.i 0, .v (.slice none 0 0)])), (1012, some (.blk 24 [.i 0, .v (.slice none 0 0)]))]⟩
                  [CallOK Try.prog 36 [.agg [.i n.pump, .ls 10270], .agg [.i n.pump, .ls 1]] [10270, 1] [some (.vec 54 5 ((n.pipes).length) (Lst eP n.pipes)), some (.ro 5 n.pipes.length (Lst eP n.pipes))] (.b (alikeB n n)) [], (!(alikeB n n)) = false, CallOK Try.prog 36 [.agg [.i o.pump, .ls 10290], .agg [.i o.pump, .ls 2]] [10290, 2] [some (.vec 54 5 ((o.pipes).length) (Lst eP o.pipes)), some (.ro 5 o.pipes.length (Lst eP o.pipes))] (.b (alikeB o o)) []] (by kernel_rfl) ⟨v58, h57, v59⟩ ?_
              clear v58 v59
              have h60 : ((!(alikeB o o))) = false := by rw [hal]; rfl
              refine aw_cond (b := (!(alikeB o o))) rfl (fun h => Bool.noConfusion (h60.symm.trans h)) (fun _ => ?_)
              refine aw_skip ?_
              refine aw_seq ?_
              have v61 : CallOK Try.prog 51 [.agg [.i n.pump, .ls 1], .i node, .agg [.i o.pump, .ls 2]] [1, 2] [some (.ro 5 n.pipes.length (Lst eP n.pipes)), some (.ro 5 o.pipes.length (Lst eP o.pipes))] (.tup [.agg [.i 0, .v (.slice none 0 0)], .one (.i 2)]) [] := (CallFr.to (refGraft_bad2 n o node (by omega) (by omega) (by omega) (by omega) h10 h14) [(1, 1), (2, 2)] (by kernel_rfl) (by kernel_rfl) (by kernel_rfl) (by kernel_rfl) (by kernel_rfl) (dem_cons rfl (le_ro rfl el_rfl) (dem_cons rfl (le_ro rfl el_rfl) dem_nil)))
              refine aw_region [(3, .call [1, 2] (.tup [.agg [.i 0, .v (.slice none 0 0)], .one (.i 2)]) []), (7, .new 1014)] [2, 3, 9, 10, 11, 12, 13, 14, 15] [1, 1003, 1009, 1012, 1014]
                  ⟨124, [1, 2], [(2, .i node), (3, .l (.ref 1003 0)), (9, .l (.ref 1009 0)), (10, .l (.v (.slice none 0 0))), (11, .i 3), (12, .l (.ref 1012 0)), (13, .i 2), (14, .l (.ref 1014 0)), (15, .i 2)], [(1, some (.ro 5 n.pipes.length (Lst eP n.pipes))), (1003, some (.blk 24 [.i n.pump, .ls 1])), (1009, some (.blk 24 [.i 0, .v (.slice none 0 0)])), (1012, some (.blk 24 [.i 0, .v (.slice none 0 0)])), (1014, some (.blk 24 [.i 0, .v (.slice none 0 0)]))]⟩
                  [CallOK Try.prog 51 [.agg [.i n.pump, .ls 1], .i node, .agg [.i o.pump, .ls 2]] [1, 2] [some (.ro 5 n.pipes.length (Lst eP n.pipes)), some (.ro 5 o.pipes.length (Lst eP o.pipes))] (.tup [.agg [.i 0, .v (.slice none 0 0)], .one (.i 2)]) []] (by kernel_rfl) v61 ?_
              clear v61
              refine aw_seq ?_
              refine aw_seq ?_
              have h62 : (decide ((2 : Int) ≠ (2 : Int))) = false := by decide
              have v63 : CallOK Try.prog 36 [.agg [.i 0, .v (.slice none 0 0)], .agg [.i 0, .v (.slice none 0 0)]] [] [] (.b (alikeB ⟨0, []⟩ ⟨0, []⟩)) [] := (CallFr.to (alike_nil 0 0) [] (by kernel_rfl) (by kernel_rfl) (by kernel_rfl) (by kernel_rfl) (by kernel_rfl) dem_nil)
              refine aw_region [(3, .dec false), (6, .call [] (.b (alikeB ⟨0, []⟩ ⟨0, []⟩)) [])] [2, 3, 9, 10, 11, 69] [1, 1003, 1009]
                  ⟨124, [1, 2], [(2, .i node), (3, .l (.ref 1003 0)), (9, .l (.ref 1009 0)), (10, .l (.v (.slice none 0 0))), (11, .i 3), (69, .b (!(alikeB ⟨0, []⟩ ⟨0, []⟩)))], [(1, some (.ro 5 n.pipes.length (Lst eP n.pipes))), (1003, some (.blk 24 [.i n.pump, .ls 1])), (1009, some (.blk 24 [.i 0, .v (.slice none 0 0)]))]⟩
                  [decide ((2 : Int) ≠ (2 : Int)) = false, CallOK Try.prog 36 [.agg [.i 0, .v (.slice none 0 0)], .agg [.i 0, .v (.slice none 0 0)]] [] [] (.b (alikeB ⟨0, []⟩ ⟨0, []⟩)) []] (by kernel_rfl) ⟨h62, v63⟩ ?_
              clear v63
              have h64 : ((!(alikeB ⟨0, []⟩ ⟨0, []⟩))) = false := by rw [hal]; rfl
              refine aw_cond (b := (!(alikeB ⟨0, []⟩ ⟨0, []⟩))) rfl (fun h => Bool.noConfusion (h64.symm.trans h)) (fun _ => ?_)
              refine aw_skip ?_
              refine aw_seq ?_
              refine aw_region [] [2, 3, 9, 10, 11, 16] [1, 1003, 1009]
                  ⟨124, [1, 2], [(2, .i node), (3, .l (.ref 1003 0)), (9, .l (.ref 1009 0)), (10, .l (.v (.slice none 0 0))), (11, .i 3), (16, .i 0)], [(1, some (.ro 5 n.pipes.length (Lst eP n.pipes))), (1003, some (.blk 24 [.i n.pump, .ls 1])), (1009, some (.blk 24 [.i 0, .v (.slice none 0 0)]))]⟩
                  [] (by kernel_rfl) trivial ?_
              refine aw_seq ?_
              refine aw_block ?_
              refine aw_seq ?_
              have v65 : CallOK Try.prog 32 [.agg [.i n.pump, .ls 1]] [1] [some (.ro 5 n.pipes.length (Lst eP n.pipes))] (.b (netB n)) [] := (CallFr.to (refNet_fr n (by omega)) [(1, 1)] (by kernel_rfl) (by kernel_rfl) (by kernel_rfl) (by kernel_rfl) (by kernel_rfl) (dem_cons rfl (le_ro rfl el_rfl) dem_nil))
              refine aw_region [(1, .call [1] (.b (netB n)) [])] [2, 3, 9, 10, 11, 16, 70] [1, 1003, 1009]
                  ⟨124, [1, 2], [(2, .i node), (3, .l (.ref 1003 0)), (9, .l (.ref 1009 0)), (10, .l (.v (.slice none 0 0))), (11, .i 3), (16, .i 0), (70, .b (!(netB n)))], [(1, some (.ro 5 n.pipes.length (Lst eP n.pipes))), (1003, some (.blk 24 [.i n.pump, .ls 1])), (1009, some (.blk 24 [.i 0, .v (.slice none 0 0)]))]⟩
                  [CallOK Try.prog 32 [.agg [.i n.pump, .ls 1]] [1] [some (.ro 5 n.pipes.length (Lst eP n.pipes))] (.b (netB n)) []] (by kernel_rfl) v65 ?_
              clear v65
              have h66 : (!(netB n)) = false := by rw [h10] <;> rfl
              refine aw_cond (b := (!(netB n))) rfl (fun h => Bool.noConfusion (h66.symm.trans h)) (fun _ => ?_)
              refine aw_seq ?_
              have v67 : -9223372036854775808 ≤ (((n.pipes.length : Nat) : Int) - 1) ∧ (((n.pipes.length : Nat) : Int) - 1) < 9223372036854775808 := (by first | omega | rfl | assumption)
              have v68 : CallOK Try.prog 52 [.i node, .i 0, .i (((n.pipes.length : Nat) : Int) - 1)] [] [] (.b (inB 0 (((n.pipes.length : Nat) : Int) - 1) node)) [] := (CallFr.to (refIn1_fr node 0 (((n.pipes.length : Nat) : Int) - 1)) [] (by kernel_rfl) (by kernel_rfl) (by kernel_rfl) (by kernel_rfl) (by kernel_rfl) dem_nil)
              refine aw_region [(5, .call [] (.b (inB 0 (((n.pipes.length : Nat) : Int) - 1) node)) [])] [2, 3, 9, 10, 11, 16, 74] [1, 1003, 1009]
                  ⟨124, [1, 2], [(2, .i node), (3, .l (.ref 1003 0)), (9, .l (.ref 1009 0)), (10, .l (.v (.slice none 0 0))), (11, .i 3), (16, .i 0), (74, .b (!(inB 0 (((n.pipes.length : Nat) : Int) - 1) node)))], [(1, some (.ro 5 n.pipes.length (Lst eP n.pipes))), (1003, some (.blk 24 [.i n.pump, .ls 1])), (1009, some (.blk 24 [.i 0, .v (.slice none 0 0)]))]⟩
                  [-9223372036854775808 ≤ (((n.pipes.length : Nat) : Int) - 1) ∧ (((n.pipes.length : Nat) : Int) - 1) < 9223372036854775808, CallOK Try.prog 52 [.i node, .i 0, .i (((n.pipes.length : Nat) : Int) - 1)] [] [] (.b (inB 0 (((n.pipes.length : Nat) : Int) - 1) node)) []] (by kernel_rfl) ⟨v67, v68⟩ ?_
              clear v67 v68
              have h69 : (!(inB 0 (((n.pipes.length : Nat) : Int) - 1) node)) = false := by rw [h11] <;> rfl
              refine aw_cond (b := (!(inB 0 (((n.pipes.length : Nat) : Int) - 1) node))) rfl (fun h => Bool.noConfusion (h69.symm.trans h)) (fun _ => ?_)
              refine aw_seq ?_
              refine aw_region [] [2, 3, 9, 10, 11, 16, 82] [1, 1003, 1009]
                  ⟨124, [1, 2], [(2, .i node), (3, .l (.ref 1003 0)), (9, .l (.ref 1009 0)), (10, .l (.v (.slice none 0 0))), (11, .i 3), (16, .i 0), (82, .b (decide (node = 0)))], [(1, some (.ro 5 n.pipes.length (Lst eP n.pipes))), (1003, some (.blk 24 [.i n.pump, .ls 1])), (1009, some (.blk 24 [.i 0, .v (.slice none 0 0)]))]⟩
                  [] (by kernel_rfl) trivial ?_
              refine aw_cond (b := decide (node = 0)) rfl (fun _ => ?_) (fun h => Bool.noConfusion (h12.symm.trans h))
              refine aw_region [] [2, 3, 9, 10, 11, 16] [1, 1003, 1009]
                  ⟨124, [1, 2], [(2, .i node), (3, .l (.ref 1003 0)), (9, .l (.ref 1009 0)), (10, .l (.v (.slice none 0 0))), (11, .i 3), (16, .i 3)], [(1, some (.ro 5 n.pipes.length (Lst eP n.pipes))), (1003, some (.blk 24 [.i n.pump, .ls 1])), (1009, some (.blk 24 [.i 0, .v (.slice none 0 0)]))]⟩
                  [] (by kernel_rfl) trivial ?_
              refine aw_seq ?_
              refine aw_seq ?_
              refine aw_region [] [2, 3, 9, 10, 11, 16, 86] [1, 1003, 1009]
                  ⟨124, [1, 2], [(2, .i node), (3, .l (.ref 1003 0)), (9, .l (.ref 1009 0)), (10, .l (.v (.slice none 0 0))), (11, .i 3), (16, .i 3), (86, .b (decide ((3 : Int) ≠ (0 : Int))))], [(1, some (.ro 5 n.pipes.length (Lst eP n.pipes))), (1003, some (.blk 24 [.i n.pump, .ls 1])), (1009, some (.blk 24 [.i 0, .v (.slice none 0 0)]))]⟩
                  [] (by kernel_rfl) trivial ?_
              have h70 : (decide ((3 : Int) ≠ (0 : Int))) = true := by decide
              refine aw_cond (b := decide ((3 : Int) ≠ (0 : Int))) rfl (fun _ => ?_) (fun h => Bool.noConfusion (h70.symm.trans h))
              refine aw_seq ?_
              have h71 : (decide ((3 : Int) = (3 : Int))) = true := by decide
              have h72 : (alikeB ⟨0, []⟩ ⟨0, []⟩) = true := by exact hal _
              have h73 : (decide ((0 : Int) = (0 : Int))) = true := by decide
              have v74 : CallOK Try.prog 36 [.agg [.i 0, .v (.slice none 0 0)], .agg [.i 0, .v (.slice none 0 0)]] [] [] (.b (alikeB ⟨0, []⟩ ⟨0, []⟩)) [] := (CallFr.to (alike_nil 0 0) [] (by kernel_rfl) (by kernel_rfl) (by kernel_rfl) (by kernel_rfl) (by kernel_rfl) dem_nil)
              have v75 : CallOK Try.prog 15 [] [] [] (.b true) [] := (CallFr.to (known_fr ) [] (by kernel_rfl) (by kernel_rfl) (by kernel_rfl) (by kernel_rfl) (by kernel_rfl) dem_nil)
              refine aw_region [(3, .dec true), (6, .call [] (.b (alikeB ⟨0, []⟩ ⟨0, []⟩)) []), (8, .dec true), (13, .dec true), (14, .call [] (.b true) [])] [6] []
                  ⟨124, [1, 2], [(6, .b true)], []⟩
                  [decide ((3 : Int) = (3 : Int)) = true, CallOK Try.prog 36 [.agg [.i 0, .v (.slice none 0 0)], .agg [.i 0, .v (.slice none 0 0)]] [] [] (.b (alikeB ⟨0, []⟩ ⟨0, []⟩)) [], alikeB ⟨0, []⟩ ⟨0, []⟩ = true, decide ((0 : Int) = (0 : Int)) = true, CallOK Try.prog 15 [] [] [] (.b true) []] (by kernel_rfl) ⟨h71, v74, h72, h73, v75⟩ ?_
              clear v74 v75
              exact aw_ret (ret_then ⟨.inr rfl, end_ok ⟨124, [1, 2], [(6, .b true)], []⟩
                  (Ent.ren [] rfl rfl (by kernel_rfl) (slots_cons rfl slots_nil) conts_nil (by kernel_rfl)) rfl (by kernel_rfl) wr_nil (by kernel_rfl)⟩)
          ·
            have v76 : CallOK Try.prog 49 [.agg [.i n.pump, .ls 10270], .i node] [10270] [some (.vec 54 5 ((n.pipes).length) (Lst eP n.pipes))] (.tup [.agg [.i n.pump, .ls 10330], .one (.ls 10331), .one (.i 0)]) [(10330, some (.vec 54 5 ((keptT n.pipes node n.pipes.length).length) (Lst eP (keptT n.pipes node n.pipes.length)))), (10331, some (.vec 3 1 ((numT n.pipes node n.pipes.length).length) (Lst eI (numT n.pipes node n.pipes.length))))] := (CallFr.to (Cut_ok n node (by omega) (by omega) (by omega) h10 h11 (of_decide_eq_false h12)) [(1, 10270), (11, 10330), (12, 10331)] (by kernel_rfl) (by kernel_rfl) (by kernel_rfl) (by kernel_rfl) (by kernel_rfl) (dem_cons rfl (le_vec_ro rfl el_rfl) dem_nil))
            refine aw_region [(2, .call [10270] (.tup [.agg [.i n.pump, .ls 10330], .one (.ls 10331), .one (.i 0)]) [(10330, some (.vec 54 5 ((keptT n.pipes node n.pipes.length).length) (Lst eP (keptT n.pipes node n.pipes.length)))), (10331, some (.vec 3 1 ((numT n.pipes node n.pipes.length).length) (Lst eI (numT n.pipes node n.pipes.length))))]), (7, .new 1009)] [2, 3, 4, 7, 8, 9, 10, 11] [1, 2, 1003, 1004, 1007, 1008, 1009, 10270, 10290, 10330, 10331]
                ⟨124, [1, 2], [(2, .i node), (3, .l (.ref 1003 0)), (4, .l (.ref 1004 0)), (7, .l (.ref 1007 0)), (8, .l (.ref 1008 0)), (9, .l (.ref 1009 0)), (10, .ls 10331), (11, .i 0)], [(1, some (.ro 5 n.pipes.length (Lst eP n.pipes))), (2, some (.ro 5 o.pipes.length (Lst eP o.pipes))), (1003, some (.blk 24 [.i n.pump, .ls 1])), (1004, some (.blk 24 [.i o.pump, .ls 2])), (1007, some (.blk 24 [.i n.pump, .ls 10270])), (1008, some (.blk 24 [.i o.pump, .ls 10290])), (1009, some (.blk 24 [.i n.pump, .ls 10330])), (10270, some (.vec 54 5 ((n.pipes).length) (Lst eP n.pipes))), (10290, some (.vec 54 5 ((o.pipes).length) (Lst eP o.pipes))), (10330, some (.vec 54 5 ((keptT n.pipes node n.pipes.length).length) (Lst eP (keptT n.pipes node n.pipes.length)))), (10331, some (.vec 3 1 ((numT n.pipes node n.pipes.length).length) (Lst eI (numT n.pipes node n.pipes.length))))]⟩
                [CallOK Try.prog 49 [.agg [.i n.pump, .ls 10270], .i node] [10270] [some (.vec 54 5 ((n.pipes).length) (Lst eP n.pipes))] (.tup [.agg [.i n.pump, .ls 10330], .one (.ls 10331), .one (.i 0)]) [(10330, some (.vec 54 5 ((keptT n.pipes node n.pipes.length).length) (Lst eP (keptT n.pipes node n.pipes.length)))), (10331, some (.vec 3 1 ((numT n.pipes node n.pipes.length).length) (Lst eI (numT n.pipes node n.pipes.length))))]] (by kernel_rfl) v76 ?_
            clear v76
            refine aw_seq ?_
            rcases Bool.eq_false_or_eq_true (netB o) with h77 | h77
            ·
              have hol := netB_len h77
              rcases Bool.eq_false_or_eq_true (decide (60 < (((n.pipes.length + o.pipes.length : Nat) : Int) - 1))) with h78 | h78
              ·
                have v79 : CallOK Try.prog 50 [.agg [.i n.pump, .ls 10270], .i node, .agg [.i o.pump, .ls 10290]] [10270, 10290] [some (.vec 54 5 ((n.pipes).length) (Lst eP n.pipes)), some (.vec 54 5 ((o.pipes).length) (Lst eP o.pipes))] (.tup [.agg [.i 0, .v (.slice none 0 0)], .one (.i 8)]) [] := (CallFr.to (Graft_full n o node (by omega) (by omega) (by omega) (by omega) h10 h77 h11 h78) [(1, 10270), (2, 10290)] (by kernel_rfl) (by kernel_rfl) (by kernel_rfl) (by kernel_rfl) (by kernel_rfl) (dem_cons rfl (le_vec_ro rfl el_rfl) (dem_cons rfl (le_vec_ro rfl el_rfl) dem_nil)))
                refine aw_region [(3, .call [10270, 10290] (.tup [.agg [.i 0, .v (.slice none 0 0)], .one (.i 8)]) []), (7, .new 1012)] [2, 3, 4, 7, 8, 9, 10, 11, 12, 13] [1, 2, 1003, 1004, 1007, 1008, 1009, 1012, 10270, 10290, 10330, 10331]
                    ⟨124, [1, 2], [(2, .i node), (3, .l (.ref 1003 0)), (4, .l (.ref 1004 0)), (7, .l (.ref 1007 0)), (8, .l (.ref 1008 0)), (9, .l (.ref 1009 0)), (10, .ls 10331), (11, .i 0), (12, .l (.ref 1012 0)), (13, .i 8)], [(1, some (.ro 5 n.pipes.length (Lst eP n.pipes))), (2, some (.ro 5 o.pipes.length (Lst eP o.pipes))), (1003, some (.blk 24 [.i n.pump, .ls 1])), (1004, some (.blk 24 [.i o.pump, .ls 2])), (1007, some (.blk 24 [.i n.pump, .ls 10270])), (1008, some (.blk 24 [.i o.pump, .ls 10290])), (1009, some (.blk 24 [.i n.pump, .ls 10330])), (1012, some (.blk 24 [.i 0, .v (.slice none 0 0)])), (10270, some (.vec 54 5 ((n.pipes).length) (Lst eP n.pipes))), (10290, some (.vec 54 5 ((o.pipes).length) (Lst eP o.pipes))), (10330, some (.vec 54 5 ((keptT n.pipes node n.pipes.length).length) (Lst eP (keptT n.pipes node n.pipes.length)))), (10331, some (.vec 3 1 ((numT n.pipes node n.pipes.length).length) (Lst eI (numT n.pipes node n.pipes.length))))]⟩
                    [CallOK Try.prog 50 [.agg [.i n.pump, .ls 10270], .i node, .agg [.i o.pump, .ls 10290]] [10270, 10290] [some (.vec 54 5 ((n.pipes).length) (Lst eP n.pipes)), some (.vec 54 5 ((o.pipes).length) (Lst eP o.pipes))] (.tup [.agg [.i 0, .v (.slice none 0 0)], .one (.i 8)]) []] (by kernel_rfl) v79 ?_
                clear v79
                refine aw_seq ?_
                refine aw_seq ?_
                have h80 : ((!(alikeB n n))) = false := by rw [hal]; rfl
                have v81 : CallOK Try.prog 36 [.agg [.i n.pump, .ls 10270], .agg [.i n.pump, .ls 1]] [10270, 1] [some (.vec 54 5 ((n.pipes).length) (Lst eP n.pipes)), some (.ro 5 n.pipes.length (Lst eP n.pipes))] (.b (alikeB n n)) [] := (CallFr.to (alike_fr n n (by first | omega | (dsimp only; omega)) (by first | omega | (dsimp only; omega))) [(1, 10270), (2, 1)] (by kernel_rfl) (by kernel_rfl) (by kernel_rfl) (by kernel_rfl) (by kernel_rfl) (dem_cons rfl (le_vec_ro rfl el_rfl) (dem_cons rfl (le_ro rfl el_rfl) dem_nil)))
                have v82 : CallOK Try.prog 36 [.agg [.i o.pump, .ls 10290], .agg [.i o.pump, .ls 2]] [10290, 2] [some (.vec 54 5 ((o.pipes).length) (Lst eP o.pipes)), some (.ro 5 o.pipes.length (Lst eP o.pipes))] (.b (alikeB o o)) [] := (CallFr.to (alike_fr o o (by first | omega | (dsimp only; omega)) (by first | omega | (dsimp only; omega))) [(1, 10290), (2, 2)] (by kernel_rfl) (by kernel_rfl) (by kernel_rfl) (by kernel_rfl) (by kernel_rfl) (dem_cons rfl (le_vec_ro rfl el_rfl) (dem_cons rfl (le_ro rfl el_rfl) dem_nil)))
                refine aw_region [(2, .call [10270, 1] (.b (alikeB n n)) []), (4, .dec false), (7, .call [10290, 2] (.b (alikeB o o)) [])] [2, 3, 4, 9, 10, 11, 12, 13, 53] [1, 2, 1003, 1004, 1009, 1012, 10330, 10331]
                    ⟨124, [1, 2], [(2, .i node), (3, .l (.ref 1003 0)), (4, .l (.ref 1004 0)), (9, .l (.ref 1009 0)), (10, .ls 10331), (11, .i 0), (12, .l (.ref 1012 0)), (13, .i 8), (53, .b (!(alikeB o o)))], [(1, some (.ro 5 n.pipes.length (Lst eP n.pipes))), (2, some (.ro 5 o.pipes.length (Lst eP o.pipes))), (1003, some (.blk 24 [.i n.pump, .ls 1])), (1004, some (.blk 24 [.i o.pump, .ls 2])), (1009, some (.blk 24 [.i n.pump, .ls 10330])), (1012, some (.blk 24 [.i 0, .v (.slice none 0 0)])), (10330, some (.vec 54 5 ((keptT n.pipes node n.pipes.length).length) (Lst eP (keptT n.pipes node n.pipes.length)))), (10331, some (.vec 3 1 ((numT n.pipes node n.pipes.length).length) (Lst eI (numT n.pipes node n.pipes.length))))]⟩
                    [CallOK Try.prog 36 [.agg [.i n.pump, .ls 10270], .agg [.i n.pump, .ls 1]] [10270, 1] [some (.vec 54 5 ((n.pipes).length) (Lst eP n.pipes)), some (.ro 5 n.pipes.length (Lst eP n.pipes))] (.b (alikeB n n)) [], (!(alikeB n n)) = false, CallOK Try.prog 36 [.agg [.i o.pump, .ls 10290], .agg [.i o.pump, .ls 2]] [10290, 2] [some (.vec 54 5 ((o.pipes).length) (Lst eP o.pipes)), some (.ro 5 o.pipes.length (Lst eP o.pipes))] (.b (alikeB o o)) []] (by kernel_rfl) ⟨v81, h80, v82⟩ ?_
                clear v81 v82
                have h83 : ((!(alikeB o o))) = false := by rw [hal]; rfl
                refine aw_cond (b := (!(alikeB o o))) rfl (fun h => Bool.noConfusion (h83.symm.trans h)) (fun _ => ?_)
                refine aw_skip ?_
                refine aw_seq ?_
                have v84 : CallOK Try.prog 51 [.agg [.i n.pump, .ls 1], .i node, .agg [.i o.pump, .ls 2]] [1, 2] [some (.ro 5 n.pipes.length (Lst eP n.pipes)), some (.ro 5 o.pipes.length (Lst eP o.pipes))] (.tup [.agg [.i 0, .v (.slice none 0 0)], .one (.i 8)]) [] := (CallFr.to (refGraft_full n o node (by omega) (by omega) (by omega) (by omega) h10 h77 h11 h78) [(1, 1), (2, 2)] (by kernel_rfl) (by kernel_rfl) (by kernel_rfl) (by kernel_rfl) (by kernel_rfl) (dem_cons rfl (le_ro rfl el_rfl) (dem_cons rfl (le_ro rfl el_rfl) dem_nil)))
                refine aw_region [(3, .call [1, 2] (.tup [.agg [.i 0, .v (.slice none 0 0)], .one (.i 8)]) []), (7, .new 1014)] [2, 3, 9, 10, 11, 12, 13, 14, 15] [1, 1003, 1009, 1012, 1014, 10330, 10331]
                    ⟨124, [1, 2], [(2, .i node), (3, .l (.ref 1003 0)), (9, .l (.ref 1009 0)), (10, .ls 10331), (11, .i 0), (12, .l (.ref 1012 0)), (13, .i 8), (14, .l (.ref 1014 0)), (15, .i 8)], [(1, some (.ro 5 n.pipes.length (Lst eP n.pipes))), (1003, some (.blk 24 [.i n.pump, .ls 1])), (1009, some (.blk 24 [.i n.pump, .ls 10330])), (1012, some (.blk 24 [.i 0, .v (.slice none 0 0)])), (1014, some (.blk 24 [.i 0, .v (.slice none 0 0)])), (10330, some (.vec 54 5 ((keptT n.pipes node n.pipes.length).length) (Lst eP (keptT n.pipes node n.pipes.length)))), (10331, some (.vec 3 1 ((numT n.pipes node n.pipes.length).length) (Lst eI (numT n.pipes node n.pipes.length))))]⟩
                    [CallOK Try.prog 51 [.agg [.i n.pump, .ls 1], .i node, .agg [.i o.pump, .ls 2]] [1, 2] [some (.ro 5 n.pipes.length (Lst eP n.pipes)), some (.ro 5 o.pipes.length (Lst eP o.pipes))] (.tup [.agg [.i 0, .v (.slice none 0 0)], .one (.i 8)]) []] (by kernel_rfl) v84 ?_
                clear v84
                refine aw_seq ?_
                refine aw_seq ?_
                have h85 : (decide ((8 : Int) ≠ (8 : Int))) = false := by decide
                have v86 : CallOK Try.prog 36 [.agg [.i 0, .v (.slice none 0 0)], .agg [.i 0, .v (.slice none 0 0)]] [] [] (.b (alikeB ⟨0, []⟩ ⟨0, []⟩)) [] := (CallFr.to (alike_nil 0 0) [] (by kernel_rfl) (by kernel_rfl) (by kernel_rfl) (by kernel_rfl) (by kernel_rfl) dem_nil)
                refine aw_region [(3, .dec false), (6, .call [] (.b (alikeB ⟨0, []⟩ ⟨0, []⟩)) [])] [2, 3, 9, 10, 11, 69] [1, 1003, 1009, 10330, 10331]
                    ⟨124, [1, 2], [(2, .i node), (3, .l (.ref 1003 0)), (9, .l (.ref 1009 0)), (10, .ls 10331), (11, .i 0), (69, .b (!(alikeB ⟨0, []⟩ ⟨0, []⟩)))], [(1, some (.ro 5 n.pipes.length (Lst eP n.pipes))), (1003, some (.blk 24 [.i n.pump, .ls 1])), (1009, some (.blk 24 [.i n.pump, .ls 10330])), (10330, some (.vec 54 5 ((keptT n.pipes node n.pipes.length).length) (Lst eP (keptT n.pipes node n.pipes.length)))), (10331, some (.vec 3 1 ((numT n.pipes node n.pipes.length).length) (Lst eI (numT n.pipes node n.pipes.length))))]⟩
                    [decide ((8 : Int) ≠ (8 : Int)) = false, CallOK Try.prog 36 [.agg [.i 0, .v (.slice none 0 0)], .agg [.i 0, .v (.slice none 0 0)]] [] [] (.b (alikeB ⟨0, []⟩ ⟨0, []⟩)) []] (by kernel_rfl) ⟨h85, v86⟩ ?_
                clear v86
                have h87 : ((!(alikeB ⟨0, []⟩ ⟨0, []⟩))) = false := by rw [hal]; rfl
                refine aw_cond (b := (!(alikeB ⟨0, []⟩ ⟨0, []⟩))) rfl (fun h => Bool.noConfusion (h87.symm.trans h)) (fun _ => ?_)
                refine aw_skip ?_
                refine aw_seq ?_
                refine aw_region [] [2, 3, 9, 10, 11, 16] [1, 1003, 1009, 10330, 10331]
                    ⟨124, [1, 2], [(2, .i node), (3, .l (.ref 1003 0)), (9, .l (.ref 1009 0)), (10, .ls 10331), (11, .i 0), (16, .i 0)], [(1, some (.ro 5 n.pipes.length (Lst eP n.pipes))), (1003, some (.blk 24 [.i n.pump, .ls 1])), (1009, some (.blk 24 [.i n.pump, .ls 10330])), (10330, some (.vec 54 5 ((keptT n.pipes node n.pipes.length).length) (Lst eP (keptT n.pipes node n.pipes.length)))), (10331, some (.vec 3 1 ((numT n.pipes node n.pipes.length).length) (Lst eI (numT n.pipes node n.pipes.length))))]⟩
                    [] (by kernel_rfl) trivial ?_
                refine aw_seq ?_
                refine aw_block ?_
                refine aw_seq ?_
                have v88 : CallOK Try.prog 32 [.agg [.i n.pump, .ls 1]] [1] [some (.ro 5 n.pipes.length (Lst eP n.pipes))] (.b (netB n)) [] := (CallFr.to (refNet_fr n (by omega)) [(1, 1)] (by kernel_rfl) (by kernel_rfl) (by kernel_rfl) (by kernel_rfl) (by kernel_rfl) (dem_cons rfl (le_ro rfl el_rfl) dem_nil))
                refine aw_region [(1, .call [1] (.b (netB n)) [])] [2, 3, 9, 10, 11, 16, 70] [1, 1003, 1009, 10330, 10331]
                    ⟨124, [1, 2], [(2, .i node), (3, .l (.ref 1003 0)), (9, .l (.ref 1009 0)), (10, .ls 10331), (11, .i 0), (16, .i 0), (70, .b (!(netB n)))], [(1, some (.ro 5 n.pipes.length (Lst eP n.pipes))), (1003, some (.blk 24 [.i n.pump, .ls 1])), (1009, some (.blk 24 [.i n.pump, .ls 10330])), (10330, some (.vec 54 5 ((keptT n.pipes node n.pipes.length).length) (Lst eP (keptT n.pipes node n.pipes.length)))), (10331, some (.vec 3 1 ((numT n.pipes node n.pipes.length).length) (Lst eI (numT n.pipes node n.pipes.length))))]⟩
                    [CallOK Try.prog 32 [.agg [.i n.pump, .ls 1]] [1] [some (.ro 5 n.pipes.length (Lst eP n.pipes))] (.b (netB n)) []] (by kernel_rfl) v88 ?_
                clear v88
                have h89 : (!(netB n)) = false := by rw [h10] <;> rfl
                refine aw_cond (b := (!(netB n))) rfl (fun h => Bool.noConfusion (h89.symm.trans h)) (fun _ => ?_)
                refine aw_seq ?_
                have v90 : -9223372036854775808 ≤ (((n.pipes.length : Nat) : Int) - 1) ∧ (((n.pipes.length : Nat) : Int) - 1) < 9223372036854775808 := (by first | omega | rfl | assumption)
                have v91 : CallOK Try.prog 52 [.i node, .i 0, .i (((n.pipes.length : Nat) : Int) - 1)] [] [] (.b (inB 0 (((n.pipes.length : Nat) : Int) - 1) node)) [] := (CallFr.to (refIn1_fr node 0 (((n.pipes.length : Nat) : Int) - 1)) [] (by kernel_rfl) (by kernel_rfl) (by kernel_rfl) (by kernel_rfl) (by kernel_rfl) dem_nil)
                refine aw_region [(5, .call [] (.b (inB 0 (((n.pipes.length : Nat) : Int) - 1) node)) [])] [2, 3, 9, 10, 11, 16, 74] [1, 1003, 1009, 10330, 10331]
                    ⟨124, [1, 2], [(2, .i node), (3, .l (.ref 1003 0)), (9, .l (.ref 1009 0)), (10, .ls 10331), (11, .i 0), (16, .i 0), (74, .b (!(inB 0 (((n.pipes.length : Nat) : Int) - 1) node)))], [(1, some (.ro 5 n.pipes.length (Lst eP n.pipes))), (1003, some (.blk 24 [.i n.pump, .ls 1])), (1009, some (.blk 24 [.i n.pump, .ls 10330])), (10330, some (.vec 54 5 ((keptT n.pipes node n.pipes.length).length) (Lst eP (keptT n.pipes node n.pipes.length)))), (10331, some (.vec 3 1 ((numT n.pipes node n.pipes.length).length) (Lst eI (numT n.pipes node n.pipes.length))))]⟩
                    [-9223372036854775808 ≤ (((n.pipes.length : Nat) : Int) - 1) ∧ (((n.pipes.length : Nat) : Int) - 1) < 9223372036854775808, CallOK Try.prog 52 [.i node, .i 0, .i (((n.pipes.length : Nat) : Int) - 1)] [] [] (.b (inB 0 (((n.pipes.length : Nat) : Int) - 1) node)) []] (by kernel_rfl) ⟨v90, v91⟩ ?_
                clear v90 v91
                have h92 : (!(inB 0 (((n.pipes.length : Nat) : Int) - 1) node)) = false := by rw [h11] <;> rfl
                refine aw_cond (b := (!(inB 0 (((n.pipes.length : Nat) : Int) - 1) node))) rfl (fun h => Bool.noConfusion (h92.symm.trans h)) (fun _ => ?_)
                refine aw_seq ?_
                refine aw_region [] [2, 3, 9, 10, 11, 16, 82] [1, 1003, 1009, 10330, 10331]
                    ⟨124, [1, 2], [(2, .i node), (3, .l (.ref 1003 0)), (9, .l (.ref 1009 0)), (10, .ls 10331), (11, .i 0), (16, .i 0), (82, .b (decide (node = 0)))], [(1, some (.ro 5 n.pipes.length (Lst eP n.pipes))), (1003, some (.blk 24 [.i n.pump, .ls 1])), (1009, some (.blk 24 [.i n.pump, .ls 10330])), (10330, some (.vec 54 5 ((keptT n.pipes node n.pipes.length).length) (Lst eP (keptT n.pipes node n.pipes.length)))), (10331, some (.vec 3 1 ((numT n.pipes node n.pipes.length).length) (Lst eI (numT n.pipes node n.pipes.length))))]⟩
                    [] (by kernel_rfl) trivial ?_
                refine aw_cond (b := decide (node = 0)) rfl (fun h => Bool.noConfusion (h12.symm.trans h)) (fun _ => ?_)
                refine aw_skip ?_
                refine aw_seq ?_
                refine aw_seq ?_
                refine aw_region [] [2, 3, 9, 10, 11, 16, 86] [1, 1003, 1009, 10330, 10331]
                    ⟨124, [1, 2], [(2, .i node), (3, .l (.ref 1003 0)), (9, .l (.ref 1009 0)), (10, .ls 10331), (11, .i 0), (16, .i 0), (86, .b (decide ((0 : Int) ≠ (0 : Int))))], [(1, some (.ro 5 n.pipes.length (Lst eP n.pipes))), (1003, some (.blk 24 [.i n.pump, .ls 1])), (1009, some (.blk 24 [.i n.pump, .ls 10330])), (10330, some (.vec 54 5 ((keptT n.pipes node n.pipes.length).length) (Lst eP (keptT n.pipes node n.pipes.length)))), (10331, some (.vec 3 1 ((numT n.pipes node n.pipes.length).length) (Lst eI (numT n.pipes node n.pipes.length))))]⟩
                    [] (by kernel_rfl) trivial ?_
                have h93 : (decide ((0 : Int) ≠ (0 : Int))) = false := by decide
                refine aw_cond (b := decide ((0 : Int) ≠ (0 : Int))) rfl (fun h => Bool.noConfusion (h93.symm.trans h)) (fun _ => ?_)
                refine aw_skip ?_
                refine aw_seq ?_
                have v94 : CallOK Try.prog 53 [.agg [.i n.pump, .ls 1], .i node] [1] [some (.ro 5 n.pipes.length (Lst eP n.pipes))] (.tup [.agg [.i n.pump, .ls 11060], .one (.ls 11061)]) [(11060, some (.vec 54 5 ((keptT n.pipes node n.pipes.length).length) (Lst eP (keptT n.pipes node n.pipes.length)))), (11061, some (.vec 3 1 ((numT n.pipes node n.pipes.length).length) (Lst eI (numT n.pipes node n.pipes.length))))] := (CallFr.to (refCut_fr n node h10) [(1, 1), (11, 11060), (12, 11061)] (by kernel_rfl) (by kernel_rfl) (by kernel_rfl) (by kernel_rfl) (by kernel_rfl) (dem_cons rfl (le_ro rfl el_rfl) dem_nil))
                refine aw_region [(2, .call [1] (.tup [.agg [.i n.pump, .ls 11060], .one (.ls 11061)]) [(11060, some (.vec 54 5 ((keptT n.pipes node n.pipes.length).length) (Lst eP (keptT n.pipes node n.pipes.length)))), (11061, some (.vec 3 1 ((numT n.pipes node n.pipes.length).length) (Lst eI (numT n.pipes node n.pipes.length))))]), (6, .new 1017)] [9, 10, 11, 17, 18] [1009, 1017, 10330, 10331, 11060, 11061]
                    ⟨124, [1, 2], [(9, .l (.ref 1009 0)), (10, .ls 10331), (11, .i 0), (17, .l (.ref 1017 0)), (18, .ls 11061)], [(1009, some (.blk 24 [.i n.pump, .ls 10330])), (1017, some (.blk 24 [.i n.pump, .ls 11060])), (10330, some (.vec 54 5 ((keptT n.pipes node n.pipes.length).length) (Lst eP (keptT n.pipes node n.pipes.length)))), (10331, some (.vec 3 1 ((numT n.pipes node n.pipes.length).length) (Lst eI (numT n.pipes node n.pipes.length)))), (11060, some (.vec 54 5 ((keptT n.pipes node n.pipes.length).length) (Lst eP (keptT n.pipes node n.pipes.length)))), (11061, some (.vec 3 1 ((numT n.pipes node n.pipes.length).length) (Lst eI (numT n.pipes node n.pipes.length))))]⟩
                    [CallOK Try.prog 53 [.agg [.i n.pump, .ls 1], .i node] [1] [some (.ro 5 n.pipes.length (Lst eP n.pipes))] (.tup [.agg [.i n.pump, .ls 11060], .one (.ls 11061)]) [(11060, some (.vec 54 5 ((keptT n.pipes node n.pipes.length).length) (Lst eP (keptT n.pipes node n.pipes.length)))), (11061, some (.vec 3 1 ((numT n.pipes node n.pipes.length).length) (Lst eI (numT n.pipes node n.pipes.length))))]] (by kernel_rfl) v94 ?_
                clear v94
                refine aw_seq ?_
                have h95 : (decide ((0 : Int) = (0 : Int))) = true := by decide
                have h96 : (alikeB (⟨n.pump, (keptT n.pipes node n.pipes.length)⟩) (⟨n.pump, (keptT n.pipes node n.pipes.length)⟩)) = true := by exact hal _
                have h97 : (decide ((numT n.pipes node n.pipes.length) = (numT n.pipes node n.pipes.length))) = true := by simp
                have v98 : CallOK Try.prog 36 [.agg [.i n.pump, .ls 10330], .agg [.i n.pump, .ls 11060]] [10330, 11060] [some (.vec 54 5 ((keptT n.pipes node n.pipes.length).length) (Lst eP (keptT n.pipes node n.pipes.length))), some (.vec 54 5 ((keptT n.pipes node n.pipes.length).length) (Lst eP (keptT n.pipes node n.pipes.length)))] (.b (alikeB (⟨n.pump, (keptT n.pipes node n.pipes.length)⟩) (⟨n.pump, (keptT n.pipes node n.pipes.length)⟩))) [] := (CallFr.to (alike_fr (⟨n.pump, (keptT n.pipes node n.pipes.length)⟩) (⟨n.pump, (keptT n.pipes node n.pipes.length)⟩) (by first | omega | (dsimp only; omega)) (by first | omega | (dsimp only; omega))) [(1, 10330), (2, 11060)] (by kernel_rfl) (by kernel_rfl) (by kernel_rfl) (by kernel_rfl) (by kernel_rfl) (dem_cons rfl (le_vec_ro rfl el_rfl) (dem_cons rfl (le_vec_ro rfl el_rfl) dem_nil)))
                have v99 : CallOK Try.prog 20 [.ls 10331, .ls 11061] [10331, 11061] [some (.vec 3 1 ((numT n.pipes node n.pipes.length).length) (Lst eI (numT n.pipes node n.pipes.length))), some (.vec 3 1 ((numT n.pipes node n.pipes.length).length) (Lst eI (numT n.pipes node n.pipes.length)))] (.b (decide ((numT n.pipes node n.pipes.length) = (numT n.pipes node n.pipes.length)))) [] := (CallFr.to (equal_fr (numT n.pipes node n.pipes.length) (numT n.pipes node n.pipes.length) (by omega) (by omega)) [(1, 10331), (2, 11061)] (by kernel_rfl) (by kernel_rfl) (by kernel_rfl) (by kernel_rfl) (by kernel_rfl) (dem_cons rfl (le_vec_ro rfl el_rfl) (dem_cons rfl (le_vec_ro rfl el_rfl) dem_nil)))
                have v100 : CallOK Try.prog 15 [] [] [] (.b true) [] := (CallFr.to (known_fr ) [] (by kernel_rfl) (by kernel_rfl) (by kernel_rfl) (by kernel_rfl) (by kernel_rfl) dem_nil)
                refine aw_region [(2, .dec true), (5, .call [10330, 11060] (.b (alikeB (⟨n.pump, (keptT n.pipes node n.pipes.length)⟩) (⟨n.pump, (keptT n.pipes node n.pipes.length)⟩))) []), (7, .dec true), (10, .call [10331, 11061] (.b (decide ((numT n.pipes node n.pipes.length) = (numT n.pipes node n.pipes.length)))) []), (12, .dec true), (13, .call [] (.b true) [])] [6] []
                    ⟨124, [1, 2], [(6, .b true)], []⟩
                    [decide ((0 : Int) = (0 : Int)) = true, CallOK Try.prog 36 [.agg [.i n.pump, .ls 10330], .agg [.i n.pump, .ls 11060]] [10330, 11060] [some (.vec 54 5 ((keptT n.pipes node n.pipes.length).length) (Lst eP (keptT n.pipes node n.pipes.length))), some (.vec 54 5 ((keptT n.pipes node n.pipes.length).length) (Lst eP (keptT n.pipes node n.pipes.length)))] (.b (alikeB (⟨n.pump, (keptT n.pipes node n.pipes.length)⟩) (⟨n.pump, (keptT n.pipes node n.pipes.length)⟩))) [], alikeB (⟨n.pump, (keptT n.pipes node n.pipes.length)⟩) (⟨n.pump, (keptT n.pipes node n.pipes.length)⟩) = true, CallOK Try.prog 20 [.ls 10331, .ls 11061] [10331, 11061] [some (.vec 3 1 ((numT n.pipes node n.pipes.length).length) (Lst eI (numT n.pipes node n.pipes.length))), some (.vec 3 1 ((numT n.pipes node n.pipes.length).length) (Lst eI (numT n.pipes node n.pipes.length)))] (.b (decide ((numT n.pipes node n.pipes.length) = (numT n.pipes node n.pipes.length)))) [], decide ((numT n.pipes node n.pipes.length) = (numT n.pipes node n.pipes.length)) = true, CallOK Try.prog 15 [] [] [] (.b true) []] (by kernel_rfl) ⟨h95, v98, h96, v99, h97, v100⟩ ?_
                clear v98 v99 v100
                exact aw_ret ⟨.inr rfl, end_ok ⟨124, [1, 2], [(6, .b true)], []⟩
                    (Ent.ren [] rfl rfl (by kernel_rfl) (slots_cons rfl slots_nil) conts_nil (by kernel_rfl)) rfl (by kernel_rfl) wr_nil (by kernel_rfl)⟩
              ·
                have v101 : CallOK Try.prog 50 [.agg [.i n.pump, .ls 10270], .i node, .agg [.i o.pump, .ls 10290]] [10270, 10290] [some (.vec 54 5 ((n.pipes).length) (Lst eP n.pipes)), some (.vec 54 5 ((o.pipes).length) (Lst eP o.pipes))] (.tup [.agg [.i n.pump, .ls 10410], .one (.i 0)]) [(10410, some (.vec 54 5 (n.pipes.length + (o.pipes.length - 1)) (Lst eP (graftT n.pipes o.pipes node (o.pipes.length - 1)))))] := (CallFr.to (Graft_ok n o node (by omega) (by omega) (by omega) (by omega) h10 h77 h11 h78) [(1, 10270), (2, 10290), (11, 10410)] (by kernel_rfl) (by kernel_rfl) (by kernel_rfl) (by kernel_rfl) (by kernel_rfl) (dem_cons rfl (le_vec_ro rfl el_rfl) (dem_cons rfl (le_vec_ro rfl el_rfl) dem_nil)))
                refine aw_region [(3, .call [10270, 10290] (.tup [.agg [.i n.pump, .ls 10410], .one (.i 0)]) [(10410, some (.vec 54 5 (n.pipes.length + (o.pipes.length - 1)) (Lst eP (graftT n.pipes o.pipes node (o.pipes.length - 1)))))]), (7, .new 1012)] [2, 3, 4, 7, 8, 9, 10, 11, 12, 13] [1, 2, 1003, 1004, 1007, 1008, 1009, 1012, 10270, 10290, 10330, 10331, 10410]
                    ⟨124, [1, 2], [(2, .i node), (3, .l (.ref 1003 0)), (4, .l (.ref 1004 0)), (7, .l (.ref 1007 0)), (8, .l (.ref 1008 0)), (9, .l (.ref 1009 0)), (10, .ls 10331), (11, .i 0), (12, .l (.ref 1012 0)), (13, .i 0)], [(1, some (.ro 5 n.pipes.length (Lst eP n.pipes))), (2, some (.ro 5 o.pipes.length (Lst eP o.pipes))), (1003, some (.blk 24 [.i n.pump, .ls 1])), (1004, some (.blk 24 [.i o.pump, .ls 2])), (1007, some (.blk 24 [.i n.pump, .ls 10270])), (1008, some (.blk 24 [.i o.pump, .ls 10290])), (1009, some (.blk 24 [.i n.pump, .ls 10330])), (1012, some (.blk 24 [.i n.pump, .ls 10410])), (10270, some (.vec 54 5 ((n.pipes).length) (Lst eP n.pipes))), (10290, some (.vec 54 5 ((o.pipes).length) (Lst eP o.pipes))), (10330, some (.vec 54 5 ((keptT n.pipes node n.pipes.length).length) (Lst eP (keptT n.pipes node n.pipes.length)))), (10331, some (.vec 3 1 ((numT n.pipes node n.pipes.length).length) (Lst eI (numT n.pipes node n.pipes.length)))), (10410, some (.vec 54 5 (n.pipes.length + (o.pipes.length - 1)) (Lst eP (graftT n.pipes o.pipes node (o.pipes.length - 1)))))]⟩
                    [CallOK Try.prog 50 [.agg [.i n.pump, .ls 10270], .i node, .agg [.i o.pump, .ls 10290]] [10270, 10290] [some (.vec 54 5 ((n.pipes).length) (Lst eP n.pipes)), some (.vec 54 5 ((o.pipes).length) (Lst eP o.pipes))] (.tup [.agg [.i n.pump, .ls 10410], .one (.i 0)]) [(10410, some (.vec 54 5 (n.pipes.length + (o.pipes.length - 1)) (Lst eP (graftT n.pipes o.pipes node (o.pipes.length - 1)))))]] (by kernel_rfl) v101 ?_
                clear v101
                refine aw_seq ?_
                refine aw_seq ?_
                have h102 : ((!(alikeB n n))) = false := by rw [hal]; rfl
                have v103 : CallOK Try.prog 36 [.agg [.i n.pump, .ls 10270], .agg [.i n.pump, .ls 1]] [10270, 1] [some (.vec 54 5 ((n.pipes).length) (Lst eP n.pipes)), some (.ro 5 n.pipes.length (Lst eP n.pipes))] (.b (alikeB n n)) [] := (CallFr.to (alike_fr n n (by first | omega | (dsimp only; omega)) (by first | omega | (dsimp only; omega))) [(1, 10270), (2, 1)] (by kernel_rfl) (by kernel_rfl) (by kernel_rfl) (by kernel_rfl) (by kernel_rfl) (dem_cons rfl (le_vec_ro rfl el_rfl) (dem_cons rfl (le_ro rfl el_rfl) dem_nil)))
                have v104 : CallOK Try.prog 36 [.agg [.i o.pump, .ls 10290], .agg [.i o.pump, .ls 2]] [10290, 2] [some (.vec 54 5 ((o.pipes).length) (Lst eP o.pipes)), some (.ro 5 o.pipes.length (Lst eP o.pipes))] (.b (alikeB o o)) [] := (CallFr.to (alike_fr o o (by first | omega | (dsimp only; omega)) (by first | omega | (dsimp only; omega))) [(1, 10290), (2, 2)] (by kernel_rfl) (by kernel_rfl) (by kernel_rfl) (by kernel_rfl) (by kernel_rfl) (dem_cons rfl (le_vec_ro rfl el_rfl) (dem_cons rfl (le_ro rfl el_rfl) dem_nil)))
                refine aw_region [(2, .call [10270, 1] (.b (alikeB n n)) []), (4, .dec false), (7, .call [10290, 2] (.b (alikeB o o)) [])] [2, 3, 4, 9, 10, 11, 12, 13, 53] [1, 2, 1003, 1004, 1009, 1012, 10330, 10331, 10410]
                    ⟨124, [1, 2], [(2, .i node), (3, .l (.ref 1003 0)), (4, .l (.ref 1004 0)), (9, .l (.ref 1009 0)), (10, .ls 10331), (11, .i 0), (12, .l (.ref 1012 0)), (13, .i 0), (53, .b (!(alikeB o o)))], [(1, some (.ro 5 n.pipes.length (Lst eP n.pipes))), (2, some (.ro 5 o.pipes.length (Lst eP o.pipes))), (1003, some (.blk 24 [.i n.pump, .ls 1])), (1004, some (.blk 24 [.i o.pump, .ls 2])), (1009, some (.blk 24 [.i n.pump, .ls 10330])), (1012, some (.blk 24 [.i n.pump, .ls 10410])), (10330, some (.vec 54 5 ((keptT n.pipes node n.pipes.length).length) (Lst eP (keptT n.pipes node n.pipes.length)))), (10331, some (.vec 3 1 ((numT n.pipes node n.pipes.length).length) (Lst eI (numT n.pipes node n.pipes.length)))), (10410, some (.vec 54 5 (n.pipes.length + (o.pipes.length - 1)) (Lst eP (graftT n.pipes o.pipes node (o.pipes.length - 1)))))]⟩
                    [CallOK Try.prog 36 [.agg [.i n.pump, .ls 10270], .agg [.i n.pump, .ls 1]] [10270, 1] [some (.vec 54 5 ((n.pipes).length) (Lst eP n.pipes)), some (.ro 5 n.pipes.length (Lst eP n.pipes))] (.b (alikeB n n)) [], (!(alikeB n n)) = false, CallOK Try.prog 36 [.agg [.i o.pump, .ls 10290], .agg [.i o.pump, .ls 2]] [10290, 2] [some (.vec 54 5 ((o.pipes).length) (Lst eP o.pipes)), some (.ro 5 o.pipes.length (Lst eP o.pipes))] (.b (alikeB o o)) []] (by kernel_rfl) ⟨v103, h102, v104⟩ ?_
                clear v103 v104
                have h105 : ((!(alikeB o o))) = false := by rw [hal]; rfl
                refine aw_cond (b := (!(alikeB o o))) rfl (fun h => Bool.noConfusion (h105.symm.trans h)) (fun _ => ?_)
                refine aw_skip ?_
                refine aw_seq ?_
                have v106 : CallOK Try.prog 51 [.agg [.i n.pump, .ls 1], .i node, .agg [.i o.pump, .ls 2]] [1, 2] [some (.ro 5 n.pipes.length (Lst eP n.pipes)), some (.ro 5 o.pipes.length (Lst eP o.pipes))] (.tup [.agg [.i n.pump, .ls 10580], .one (.i 0)]) [(10580, some (.vec 54 5 (n.pipes.length + (o.pipes.length - 1)) (Lst eP (graftT n.pipes o.pipes node (o.pipes.length - 1)))))] := (CallFr.to (refGraft_ok n o node (by omega) (by omega) (by omega) (by omega) h10 h77 h11 h78) [(1, 1), (2, 2), (11, 10580)] (by kernel_rfl) (by kernel_rfl) (by kernel_rfl) (by kernel_rfl) (by kernel_rfl) (dem_cons rfl (le_ro rfl el_rfl) (dem_cons rfl (le_ro rfl el_rfl) dem_nil)))
                refine aw_region [(3, .call [1, 2] (.tup [.agg [.i n.pump, .ls 10580], .one (.i 0)]) [(10580, some (.vec 54 5 (n.pipes.length + (o.pipes.length - 1)) (Lst eP (graftT n.pipes o.pipes node (o.pipes.length - 1)))))]), (7, .new 1014)] [2, 3, 9, 10, 11, 12, 13, 14, 15] [1, 1003, 1009, 1012, 1014, 10330, 10331, 10410, 10580]
                    ⟨124, [1, 2], [(2, .i node), (3, .l (.ref 1003 0)), (9, .l (.ref 1009 0)), (10, .ls 10331), (11, .i 0), (12, .l (.ref 1012 0)), (13, .i 0), (14, .l (.ref 1014 0)), (15, .i 0)], [(1, some (.ro 5 n.pipes.length (Lst eP n.pipes))), (1003, some (.blk 24 [.i n.pump, .ls 1])), (1009, some (.blk 24 [.i n.pump, .ls 10330])), (1012, some (.blk 24 [.i n.pump, .ls 10410])), (1014, some (.blk 24 [.i n.pump, .ls 10580])), (10330, some (.vec 54 5 ((keptT n.pipes node n.pipes.length).length) (Lst eP (keptT n.pipes node n.pipes.length)))), (10331, some (.vec 3 1 ((numT n.pipes node n.pipes.length).length) (Lst eI (numT n.pipes node n.pipes.length)))), (10410, some (.vec 54 5 (n.pipes.length + (o.pipes.length - 1)) (Lst eP (graftT n.pipes o.pipes node (o.pipes.length - 1))))), (10580, some (.vec 54 5 (n.pipes.length + (o.pipes.length - 1)) (Lst eP (graftT n.pipes o.pipes node (o.pipes.length - 1)))))]⟩
                    [CallOK Try.prog 51 [.agg [.i n.pump, .ls 1], .i node, .agg [.i o.pump, .ls 2]] [1, 2] [some (.ro 5 n.pipes.length (Lst eP n.pipes)), some (.ro 5 o.pipes.length (Lst eP o.pipes))] (.tup [.agg [.i n.pump, .ls 10580], .one (.i 0)]) [(10580, some (.vec 54 5 (n.pipes.length + (o.pipes.length - 1)) (Lst eP (graftT n.pipes o.pipes node (o.pipes.length - 1)))))]] (by kernel_rfl) v106 ?_
                clear v106
                refine aw_seq ?_
                refine aw_seq ?_
                have h107 : (decide ((0 : Int) ≠ (0 : Int))) = false := by decide
                have v108 : CallOK Try.prog 36 [.agg [.i n.pump, .ls 10410], .agg [.i n.pump, .ls 10580]] [10410, 10580] [some (.vec 54 5 (n.pipes.length + (o.pipes.length - 1)) (Lst eP (graftT n.pipes o.pipes node (o.pipes.length - 1)))), some (.vec 54 5 (n.pipes.length + (o.pipes.length - 1)) (Lst eP (graftT n.pipes o.pipes node (o.pipes.length - 1))))] (.b (alikeB (⟨n.pump, (graftT n.pipes o.pipes node (o.pipes.length - 1))⟩) (⟨n.pump, (graftT n.pipes o.pipes node (o.pipes.length - 1))⟩))) [] := (CallFr.to (alike_fr (⟨n.pump, (graftT n.pipes o.pipes node (o.pipes.length - 1))⟩) (⟨n.pump, (graftT n.pipes o.pipes node (o.pipes.length - 1))⟩) (by first | omega | (dsimp only; omega)) (by first | omega | (dsimp only; omega))) [(1, 10410), (2, 10580)] (by kernel_rfl) (by kernel_rfl) (by kernel_rfl) (by kernel_rfl) (by kernel_rfl) (dem_cons rfl (le_vec_ro (by first | rfl | omega | (dsimp only; omega)) el_rfl) (dem_cons rfl (le_vec_ro (by first | rfl | omega | (dsimp only; omega)) el_rfl) dem_nil)))
                refine aw_region [(3, .dec false), (6, .call [10410, 10580] (.b (alikeB (⟨n.pump, (graftT n.pipes o.pipes node (o.pipes.length - 1))⟩) (⟨n.pump, (graftT n.pipes o.pipes node (o.pipes.length - 1))⟩))) [])] [2, 3, 9, 10, 11, 69] [1, 1003, 1009, 10330, 10331]
                    ⟨124, [1, 2], [(2, .i node), (3, .l (.ref 1003 0)), (9, .l (.ref 1009 0)), (10, .ls 10331), (11, .i 0), (69, .b (!(alikeB (⟨n.pump, (graftT n.pipes o.pipes node (o.pipes.length - 1))⟩) (⟨n.pump, (graftT n.pipes o.pipes node (o.pipes.length - 1))⟩))))], [(1, some (.ro 5 n.pipes.length (Lst eP n.pipes))), (1003, some (.blk 24 [.i n.pump, .ls 1])), (1009, some (.blk 24 [.i n.pump, .ls 10330])), (10330, some (.vec 54 5 ((keptT n.pipes node n.pipes.length).length) (Lst eP (keptT n.pipes node n.pipes.length)))), (10331, some (.vec 3 1 ((numT n.pipes node n.pipes.length).length) (Lst eI (numT n.pipes node n.pipes.length))))]⟩
                    [decide ((0 : Int) ≠ (0 : Int)) = false, CallOK Try.prog 36 [.agg [.i n.pump, .ls 10410], .agg [.i n.pump, .ls 10580]] [10410, 10580] [some (.vec 54 5 (n.pipes.length + (o.pipes.length - 1)) (Lst eP (graftT n.pipes o.pipes node (o.pipes.length - 1)))), some (.vec 54 5 (n.pipes.length + (o.pipes.length - 1)) (Lst eP (graftT n.pipes o.pipes node (o.pipes.length - 1))))] (.b (alikeB (⟨n.pump, (graftT n.pipes o.pipes node (o.pipes.length - 1))⟩) (⟨n.pump, (graftT n.pipes o.pipes node (o.pipes.length - 1))⟩))) []] (by kernel_rfl) ⟨h107, v108⟩ ?_
                clear v108
                have h109 : ((!(alikeB (⟨n.pump, (graftT n.pipes o.pipes node (o.pipes.length - 1))⟩) (⟨n.pump, (graftT n.pipes o.pipes node (o.pipes.length - 1))⟩)))) = false := by rw [hal]; rfl
                refine aw_cond (b := (!(alikeB (⟨n.pump, (graftT n.pipes o.pipes node (o.pipes.length - 1))⟩) (⟨n.pump, (graftT n.pipes o.pipes node (o.pipes.length - 1))⟩)))) rfl (fun h => Bool.noConfusion (h109.symm.trans h)) (fun _ => ?_)
                refine aw_skip ?_
                refine aw_seq ?_
                refine aw_region [] [2, 3, 9, 10, 11, 16] [1, 1003, 1009, 10330, 10331]
                    ⟨124, [1, 2], [(2, .i node), (3, .l (.ref 1003 0)), (9, .l (.ref 1009 0)), (10, .ls 10331), (11, .i 0), (16, .i 0)], [(1, some (.ro 5 n.pipes.length (Lst eP n.pipes))), (1003, some (.blk 24 [.i n.pump, .ls 1])), (1009, some (.blk 24 [.i n.pump, .ls 10330])), (10330, some (.vec 54 5 ((keptT n.pipes node n.pipes.length).length) (Lst eP (keptT n.pipes node n.pipes.length)))), (10331, some (.vec 3 1 ((numT n.pipes node n.pipes.length).length) (Lst eI (numT n.pipes node n.pipes.length))))]⟩
                    [] (by kernel_rfl) trivial ?_
                refine aw_seq ?_
                refine aw_block ?_
                refine aw_seq ?_
                have v110 : CallOK Try.prog 32 [.agg [.i n.pump, .ls 1]] [1] [some (.ro 5 n.pipes.length (Lst eP n.pipes))] (.b (netB n)) [] := (CallFr.to (refNet_fr n (by omega)) [(1, 1)] (by kernel_rfl) (by kernel_rfl) (by kernel_rfl) (by kernel_rfl) (by kernel_rfl) (dem_cons rfl (le_ro rfl el_rfl) dem_nil))
                refine aw_region [(1, .call [1] (.b (netB n)) [])] [2, 3, 9, 10, 11, 16, 70] [1, 1003, 1009, 10330, 10331]
                    ⟨124, [1, 2], [(2, .i node), (3, .l (.ref 1003 0)), (9, .l (.ref 1009 0)), (10, .ls 10331), (11, .i 0), (16, .i 0), (70, .b (!(netB n)))], [(1, some (.ro 5 n.pipes.length (Lst eP n.pipes))), (1003, some (.blk 24 [.i n.pump, .ls 1])), (1009, some (.blk 24 [.i n.pump, .ls 10330])), (10330, some (.vec 54 5 ((keptT n.pipes node n.pipes.length).length) (Lst eP (keptT n.pipes node n.pipes.length)))), (10331, some (.vec 3 1 ((numT n.pipes node n.pipes.length).length) (Lst eI (numT n.pipes node n.pipes.length))))]⟩
                    [CallOK Try.prog 32 [.agg [.i n.pump, .ls 1]] [1] [some (.ro 5 n.pipes.length (Lst eP n.pipes))] (.b (netB n)) []] (by kernel_rfl) v110 ?_
                clear v110
                have h111 : (!(netB n)) = false := by rw [h10] <;> rfl
                refine aw_cond (b := (!(netB n))) rfl (fun h => Bool.noConfusion (h111.symm.trans h)) (fun _ => ?_)
                refine aw_seq ?_
                have v112 : -9223372036854775808 ≤ (((n.pipes.length : Nat) : Int) - 1) ∧ (((n.pipes.length : Nat) : Int) - 1) < 9223372036854775808 := (by first | omega | rfl | assumption)
                have v113 : CallOK Try.prog 52 [.i node, .i 0, .i (((n.pipes.length : Nat) : Int) - 1)] [] [] (.b (inB 0 (((n.pipes.length : Nat) : Int) - 1) node)) [] := (CallFr.to (refIn1_fr node 0 (((n.pipes.length : Nat) : Int) - 1)) [] (by kernel_rfl) (by kernel_rfl) (by kernel_rfl) (by kernel_rfl) (by kernel_rfl) dem_nil)
                refine aw_region [(5, .call [] (.b (inB 0 (((n.pipes.length : Nat) : Int) - 1) node)) [])] [2, 3, 9, 10, 11, 16, 74] [1, 1003, 1009, 10330, 10331]
                    ⟨124, [1, 2], [(2, .i node), (3, .l (.ref 1003 0)), (9, .l (.ref 1009 0)), (10, .ls 10331), (11, .i 0), (16, .i 0), (74, .b (!(inB 0 (((n.pipes.length : Nat) : Int) - 1) node)))], [(1, some (.ro 5 n.pipes.length (Lst eP n.pipes))), (1003, some (.blk 24 [.i n.pump, .ls 1])), (1009, some (.blk 24 [.i n.pump, .ls 10330])), (10330, some (.vec 54 5 ((keptT n.pipes node n.pipes.length).length) (Lst eP (keptT n.pipes node n.pipes.length)))), (10331, some (.vec 3 1 ((numT n.pipes node n.pipes.length).length) (Lst eI (numT n.pipes node n.pipes.length))))]⟩
                    [-9223372036854775808 ≤ (((n.pipes.length : Nat) : Int) - 1) ∧ (((n.pipes.length : Nat) : Int) - 1) < 9223372036854775808, CallOK Try.prog 52 [.i node, .i 0, .i (((n.pipes.length : Nat) : Int) - 1)] [] [] (.b (inB 0 (((n.pipes.length : Nat) : Int) - 1) node)) []] (by kernel_rfl) ⟨v112, v113⟩ ?_
                clear v112 v113
                have h114 : (!(inB 0 (((n.pipes.length : Nat) : Int) - 1) node)) = false := by rw [h11] <;> rfl
                refine aw_cond (b := (!(inB 0 (((n.pipes.length : Nat) : Int) - 1) node))) rfl (fun h => Bool.noConfusion (h114.symm.trans h)) (fun _ => ?_)
                refine aw_seq ?_
                refine aw_region [] [2, 3, 9, 10, 11, 16, 82] [1, 1003, 1009, 10330, 10331]
                    ⟨124, [1, 2], [(2, .i node), (3, .l (.ref 1003 0)), (9, .l (.ref 1009 0)), (10, .ls 10331), (11, .i 0), (16, .i 0), (82, .b (decide (node = 0)))], [(1, some (.ro 5 n.pipes.length (Lst eP n.pipes))), (1003, some (.blk 24 [.i n.pump, .ls 1])), (1009, some (.blk 24 [.i n.pump, .ls 10330])), (10330, some (.vec 54 5 ((keptT n.pipes node n.pipes.length).length) (Lst eP (keptT n.pipes node n.pipes.length)))), (10331, some (.vec 3 1 ((numT n.pipes node n.pipes.length).length) (Lst eI (numT n.pipes node n.pipes.length))))]⟩
                    [] (by kernel_rfl) trivial ?_
                refine aw_cond (b := decide (node = 0)) rfl (fun h => Bool.noConfusion (h12.symm.trans h)) (fun _ => ?_)
                refine aw_skip ?_
                refine aw_seq ?_
                refine aw_seq ?_
                refine aw_region [] [2, 3, 9, 10, 11, 16, 86] [1, 1003, 1009, 10330, 10331]
                    ⟨124, [1, 2], [(2, .i node), (3, .l (.ref 1003 0)), (9, .l (.ref 1009 0)), (10, .ls 10331), (11, .i 0), (16, .i 0), (86, .b (decide ((0 : Int) ≠ (0 : Int))))], [(1, some (.ro 5 n.pipes.length (Lst eP n.pipes))), (1003, some (.blk 24 [.i n.pump, .ls 1])), (1009, some (.blk 24 [.i n.pump, .ls 10330])), (10330, some (.vec 54 5 ((keptT n.pipes node n.pipes.length).length) (Lst eP (keptT n.pipes node n.pipes.length)))), (10331, some (.vec 3 1 ((numT n.pipes node n.pipes.length).length) (Lst eI (numT n.pipes node n.pipes.length))))]⟩
                    [] (by kernel_rfl) trivial ?_
                refine aw_cond (b := decide ((0 : Int) ≠ (0 : Int))) rfl (fun h => Bool.noConfusion (h107.symm.trans h)) (fun _ => ?_)
                refine aw_skip ?_
                refine aw_seq ?_
                have v115 : CallOK Try.prog 53 [.agg [.i n.pump, .ls 1], .i node] [1] [some (.ro 5 n.pipes.length (Lst eP n.pipes))] (.tup [.agg [.i n.pump, .ls 11060], .one (.ls 11061)]) [(11060, some (.vec 54 5 ((keptT n.pipes node n.pipes.length).length) (Lst eP (keptT n.pipes node n.pipes.length)))), (11061, some (.vec 3 1 ((numT n.pipes node n.pipes.length).length) (Lst eI (numT n.pipes node n.pipes.length))))] := (CallFr.to (refCut_fr n node h10) [(1, 1), (11, 11060), (12, 11061)] (by kernel_rfl) (by kernel_rfl) (by kernel_rfl) (by kernel_rfl) (by kernel_rfl) (dem_cons rfl (le_ro rfl el_rfl) dem_nil))
                refine aw_region [(2, .call [1] (.tup [.agg [.i n.pump, .ls 11060], .one (.ls 11061)]) [(11060, some (.vec 54 5 ((keptT n.pipes node n.pipes.length).length) (Lst eP (keptT n.pipes node n.pipes.length)))), (11061, some (.vec 3 1 ((numT n.pipes node n.pipes.length).length) (Lst eI (numT n.pipes node n.pipes.length))))]), (6, .new 1017)] [9, 10, 11, 17, 18] [1009, 1017, 10330, 10331, 11060, 11061]
                    ⟨124, [1, 2], [(9, .l (.ref 1009 0)), (10, .ls 10331), (11, .i 0), (17, .l (.ref 1017 0)), (18, .ls 11061)], [(1009, some (.blk 24 [.i n.pump, .ls 10330])), (1017, some (.blk 24 [.i n.pump, .ls 11060])), (10330, some (.vec 54 5 ((keptT n.pipes node n.pipes.length).length) (Lst eP (keptT n.pipes node n.pipes.length)))), (10331, some (.vec 3 1 ((numT n.pipes node n.pipes.length).length) (Lst eI (numT n.pipes node n.pipes.length)))), (11060, some (.vec 54 5 ((keptT n.pipes node n.pipes.length).length) (Lst eP (keptT n.pipes node n.pipes.length)))), (11061, some (.vec 3 1 ((numT n.pipes node n.pipes.length).length) (Lst eI (numT n.pipes node n.pipes.length))))]⟩
                    [CallOK Try.prog 53 [.agg [.i n.pump, .ls 1], .i node] [1] [some (.ro 5 n.pipes.length (Lst eP n.pipes))] (.tup [.agg [.i n.pump, .ls 11060], .one (.ls 11061)]) [(11060, some (.vec 54 5 ((keptT n.pipes node n.pipes.length).length) (Lst eP (keptT n.pipes node n.pipes.length)))), (11061, some (.vec 3 1 ((numT n.pipes node n.pipes.length).length) (Lst eI (numT n.pipes node n.pipes.length))))]] (by kernel_rfl) v115 ?_
                clear v115
                refine aw_seq ?_
                have h116 : (decide ((0 : Int) = (0 : Int))) = true := by decide
                have h117 : (alikeB (⟨n.pump, (keptT n.pipes node n.pipes.length)⟩) (⟨n.pump, (keptT n.pipes node n.pipes.length)⟩)) = true := by exact hal _
                have h118 : (decide ((numT n.pipes node n.pipes.length) = (numT n.pipes node n.pipes.length))) = true := by simp
                have v119 : CallOK Try.prog 36 [.agg [.i n.pump, .ls 10330], .agg [.i n.pump, .ls 11060]] [10330, 11060] [some (.vec 54 5 ((keptT n.pipes node n.pipes.length).length) (Lst eP (keptT n.pipes node n.pipes.length))), some (.vec 54 5 ((keptT n.pipes node n.pipes.length).length) (Lst eP (keptT n.pipes node n.pipes.length)))] (.b (alikeB (⟨n.pump, (keptT n.pipes node n.pipes.length)⟩) (⟨n.pump, (keptT n.pipes node n.pipes.length)⟩))) [] := (CallFr.to (alike_fr (⟨n.pump, (keptT n.pipes node n.pipes.length)⟩) (⟨n.pump, (keptT n.pipes node n.pipes.length)⟩) (by first | omega | (dsimp only; omega)) (by first | omega | (dsimp only; omega))) [(1, 10330), (2, 11060)] (by kernel_rfl) (by kernel_rfl) (by kernel_rfl) (by kernel_rfl) (by kernel_rfl) (dem_cons rfl (le_vec_ro rfl el_rfl) (dem_cons rfl (le_vec_ro rfl el_rfl) dem_nil)))
                have v120 : CallOK Try.prog 20 [.ls 10331, .ls 11061] [10331, 11061] [some (.vec 3 1 ((numT n.pipes node n.pipes.length).length) (Lst eI (numT n.pipes node n.pipes.length))), some (.vec 3 1 ((numT n.pipes node n.pipes.length).length) (Lst eI (numT n.pipes node n.pipes.length)))] (.b (decide ((numT n.pipes node n.pipes.length) = (numT n.pipes node n.pipes.length)))) [] := (CallFr.to (equal_fr (numT n.pipes node n.pipes.length) (numT n.pipes node n.pipes.length) (by omega) (by omega)) [(1, 10331), (2, 11061)] (by kernel_rfl) (by kernel_rfl) (by kernel_rfl) (by kernel_rfl) (by kernel_rfl) (dem_cons rfl (le_vec_ro rfl el_rfl) (dem_cons rfl (le_vec_ro rfl el_rfl) dem_nil)))
                have v121 : CallOK Try.prog 15 [] [] [] (.b true) [] := (CallFr.to (known_fr ) [] (by kernel_rfl) (by kernel_rfl) (by kernel_rfl) (by kernel_rfl) (by kernel_rfl) dem_nil)
                refine aw_region [(2, .dec true), (5, .call [10330, 11060] (.b (alikeB (⟨n.pump, (keptT n.pipes node n.pipes.length)⟩) (⟨n.pump, (keptT n.pipes node n.pipes.length)⟩))) []), (7, .dec true), (10, .call [10331, 11061] (.b (decide ((numT n.pipes node n.pipes.length) = (numT n.pipes node n.pipes.length)))) []), (12, .dec true), (13, .call [] (.b true) [])] [6] []
                    ⟨124, [1, 2], [(6, .b true)], []⟩
                    [decide ((0 : Int) = (0 : Int)) = true, CallOK Try.prog 36 [.agg [.i n.pump, .ls 10330], .agg [.i n.pump, .ls 11060]] [10330, 11060] [some (.vec 54 5 ((keptT n.pipes node n.pipes.length).length) (Lst eP (keptT n.pipes node n.pipes.length))), some (.vec 54 5 ((keptT n.pipes node n.pipes.length).length) (Lst eP (keptT n.pipes node n.pipes.length)))] (.b (alikeB (⟨n.pump, (keptT n.pipes node n.pipes.length)⟩) (⟨n.pump, (keptT n.pipes node n.pipes.length)⟩))) [], alikeB (⟨n.pump, (keptT n.pipes node n.pipes.length)⟩) (⟨n.pump, (keptT n.pipes node n.pipes.length)⟩) = true, CallOK Try.prog 20 [.ls 10331, .ls 11061] [10331, 11061] [some (.vec 3 1 ((numT n.pipes node n.pipes.length).length) (Lst eI (numT n.pipes node n.pipes.length))), some (.vec 3 1 ((numT n.pipes node n.pipes.length).length) (Lst eI (numT n.pipes node n.pipes.length)))] (.b (decide ((numT n.pipes node n.pipes.length) = (numT n.pipes node n.pipes.length)))) [], decide ((numT n.pipes node n.pipes.length) = (numT n.pipes node n.pipes.length)) = true, CallOK Try.prog 15 [] [] [] (.b true) []] (by kernel_rfl) ⟨h116, v119, h117, v120, h118, v121⟩ ?_
                clear v119 v120 v121
                exact aw_ret ⟨.inr rfl, end_ok ⟨124, [1, 2], [(6, .b true)], []⟩
                    (Ent.ren [] rfl rfl (by kernel_rfl) (slots_cons rfl slots_nil) conts_nil (by kernel_rfl)) rfl (by kernel_rfl) wr_nil (by kernel_rfl)⟩
            ·
              have v122 : CallOK Try.prog 50 [.agg [.i n.pump, .ls 10270], .i node, .agg [.i o.pump, .ls 10290]] [10270, 10290] [some (.vec 54 5 ((n.pipes).length) (Lst eP n.pipes)), some (.vec 54 5 ((o.pipes).length) (Lst eP o.pipes))] (.tup [.agg [.i 0, .v (.slice none 0 0)], .one (.i 2)]) [] := (CallFr.to (Graft_bad2 n o node (by omega) (by omega) (by omega) (by omega) h10 h77) [(1, 10270), (2, 10290)] (by kernel_rfl) (by kernel_rfl) (by kernel_rfl) (by kernel_rfl) (by kernel_rfl) (dem_cons rfl (le_vec_ro rfl el_rfl) (dem_cons rfl (le_vec_ro rfl el_rfl) dem_nil)))
              refine aw_region [(3, .call [10270, 10290] (.tup [.agg [.i 0, .v (.slice none 0 0)], .one (.i 2)]) []), (7, .new 1012)] [2, 3, 4, 7, 8, 9, 10, 11, 12, 13] [1, 2, 1003, 1004, 1007, 1008, 1009, 1012, 10270, 10290, 10330, 10331]
                  ⟨124, [1, 2], [(2, .i node), (3, .l (.ref 1003 0)), (4, .l (.ref 1004 0)), (7, .l (.ref 1007 0)), (8, .l (.ref 1008 0)), (9, .l (.ref 1009 0)), (10, .ls 10331), (11, .i 0), (12, .l (.ref 1012 0)), (13, .i 2)], [(1, some (.ro 5 n.pipes.length (Lst eP n.pipes))), (2, some (.ro 5 o.pipes.length (Lst eP o.pipes))), (1003, some (.blk 24 [.i n.pump, .ls 1])), (1004, some (.blk 24 [.i o.pump, .ls 2])), (1007, some (.blk 24 [.i n.pump, .ls 10270])), (1008, some (.blk 24 [.i o.pump, .ls 10290])), (1009, some (.blk 24 [.i n.pump, .ls 10330])), (1012, some (.blk 24 [.i 0, .v (.slice none 0 0)])), (10270, some (.vec 54 5 ((n.pipes).length) (Lst eP n.pipes))), (10290, some (.vec 54 5 ((o.pipes).length) (Lst eP o.pipes))), (10330, some (.vec 54 5 ((keptT n.pipes node n.pipes.length).length) (Lst eP (keptT n.pipes node n.pipes.length)))), (10331, some (.vec 3 1 ((numT n.pipes node n.pipes.length).length) (Lst eI (numT n.pipes node n.pipes.length))))]⟩
                  [CallOK Try.prog 50 [.agg [.i n.pump, .ls 10270], .i node, .agg [.i o.pump, .ls 10290]] [10270, 10290] [some (.vec 54 5 ((n.pipes).length) (Lst eP n.pipes)), some (.vec 54 5 ((o.pipes).length) (Lst eP o.pipes))] (.tup [.agg [.i 0, .v (.slice none 0 0)], .one (.i 2)]) []] (by kernel_rfl) v122 ?_
              clear v122
              refine aw_seq ?_
              refine aw_seq ?_
              have h123 : ((!(alikeB n n))) = false := by rw [hal]; rfl
              have v124 : CallOK Try.prog 36 [.agg [.i n.pump, .ls 10270], .agg [.i n.pump, .ls 1]] [10270, 1] [some (.vec 54 5 ((n.pipes).length) (Lst eP n.pipes)), some (.ro 5 n.pipes.length (Lst eP n.pipes))] (.b (alikeB n n)) [] := (CallFr.to (alike_fr n n (by first | omega | (dsimp only; omega)) (by first | omega | (dsimp only; omega))) [(1, 10270), (2, 1)] (by kernel_rfl) (by kernel_rfl) (by kernel_rfl) (by kernel_rfl) (by kernel_rfl) (dem_cons rfl (le_vec_ro rfl el_rfl) (dem_cons rfl (le_ro rfl el_rfl) dem_nil)))
              have v125 : CallOK Try.prog 36 [.agg [.i o.pump, .ls 10290], .agg [.i o.pump, .ls 2]] [10290, 2] [some (.vec 54 5 ((o.pipes).length) (Lst eP o.pipes)), some (.ro 5 o.pipes.length (Lst eP o.pipes))] (.b (alikeB o o)) [] := (CallFr.to (alike_fr o o (by first | omega | (dsimp only; omega)) (by first | omega | (dsimp only; omega))) [(1, 10290), (2, 2)] (by kernel_rfl) (by kernel_rfl) (by kernel_rfl) (by kernel_rfl) (by kernel_rfl) (dem_cons rfl (le_vec_ro rfl el_rfl) (dem_cons rfl (le_ro rfl el_rfl) dem_nil)))
              refine aw_region [(2, .call [10270, 1] (.b (alikeB n n)) []), (4, .dec false), (7, .call [10290, 2] (.b (alikeB o o)) [])] [2, 3, 4, 9, 10, 11, 12, 13, 53] [1, 2, 1003, 1004, 1009, 1012, 10330, 10331]
                  ⟨124, [1, 2], [(2, .i node), (3, .l (.ref 1003 0)), (4, .l (.ref 1004 0)), (9, .l (.ref 1009 0)), (10, .ls 10331), (11, .i 0), (12, .l (.ref 1012 0)), (13, .i 2), (53, .b (!(alikeB o o)))], [(1, some (.ro 5 n.pipes.length (Lst eP n.pipes))), (2, some (.ro 5 o.pipes.length (Lst eP o.pipes))), (1003, some (.blk 24 [.i n.pump, .ls 1])), (1004, some (.blk 24 [.i o.pump, .ls 2])), (1009, some (.blk 24 [.i n.pump, .ls 10330])), (1012, some (.blk 24 [.i 0, .v (.slice none 0 0)])), (10330, some (.vec 54 5 ((keptT n.pipes node n.pipes.length).length) (Lst eP (keptT n.pipes node n.pipes.length)))), (10331, some (.vec 3 1 ((numT n.pipes node n.pipes.length).length) (Lst eI (numT n.pipes node n.pipes.length))))]⟩
                  [CallOK Try.prog 36 [.agg [.i n.pump, .ls 10270], .agg [.i n.pump, .ls 1]] [10270, 1] [some (.vec 54 5 ((n.pipes).length) (Lst eP n.pipes)), some (.ro 5 n.pipes.length (Lst eP n.pipes))] (.b (alikeB n n)) [], (!(alikeB n n)) = false, CallOK Try.prog 36 [.agg [.i o.pump, .ls 10290], .agg [.i o.pump, .ls 2]] [10290, 2] [some (.vec 54 5 ((o.pipes).length) (Lst eP o.pipes)), some (.ro 5 o.pipes.length (Lst eP o.pipes))] (.b (alikeB o o)) []] (by kernel_rfl) ⟨v124, h123, v125⟩ ?_
              clear v124 v125
              have h126 : ((!(alikeB o o))) = false := by rw [hal]; rfl
              refine aw_cond (b := (!(alikeB o o))) rfl (fun h => Bool.noConfusion (h126.symm.trans h)) (fun _ => ?_)
              refine aw_skip ?_
              refine aw_seq ?_
              have v127 : CallOK Try.prog 51 [.agg [.i n.pump, .ls 1], .i node, .agg [.i o.pump, .ls 2]] [1, 2] [some (.ro 5 n.pipes.length (Lst eP n.pipes)), some (.ro 5 o.pipes.length (Lst eP o.pipes))] (.tup [.agg [.i 0, .v (.slice none 0 0)], .one (.i 2)]) [] := (CallFr.to (refGraft_bad2 n o node (by omega) (by omega) (by omega) (by omega) h10 h77) [(1, 1), (2, 2)] (by kernel_rfl) (by kernel_rfl) (by kernel_rfl) (by kernel_rfl) (by kernel_rfl) (dem_cons rfl (le_ro rfl el_rfl) (dem_cons rfl (le_ro rfl el_rfl) dem_nil)))
              refine aw_region [(3, .call [1, 2] (.tup [.agg [.i 0, .v (.slice none 0 0)], .one (.i 2)]) []), (7, .new 1014)] [2, 3, 9, 10, 11, 12, 13, 14, 15] [1, 1003, 1009, 1012, 1014, 10330, 10331]
                  ⟨124, [1, 2], [(2, .i node), (3, .l (.ref 1003 0)), (9, .l (.ref 1009 0)), (10, .ls 10331), (11, .i 0), (12, .l (.ref 1012 0)), (13, .i 2), (14, .l (.ref 1014 0)), (15, .i 2)], [(1, some (.ro 5 n.pipes.length (Lst eP n.pipes))), (1003, some (.blk 24 [.i n.pump, .ls 1])), (1009, some (.blk 24 [.i n.pump, .ls 10330])), (1012, some (.blk 24 [.i 0, .v (.slice none 0 0)])), (1014, some (.blk 24 [.i 0, .v (.slice none 0 0)])), (10330, some (.vec 54 5 ((keptT n.pipes node n.pipes.length).length) (Lst eP (keptT n.pipes node n.pipes.length)))), (10331, some (.vec 3 1 ((numT n.pipes node n.pipes.length).length) (Lst eI (numT n.pipes node n.pipes.length))))]⟩
                  [CallOK Try.prog 51 [.agg [.i n.pump, .ls 1], .i node, .agg [.i o.pump, .ls 2]] [1, 2] [some (.ro 5 n.pipes.length (Lst eP n.pipes)), some (.ro 5 o.pipes.length (Lst eP o.pipes))] (.tup [.agg [.i 0, .v (.slice none 0 0)], .one (.i 2)]) []] (by kernel_rfl) v127 ?_
              clear v127
              refine aw_seq ?_
              refine aw_seq ?_
              have h128 : (decide ((2 : Int) ≠ (2 : Int))) = false := by decide
              have v129 : CallOK Try.prog 36 [.agg [.i 0, .v (.slice none 0 0)], .agg [.i 0, .v (.slice none 0 0)]] [] [] (.b (alikeB ⟨0, []⟩ ⟨0, []⟩)) [] := (CallFr.to (alike_nil 0 0) [] (by kernel_rfl) (by kernel_rfl) (by kernel_rfl) (by kernel_rfl) (by kernel_rfl) dem_nil)
              refine aw_region [(3, .dec false), (6, .call [] (.b (alikeB ⟨0, []⟩ ⟨0, []⟩)) [])] [2, 3, 9, 10, 11, 69] [1, 1003, 1009, 10330, 10331]
                  ⟨124, [1, 2], [(2, .i node), (3, .l (.ref 1003 0)), (9, .l (.ref 1009 0)), (10, .ls 10331), (11, .i 0), (69, .b (!(alikeB ⟨0, []⟩ ⟨0, []⟩)))], [(1, some (.ro 5 n.pipes.length (Lst eP n.pipes))), (1003, some (.blk 24 [.i n.pump, .ls 1])), (1009, some (.blk 24 [.i n.pump, .ls 10330])), (10330, some (.vec 54 5 ((keptT n.pipes node n.pipes.length).length) (Lst eP (keptT n.pipes node n.pipes.length)))), (10331, some (.vec 3 1 ((numT n.pipes node n.pipes.length).length) (Lst eI (numT n.pipes node n.pipes.length))))]⟩
                  [decide ((2 : Int) ≠ (2 : Int)) = false, CallOK Try.prog 36 [.agg [.i 0, .v (.slice none 0 0)], .agg [.i 0, .v (.slice none 0 0)]] [] [] (.b (alikeB ⟨0, []⟩ ⟨0, []⟩)) []] (by kernel_rfl) ⟨h128, v129⟩ ?_
              clear v129
              have h130 : ((!(alikeB ⟨0, []⟩ ⟨0, []⟩))) = false := by rw [hal]; rfl
              refine aw_cond (b := (!(alikeB ⟨0, []⟩ ⟨0, []⟩))) rfl (fun h => Bool.noConfusion (h130.symm.trans h)) (fun _ => ?_)
              refine aw_skip ?_
              refine aw_seq ?_
              refine aw_region [] [2, 3, 9, 10, 11, 16] [1, 1003, 1009, 10330, 10331]
                  ⟨124, [1, 2], [(2, .i node), (3, .l (.ref 1003 0)), (9, .l (.ref 1009 0)), (10, .ls 10331), (11, .i 0), (16, .i 0)], [(1, some (.ro 5 n.pipes.length (Lst eP n.pipes))), (1003, some (.blk 24 [.i n.pump, .ls 1])), (1009, some (.blk 24 [.i n.pump, .ls 10330])), (10330, some (.vec 54 5 ((keptT n.pipes node n.pipes.length).length) (Lst eP (keptT n.pipes node n.pipes.length)))), (10331, some (.vec 3 1 ((numT n.pipes node n.pipes.length).length) (Lst eI (numT n.pipes node n.pipes.length))))]⟩
                  [] (by kernel_rfl) trivial ?_
              refine aw_seq ?_
              refine aw_block ?_
              refine aw_seq ?_
              have v131 : CallOK Try.prog 32 [.agg [.i n.pump, .ls 1]] [1] [some (.ro 5 n.pipes.length (Lst eP n.pipes))] (.b (netB n)) [] := (CallFr.to (refNet_fr n (by omega)) [(1, 1)] (by kernel_rfl) (by kernel_rfl) (by kernel_rfl) (by kernel_rfl) (by kernel_rfl) (dem_cons rfl (le_ro rfl el_rfl) dem_nil))
              refine aw_region [(1, .call [1] (.b (netB n)) [])] [2, 3, 9, 10, 11, 16, 70] [1, 1003, 1009, 10330, 10331]
                  ⟨124, [1, 2], [(2, .i node), (3, .l (.ref 1003 0)), (9, .l (.ref 1009 0)), (10, .ls 10331), (11, .i 0), (16, .i 0), (70, .b (!(netB n)))], [(1, some (.ro 5 n.pipes.length (Lst eP n.pipes))), (1003, some (.blk 24 [.i n.pump, .ls 1])), (1009, some (.blk 24 [.i n.pump, .ls 10330])), (10330, some (.vec 54 5 ((keptT n.pipes node n.pipes.length).length) (Lst eP (keptT n.pipes node n.pipes.length)))), (10331, some (.vec 3 1 ((numT n.pipes node n.pipes.length).length) (Lst eI (numT n.pipes node n.pipes.length))))]⟩
                  [CallOK Try.prog 32 [.agg [.i n.pump, .ls 1]] [1] [some (.ro 5 n.pipes.length (Lst eP n.pipes))] (.b (netB n)) []] (by kernel_rfl) v131 ?_
              clear v131
              have h132 : (!(netB n)) = false := by rw [h10] <;> rfl
              refine aw_cond (b := (!(netB n))) rfl (fun h => Bool.noConfusion (h132.symm.trans h)) (fun _ => ?_)
              refine aw_seq ?_
              have v133 : -9223372036854775808 ≤ (((n.pipes.length : Nat) : Int) - 1) ∧ (((n.pipes.length : Nat) : Int) - 1) < 9223372036854775808 := (by first | omega | rfl | assumption)
              have v134 : CallOK Try.prog 52 [.i node, .i 0, .i (((n.pipes.length : Nat) : Int) - 1)] [] [] (.b (inB 0 (((n.pipes.length : Nat) : Int) - 1) node)) [] := (CallFr.to (refIn1_fr node 0 (((n.pipes.length : Nat) : Int) - 1)) [] (by kernel_rfl) (by kernel_rfl) (by kernel_rfl) (by kernel_rfl) (by kernel_rfl) dem_nil)
              refine aw_region [(5, .call [] (.b (inB 0 (((n.pipes.length : Nat) : Int) - 1) node)) [])] [2, 3, 9, 10, 11, 16, 74] [1, 1003, 1009, 10330, 10331]
                  ⟨124, [1, 2], [(2, .i node), (3, .l (.ref 1003 0)), (9, .l (.ref 1009 0)), (10, .ls 10331), (11, .i 0), (16, .i 0), (74, .b (!(inB 0 (((n.pipes.length : Nat) : Int) - 1) node)))], [(1, some (.ro 5 n.pipes.length (Lst eP n.pipes))), (1003, some (.blk 24 [.i n.pump, .ls 1])), (1009, some (.blk 24 [.i n.pump, .ls 10330])), (10330, some (.vec 54 5 ((keptT n.pipes node n.pipes.length).length) (Lst eP (keptT n.pipes node n.pipes.length)))), (10331, some (.vec 3 1 ((numT n.pipes node n.pipes.length).length) (Lst eI (numT n.pipes node n.pipes.length))))]⟩
                  [-9223372036854775808 ≤ (((n.pipes.length : Nat) : Int) - 1) ∧ (((n.pipes.length : Nat) : Int) - 1) < 9223372036854775808, CallOK Try.prog 52 [.i node, .i 0, .i (((n.pipes.length : Nat) : Int) - 1)] [] [] (.b (inB 0 (((n.pipes.length : Nat) : Int) - 1) node)) []] (by kernel_rfl) ⟨v133, v134⟩ ?_
              clear v133 v134
              have h135 : (!(inB 0 (((n.pipes.length : Nat) : Int) - 1) node)) = false := by rw [h11] <;> rfl
              refine aw_cond (b := (!(inB 0 (((n.pipes.length : Nat) : Int) - 1) node))) rfl (fun h => Bool.noConfusion (h135.symm.trans h)) (fun _ => ?_)
              refine aw_seq ?_
              refine aw_region [] [2, 3, 9, 10, 11, 16, 82] [1, 1003, 1009, 10330, 10331]
                  ⟨124, [1, 2], [(2, .i node), (3, .l (.ref 1003 0)), (9, .l (.ref 1009 0)), (10, .ls 10331), (11, .i 0), (16, .i 0), (82, .b (decide (node = 0)))], [(1, some (.ro 5 n.pipes.length (Lst eP n.pipes))), (1003, some (.blk 24 [.i n.pump, .ls 1])), (1009, some (.blk 24 [.i n.pump, .ls 10330])), (10330, some (.vec 54 5 ((keptT n.pipes node n.pipes.length).length) (Lst eP (keptT n.pipes node n.pipes.length)))), (10331, some (.vec 3 1 ((numT n.pipes node n.pipes.length).length) (Lst eI (numT n.pipes node n.pipes.length))))]⟩
                  [] (by kernel_rfl) trivial ?_
              refine aw_cond (b := decide (node = 0)) rfl (fun h => Bool.noConfusion (h12.symm.trans h)) (fun _ => ?_)
              refine aw_skip ?_
              refine aw_seq ?_
              refine aw_seq ?_
              refine aw_region [] [2, 3, 9, 10, 11, 16, 86] [1, 1003, 1009, 10330, 10331]
                  ⟨124, [1, 2], [(2, .i node), (3, .l (.ref 1003 0)), (9, .l (.ref 1009 0)), (10, .ls 10331), (11, .i 0), (16, .i 0), (86, .b (decide ((0 : Int) ≠ (0 : Int))))], [(1, some (.ro 5 n.pipes.length (Lst eP n.pipes))), (1003, some (.blk 24 [.i n.pump, .ls 1])), (1009, some (.blk 24 [.i n.pump, .ls 10330])), (10330, some (.vec 54 5 ((keptT n.pipes node n.pipes.length).length) (Lst eP (keptT n.pipes node n.pipes.length)))), (10331, some (.vec 3 1 ((numT n.pipes node n.pipes.length).length) (Lst eI (numT n.pipes node n.pipes.length))))]⟩
                  [] (by kernel_rfl) trivial ?_
              have h136 : (decide ((0 : Int) ≠ (0 : Int))) = false := by decide
              refine aw_cond (b := decide ((0 : Int) ≠ (0 : Int))) rfl (fun h => Bool.noConfusion (h136.symm.trans h)) (fun _ => ?_)
              refine aw_skip ?_
              refine aw_seq ?_
              have v137 : CallOK Try.prog 53 [.agg [.i n.pump, .ls 1], .i node] [1] [some (.ro 5 n.pipes.length (Lst eP n.pipes))] (.tup [.agg [.i n.pump, .ls 11060], .one (.ls 11061)]) [(11060, some (.vec 54 5 ((keptT n.pipes node n.pipes.length).length) (Lst eP (keptT n.pipes node n.pipes.length)))), (11061, some (.vec 3 1 ((numT n.pipes node n.pipes.length).length) (Lst eI (numT n.pipes node n.pipes.length))))] := (CallFr.to (refCut_fr n node h10) [(1, 1), (11, 11060), (12, 11061)] (by kernel_rfl) (by kernel_rfl) (by kernel_rfl) (by kernel_rfl) (by kernel_rfl) (dem_cons rfl (le_ro rfl el_rfl) dem_nil))
              refine aw_region [(2, .call [1] (.tup [.agg [.i n.pump, .ls 11060], .one (.ls 11061)]) [(11060, some (.vec 54 5 ((keptT n.pipes node n.pipes.length).length) (Lst eP (keptT n.pipes node n.pipes.length)))), (11061, some (.vec 3 1 ((numT n.pipes node n.pipes.length).length) (Lst eI (numT n.pipes node n.pipes.length))))]), (6, .new 1017)] [9, 10, 11, 17, 18] [1009, 1017, 10330, 10331, 11060, 11061]
                  ⟨124, [1, 2], [(9, .l (.ref 1009 0)), (10, .ls 10331), (11, .i 0), (17, .l (.ref 1017 0)), (18, .ls 11061)], [(1009, some (.blk 24 [.i n.pump, .ls 10330])), (1017, some (.blk 24 [.i n.pump, .ls 11060])), (10330, some (.vec 54 5 ((keptT n.pipes node n.pipes.length).length) (Lst eP (keptT n.pipes node n.pipes.length)))), (10331, some (.vec 3 1 ((numT n.pipes node n.pipes.length).length) (Lst eI (numT n.pipes node n.pipes.length)))), (11060, some (.vec 54 5 ((keptT n.pipes node n.pipes.length).length) (Lst eP (keptT n.pipes node n.pipes.length)))), (11061, some (.vec 3 1 ((numT n.pipes node n.pipes.length).length) (Lst eI (numT n.pipes node n.pipes.length))))]⟩
                  [CallOK Try.prog 53 [.agg [.i n.pump, .ls 1], .i node] [1] [some (.ro 5 n.pipes.length (Lst eP n.pipes))] (.tup [.agg [.i n.pump, .ls 11060], .one (.ls 11061)]) [(11060, some (.vec 54 5 ((keptT n.pipes node n.pipes.length).length) (Lst eP (keptT n.pipes node n.pipes.length)))), (11061, some (.vec 3 1 ((numT n.pipes node n.pipes.length).length) (Lst eI (numT n.pipes node n.pipes.length))))]] (by kernel_rfl) v137 ?_
              clear v137
              refine aw_seq ?_
              have h138 : (decide ((0 : Int) = (0 : Int))) = true := by decide
              have h139 : (alikeB (⟨n.pump, (keptT n.pipes node n.pipes.length)⟩) (⟨n.pump, (keptT n.pipes node n.pipes.length)⟩)) = true := by exact hal _
              have h140 : (decide ((numT n.pipes node n.pipes.length) = (numT n.pipes node n.pipes.length))) = true := by simp
              have v141 : CallOK Try.prog 36 [.agg [.i n.pump, .ls 10330], .agg [.i n.pump, .ls 11060]] [10330, 11060] [some (.vec 54 5 ((keptT n.pipes node n.pipes.length).length) (Lst eP (keptT n.pipes node n.pipes.length))), some (.vec 54 5 ((keptT n.pipes node n.pipes.length).length) (Lst eP (keptT n.pipes node n.pipes.length)))] (.b (alikeB (⟨n.pump, (keptT n.pipes node n.pipes.length)⟩) (⟨n.pump, (keptT n.pipes node n.pipes.length)⟩))) [] := (CallFr.to (alike_fr (⟨n.pump, (keptT n.pipes node n.pipes.length)⟩) (⟨n.pump, (keptT n.pipes node n.pipes.length)⟩) (by first | omega | (dsimp only; omega)) (by first | omega | (dsimp only; omega))) [(1, 10330), (2, 11060)] (by kernel_rfl) (by kernel_rfl) (by kernel_rfl) (by kernel_rfl) (by kernel_rfl) (dem_cons rfl (le_vec_ro rfl el_rfl) (dem_cons rfl (le_vec_ro rfl el_rfl) dem_nil)))
              have v142 : CallOK Try.prog 20 [.ls 10331, .ls 11061] [10331, 11061] [some (.vec 3 1 ((numT n.pipes node n.pipes.length).length) (Lst eI (numT n.pipes node n.pipes.length))), some (.vec 3 1 ((numT n.pipes node n.pipes.length).length) (Lst eI (numT n.pipes node n.pipes.length)))] (.b (decide ((numT n.pipes node n.pipes.length) = (numT n.pipes node n.pipes.length)))) [] := (CallFr.to (equal_fr (numT n.pipes node n.pipes.length) (numT n.pipes node n.pipes.length) (by omega) (by omega)) [(1, 10331), (2, 11061)] (by kernel_rfl) (by kernel_rfl) (by kernel_rfl) (by kernel_rfl) (by kernel_rfl) (dem_cons rfl (le_vec_ro rfl el_rfl) (dem_cons rfl (le_vec_ro rfl el_rfl) dem_nil)))
              have v143 : CallOK Try.prog 15 [] [] [] (.b true) [] := (CallFr.to (known_fr ) [] (by kernel_rfl) (by kernel_rfl) (by kernel_rfl) (by kernel_rfl) (by kernel_rfl) dem_nil)
              refine aw_region [(2, .dec true), (5, .call [10330, 11060] (.b (alikeB (⟨n.pump, (keptT n.pipes node n.pipes.length)⟩) (⟨n.pump, (keptT n.pipes node n.pipes.length)⟩))) []), (7, .dec true), (10, .call [10331, 11061] (.b (decide ((numT n.pipes node n.pipes.length) = (numT n.pipes node n.pipes.length)))) []), (12, .dec true), (13, .call [] (.b true) [])] [6] []
                  ⟨124, [1, 2], [(6, .b true)], []⟩
                  [decide ((0 : Int) = (0 : Int)) = true, CallOK Try.prog 36 [.agg [.i n.pump, .ls 10330], .agg [.i n.pump, .ls 11060]] [10330, 11060] [some (.vec 54 5 ((keptT n.pipes node n.pipes.length).length) (Lst eP (keptT n.pipes node n.pipes.length))), some (.vec 54 5 ((keptT n.pipes node n.pipes.length).length) (Lst eP (keptT n.pipes node n.pipes.length)))] (.b (alikeB (⟨n.pump, (keptT n.pipes node n.pipes.length)⟩) (⟨n.pump, (keptT n.pipes node n.pipes.length)⟩))) [], alikeB (⟨n.pump, (keptT n.pipes node n.pipes.length)⟩) (⟨n.pump, (keptT n.pipes node n.pipes.length)⟩) = true, CallOK Try.prog 20 [.ls 10331, .ls 11061] [10331, 11061] [some (.vec 3 1 ((numT n.pipes node n.pipes.length).length) (Lst eI (numT n.pipes node n.pipes.length))), some (.vec 3 1 ((numT n.pipes node n.pipes.length).length) (Lst eI (numT n.pipes node n.pipes.length)))] (.b (decide ((numT n.pipes node n.pipes.length) = (numT n.pipes node n.pipes.length)))) [], decide ((numT n.pipes node n.pipes.length) = (numT n.pipes node n.pipes.length)) = true, CallOK Try.prog 15 [] [] [] (.b true) []] (by kernel_rfl) ⟨h138, v141, h139, v142, h140, v143⟩ ?_
              clear v141 v142 v143
              exact aw_ret ⟨.inr rfl, end_ok ⟨124, [1, 2], [(6, .b true)], []⟩
                  (Ent.ren [] rfl rfl (by kernel_rfl) (slots_cons rfl slots_nil) conts_nil (by kernel_rfl)) rfl (by kernel_rfl) wr_nil (by kernel_rfl)⟩
        ·
          have v144 : CallOK Try.prog 49 [.agg [.i n.pump, .ls 10270], .i node] [10270] [some (.vec 54 5 ((n.pipes).length) (Lst eP n.pipes))] (.tup [.agg [.i 0, .v (.slice none 0 0)], .one (.v (.slice none 0 0)), .one (.i 7)]) [] := (CallFr.to (Cut_none n node (by omega) (by omega) (by omega) h10 h11) [(1, 10270)] (by kernel_rfl) (by kernel_rfl) (by kernel_rfl) (by kernel_rfl) (by kernel_rfl) (dem_cons rfl (le_vec_ro rfl el_rfl) dem_nil))
          refine aw_region [(2, .call [10270] (.tup [.agg [.i 0, .v (.slice none 0 0)], .one (.v (.slice none 0 0)), .one (.i 7)]) []), (7, .new 1009)] [2, 3, 4, 7, 8, 9, 10, 11] [1, 2, 1003, 1004, 1007, 1008, 1009, 10270, 10290]
              ⟨124, [1, 2], [(2, .i node), (3, .l (.ref 1003 0)), (4, .l (.ref 1004 0)), (7, .l (.ref 1007 0)), (8, .l (.ref 1008 0)), (9, .l (.ref 1009 0)), (10, .l (.v (.slice none 0 0))), (11, .i 7)], [(1, some (.ro 5 n.pipes.length (Lst eP n.pipes))), (2, some (.ro 5 o.pipes.length (Lst eP o.pipes))), (1003, some (.blk 24 [.i n.pump, .ls 1])), (1004, some (.blk 24 [.i o.pump, .ls 2])), (1007, some (.blk 24 [.i n.pump, .ls 10270])), (1008, some (.blk 24 [.i o.pump, .ls 10290])), (1009, some (.blk 24 [.i 0, .v (.slice none 0 0)])), (10270, some (.vec 54 5 ((n.pipes).length) (Lst eP n.pipes))), (10290, some (.vec 54 5 ((o.pipes).length) (Lst eP o.pipes)))]⟩
              [CallOK Try.prog 49 [.agg [.i n.pump, .ls 10270], .i node] [10270] [some (.vec 54 5 ((n.pipes).length) (Lst eP n.pipes))] (.tup [.agg [.i 0, .v (.slice none 0 0)], .one (.v (.slice none 0 0)), .one (.i 7)]) []] (by kernel_rfl) v144 ?_
          clear v144
          refine aw_seq ?_
          rcases Bool.eq_false_or_eq_true (netB o) with h145 | h145
          ·
            have hol := netB_len h145
            have v146 : CallOK Try.prog 50 [.agg [.i n.pump, .ls 10270], .i node, .agg [.i o.pump, .ls 10290]] [10270, 10290] [some (.vec 54 5 ((n.pipes).length) (Lst eP n.pipes)), some (.vec 54 5 ((o.pipes).length) (Lst eP o.pipes))] (.tup [.agg [.i 0, .v (.slice none 0 0)], .one (.i 7)]) [] := (CallFr.to (Graft_none n o node (by omega) (by omega) (by omega) (by omega) h10 h145 h11) [(1, 10270), (2, 10290)] (by kernel_rfl) (by kernel_rfl) (by kernel_rfl) (by kernel_rfl) (by kernel_rfl) (dem_cons rfl (le_vec_ro rfl el_rfl) (dem_cons rfl (le_vec_ro rfl el_rfl) dem_nil)))
            refine aw_region [(3, .call [10270, 10290] (.tup [.agg [.i 0, .v (.slice none 0 0)], .one (.i 7)]) []), (7, .new 1012)] [2, 3, 4, 7, 8, 9, 10, 11, 12, 13] [1, 2, 1003, 1004, 1007, 1008, 1009, 1012, 10270, 10290]
                ⟨124, [1, 2], [(2, .i node), (3, .l (.ref 1003 0)), (4, .l (.ref 1004 0)), (7, .l (.ref 1007 0)), (8, .l (.ref 1008 0)), (9, .l (.ref 1009 0)), (10, .l (.v (.slice none 0 0))), (11, .i 7), (12, .l (.ref 1012 0)), (13, .i 7)], [(1, some (.ro 5 n.pipes.length (Lst eP n.pipes))), (2, some (.ro 5 o.pipes.length (Lst eP o.pipes))), (1003, some (.blk 24 [.i n.pump, .ls 1])), (1004, some (.blk 24 [.i o.pump, .ls 2])), (1007, some (.blk 24 [.i n.pump, .ls 10270])), (1008, some (.blk 24 [.i o.pump, .ls 10290])), (1009, some (.blk 24 [.i 0, .v (.slice none 0 0)])), (1012, some (.blk 24 [.i 0, .v (.slice none 0 0)])), (10270, some (.vec 54 5 ((n.pipes).length) (Lst eP n.pipes))), (10290, some (.vec 54 5 ((o.pipes).length) (Lst eP o.pipes)))]⟩
                [CallOK Try.prog 50 [.agg [.i n.pump, .ls 10270], .i node, .agg [.i o.pump, .ls 10290]] [10270, 10290] [some (.vec 54 5 ((n.pipes).length) (Lst eP n.pipes)), some (.vec 54 5 ((o.pipes).length) (Lst eP o.pipes))] (.tup [.agg [.i 0, .v (.slice none 0 0)], .one (.i 7)]) []] (by kernel_rfl) v146 ?_
            clear v146
            refine aw_seq ?_
            refine aw_seq ?_
            have h147 : ((!(alikeB n n))) = false := by rw [hal]; rfl
            have v148 : CallOK Try.prog 36 [.agg [.i n.pump, .ls 10270], .agg [.i n.pump, .ls 1]] [10270, 1] [some (.vec 54 5 ((n.pipes).length) (Lst eP n.pipes)), some (.ro 5 n.pipes.length (Lst eP n.pipes))] (.b (alikeB n n)) [] := (CallFr.to (alike_fr n n (by first | omega | (dsimp only; omega)) (by first | omega | (dsimp only; omega))) [(1, 10270), (2, 1)] (by kernel_rfl) (by kernel_rfl) (by kernel_rfl) (by kernel_rfl) (by kernel_rfl) (dem_cons rfl (le_vec_ro rfl el_rfl) (dem_cons rfl (le_ro rfl el_rfl) dem_nil)))
            have v149 : CallOK Try.prog 36 [.agg [.i o.pump, .ls 10290], .agg [.i o.pump, .ls 2]] [10290, 2] [some (.vec 54 5 ((o.pipes).length) (Lst eP o.pipes)), some (.ro 5 o.pipes.length (Lst eP o.pipes))] (.b (alikeB o o)) [] := (CallFr.to (alike_fr o o (by first | omega | (dsimp only; omega)) (by first | omega | (dsimp only; omega))) [(1, 10290), (2, 2)] (by kernel_rfl) (by kernel_rfl) (by kernel_rfl) (by kernel_rfl) (by kernel_rfl) (dem_cons rfl (le_vec_ro rfl el_rfl) (dem_cons rfl (le_ro rfl el_rfl) dem_nil)))
            refine aw_region [(2, .call [10270, 1] (.b (alikeB n n)) []), (4, .dec false), (7, .call [10290, 2] (.b (alikeB o o)) [])] [2, 3, 4, 9, 10, 11, 12, 13, 53] [1, 2, 1003, 1004, 1009, 1012]
                ⟨124, [1, 2], [(2, .i node), (3, .l (.ref 1003 0)), (4, .l (.ref 1004 0)), (9, .l (.ref 1009 0)), (10, .l (.v (.slice none 0 0))), (11, .i 7), (12, .l (.ref 1012 0)), (13, .i 7), (53, .b (!(alikeB o o)))], [(1, some (.ro 5 n.pipes.length (Lst eP n.pipes))), (2, some (.ro 5 o.pipes.length (Lst eP o.pipes))), (1003, some (.blk 24 [.i n.pump, .ls 1])), (1004, some (.blk 24 [.i o.pump, .ls 2])), (1009, some (.blk 24 [.i 0, .v (.slice none 0 0)])), (1012, some (.blk 24 [.i 0, .v (.slice none 0 0)]))]⟩
                [CallOK Try.prog 36 [.agg [.i n.pump, .ls 10270], .agg [.i n.pump, .ls 1]] [10270, 1] [some (.vec 54 5 ((n.pipes).length) (Lst eP n.pipes)), some (.ro 5 n.pipes.length (Lst eP n.pipes))] (.b (alikeB n n)) [], (!(alikeB n n)) = false, CallOK Try.prog 36 [.agg [.i o.pump, .ls 10290], .agg [.i o.pump, .ls 2]] [10290, 2] [some (.vec 54 5 ((o.pipes).length) (Lst eP o.pipes)), some (.ro 5 o.pipes.length (Lst eP o.pipes))] (.b (alikeB o o)) []] (by kernel_rfl) ⟨v148, h147, v149⟩ ?_
            clear v148 v149
            have h150 : ((!(alikeB o o))) = false := by rw [hal]; rfl
            refine aw_cond (b := (!(alikeB o o))) rfl (fun h => Bool.noConfusion (h150.symm.trans h)) (fun _ => ?_)
            refine aw_skip ?_
            refine aw_seq ?_
            have v151 : CallOK Try.prog 51 [.agg [.i n.pump, .ls 1], .i node, .agg [.i o.pump, .ls 2]] [1, 2] [some (.ro 5 n.pipes.length (Lst eP n.pipes)), some (.ro 5 o.pipes.length (Lst eP o.pipes))] (.tup [.agg [.i 0, .v (.slice none 0 0)], .one (.i 7)]) [] := (CallFr.to (refGraft_none n o node (by omega) (by omega) (by omega) (by omega) h10 h145 h11) [(1, 1), (2, 2)] (by kernel_rfl) (by kernel_rfl) (by kernel_rfl) (by kernel_rfl) (by kernel_rfl) (dem_cons rfl (le_ro rfl el_rfl) (dem_cons rfl (le_ro rfl el_rfl) dem_nil)))
            refine aw_region [(3, .call [1, 2] (.tup [.agg [.i 0, .v (.slice none 0 0)], .one (.i 7)]) []), (7, .new 1014)] [2, 3, 9, 10, 11, 12, 13, 14, 15] [1, 1003, 1009, 1012, 1014]
                ⟨124, [1, 2], [(2, .i node), (3, .l (.ref 1003 0)), (9, .l (.ref 1009 0)), (10, .l (.v (.slice none 0 0))), (11, .i 7), (12, .l (.ref 1012 0)), (13, .i 7), (14, .l (.ref 1014 0)), (15, .i 7)], [(1, some (.ro 5 n.pipes.length (Lst eP n.pipes))), (1003, some (.blk 24 [.i n.pump, .ls 1])), (1009, some (.blk 24 [.i 0, .v (.slice none 0 0)])), (1012, some (.blk 24 [.i 0, .v (.slice none 0 0)])), (1014, some (.blk 24 [.i 0, .v (.slice none 0 0)]))]⟩
                [CallOK Try.prog 51 [.agg [.i n.pump, .ls 1], .i node, .agg [.i o.pump, .ls 2]] [1, 2] [some (.ro 5 n.pipes.length (Lst eP n.pipes)), some (.ro 5 o.pipes.length (Lst eP o.pipes))] (.tup [.agg [.i 0, .v (.slice none 0 0)], .one (.i 7)]) []] (by kernel_rfl) v151 ?_
            clear v151
            refine aw_seq ?_
            refine aw_seq ?_
            have h152 : (decide ((7 : Int) ≠ (7 : Int))) = false := by decide
            have v153 : CallOK Try.prog 36 [.agg [.i 0, .v (.slice none 0 0)], .agg [.i 0, .v (.slice none 0 0)]] [] [] (.b (alikeB ⟨0, []⟩ ⟨0, []⟩)) [] := (CallFr.to (alike_nil 0 0) [] (by kernel_rfl) (by kernel_rfl) (by kernel_rfl) (by kernel_rfl) (by kernel_rfl) dem_nil)
            refine aw_region [(3, .dec false), (6, .call [] (.b (alikeB ⟨0, []⟩ ⟨0, []⟩)) [])] [2, 3, 9, 10, 11, 69] [1, 1003, 1009]
                ⟨124, [1, 2], [(2, .i node), (3, .l (.ref 1003 0)), (9, .l (.ref 1009 0)), (10, .l (.v (.slice none 0 0))), (11, .i 7), (69, .b (!(alikeB ⟨0, []⟩ ⟨0, []⟩)))], [(1, some (.ro 5 n.pipes.length (Lst eP n.pipes))), (1003, some (.blk 24 [.i n.pump, .ls 1])), (1009, some (.blk 24 [.i 0, .v (.slice none 0 0)]))]⟩
                [decide ((7 : Int) ≠ (7 : Int)) = false, CallOK Try.prog 36 [.agg [.i 0, .v (.slice none 0 0)], .agg [.i 0, .v (.slice none 0 0)]] [] [] (.b (alikeB ⟨0, []⟩ ⟨0, []⟩)) []] (by kernel_rfl) ⟨h152, v153⟩ ?_
            clear v153
            have h154 : ((!(alikeB ⟨0, []⟩ ⟨0, []⟩))) = false := by rw [hal]; rfl
            refine aw_cond (b := (!(alikeB ⟨0, []⟩ ⟨0, []⟩))) rfl (fun h => Bool.noConfusion (h154.symm.trans h)) (fun _ => ?_)
            refine aw_skip ?_
            refine aw_seq ?_
            refine aw_region [] [2, 3, 9, 10, 11, 16] [1, 1003, 1009]
                ⟨124, [1, 2], [(2, .i node), (3, .l (.ref 1003 0)), (9, .l (.ref 1009 0)), (10, .l (.v (.slice none 0 0))), (11, .i 7), (16, .i 0)], [(1, some (.ro 5 n.pipes.length (Lst eP n.pipes))), (1003, some (.blk 24 [.i n.pump, .ls 1])), (1009, some (.blk 24 [.i 0, .v (.slice none 0 0)]))]⟩
                [] (by kernel_rfl) trivial ?_
            refine aw_seq ?_
            refine aw_block ?_
            refine aw_seq ?_
            have v155 : CallOK Try.prog 32 [.agg [.i n.pump, .ls 1]] [1] [some (.ro 5 n.pipes.length (Lst eP n.pipes))] (.b (netB n)) [] := (CallFr.to (refNet_fr n (by omega)) [(1, 1)] (by kernel_rfl) (by kernel_rfl) (by kernel_rfl) (by kernel_rfl) (by kernel_rfl) (dem_cons rfl (le_ro rfl el_rfl) dem_nil))
            refine aw_region [(1, .call [1] (.b (netB n)) [])] [2, 3, 9, 10, 11, 16, 70] [1, 1003, 1009]
                ⟨124, [1, 2], [(2, .i node), (3, .l (.ref 1003 0)), (9, .l (.ref 1009 0)), (10, .l (.v (.slice none 0 0))), (11, .i 7), (16, .i 0), (70, .b (!(netB n)))], [(1, some (.ro 5 n.pipes.length (Lst eP n.pipes))), (1003, some (.blk 24 [.i n.pump, .ls 1])), (1009, some (.blk 24 [.i 0, .v (.slice none 0 0)]))]⟩
                [CallOK Try.prog 32 [.agg [.i n.pump, .ls 1]] [1] [some (.ro 5 n.pipes.length (Lst eP n.pipes))] (.b (netB n)) []] (by kernel_rfl) v155 ?_
            clear v155
            have h156 : (!(netB n)) = false := by rw [h10] <;> rfl
            refine aw_cond (b := (!(netB n))) rfl (fun h => Bool.noConfusion (h156.symm.trans h)) (fun _ => ?_)
            refine aw_seq ?_
            have v157 : -9223372036854775808 ≤ (((n.pipes.length : Nat) : Int) - 1) ∧ (((n.pipes.length : Nat) : Int) - 1) < 9223372036854775808 := (by first | omega | rfl | assumption)
            have v158 : CallOK Try.prog 52 [.i node, .i 0, .i (((n.pipes.length : Nat) : Int) - 1)] [] [] (.b (inB 0 (((n.pipes.length : Nat) : Int) - 1) node)) [] := (CallFr.to (refIn1_fr node 0 (((n.pipes.length : Nat) : Int) - 1)) [] (by kernel_rfl) (by kernel_rfl) (by kernel_rfl) (by kernel_rfl) (by kernel_rfl) dem_nil)
            refine aw_region [(5, .call [] (.b (inB 0 (((n.pipes.length : Nat) : Int) - 1) node)) [])] [2, 3, 9, 10, 11, 16, 74] [1, 1003, 1009]
                ⟨124, [1, 2], [(2, .i node), (3, .l (.ref 1003 0)), (9, .l (.ref 1009 0)), (10, .l (.v (.slice none 0 0))), (11, .i 7), (16, .i 0), (74, .b (!(inB 0 (((n.pipes.length : Nat) : Int) - 1) node)))], [(1, some (.ro 5 n.pipes.length (Lst eP n.pipes))), (1003, some (.blk 24 [.i n.pump, .ls 1])), (1009, some (.blk 24 [.i 0, .v (.slice none 0 0)]))]⟩
                [-9223372036854775808 ≤ (((n.pipes.length : Nat) : Int) - 1) ∧ (((n.pipes.length : Nat) : Int) - 1) < 9223372036854775808, CallOK Try.prog 52 [.i node, .i 0, .i (((n.pipes.length : Nat) : Int) - 1)] [] [] (.b (inB 0 (((n.pipes.length : Nat) : Int) - 1) node)) []] (by kernel_rfl) ⟨v157, v158⟩ ?_
            clear v157 v158
            have h159 : (!(inB 0 (((n.pipes.length : Nat) : Int) - 1) node)) = true := by rw [h11] <;> rfl
            refine aw_cond (b := (!(inB 0 (((n.pipes.length : Nat) : Int) - 1) node))) rfl (fun _ => ?_) (fun h => Bool.noConfusion (h159.symm.trans h))
            refine aw_region [] [2, 3, 9, 10, 11, 16] [1, 1003, 1009]
                ⟨124, [1, 2], [(2, .i node), (3, .l (.ref 1003 0)), (9, .l (.ref 1009 0)), (10, .l (.v (.slice none 0 0))), (11, .i 7), (16, .i 7)], [(1, some (.ro 5 n.pipes.length (Lst eP n.pipes))), (1003, some (.blk 24 [.i n.pump, .ls 1])), (1009, some (.blk 24 [.i 0, .v (.slice none 0 0)]))]⟩
                [] (by kernel_rfl) trivial ?_
            refine aw_seq ?_
            refine aw_seq ?_
            refine aw_region [] [2, 3, 9, 10, 11, 16, 86] [1, 1003, 1009]
                ⟨124, [1, 2], [(2, .i node), (3, .l (.ref 1003 0)), (9, .l (.ref 1009 0)), (10, .l (.v (.slice none 0 0))), (11, .i 7), (16, .i 7), (86, .b (decide ((7 : Int) ≠ (0 : Int))))], [(1, some (.ro 5 n.pipes.length (Lst eP n.pipes))), (1003, some (.blk 24 [.i n.pump, .ls 1])), (1009, some (.blk 24 [.i 0, .v (.slice none 0 0)]))]⟩
                [] (by kernel_rfl) trivial ?_
            have h160 : (decide ((7 : Int) ≠ (0 : Int))) = true := by decide
            refine aw_cond (b := decide ((7 : Int) ≠ (0 : Int))) rfl (fun _ => ?_) (fun h => Bool.noConfusion (h160.symm.trans h))
            refine aw_seq ?_
            have h161 : (decide ((7 : Int) = (7 : Int))) = true := by decide
            have h162 : (alikeB ⟨0, []⟩ ⟨0, []⟩) = true := by exact hal _
            have h163 : (decide ((0 : Int) = (0 : Int))) = true := by decide
            have v164 : CallOK Try.prog 36 [.agg [.i 0, .v (.slice none 0 0)], .agg [.i 0, .v (.slice none 0 0)]] [] [] (.b (alikeB ⟨0, []⟩ ⟨0, []⟩)) [] := (CallFr.to (alike_nil 0 0) [] (by kernel_rfl) (by kernel_rfl) (by kernel_rfl) (by kernel_rfl) (by kernel_rfl) dem_nil)
            have v165 : CallOK Try.prog 15 [] [] [] (.b true) [] := (CallFr.to (known_fr ) [] (by kernel_rfl) (by kernel_rfl) (by kernel_rfl) (by kernel_rfl) (by kernel_rfl) dem_nil)
            refine aw_region [(3, .dec true), (6, .call [] (.b (alikeB ⟨0, []⟩ ⟨0, []⟩)) []), (8, .dec true), (13, .dec true), (14, .call [] (.b true) [])] [6] []
                ⟨124, [1, 2], [(6, .b true)], []⟩
                [decide ((7 : Int) = (7 : Int)) = true, CallOK Try.prog 36 [.agg [.i 0, .v (.slice none 0 0)], .agg [.i 0, .v (.slice none 0 0)]] [] [] (.b (alikeB ⟨0, []⟩ ⟨0, []⟩)) [], alikeB ⟨0, []⟩ ⟨0, []⟩ = true, decide ((0 : Int) = (0 : Int)) = true, CallOK Try.prog 15 [] [] [] (.b true) []] (by kernel_rfl) ⟨h161, v164, h162, h163, v165⟩ ?_
            clear v164 v165
            exact aw_ret (ret_then ⟨.inr rfl, end_ok ⟨124, [1, 2], [(6, .b true)], []⟩
                (Ent.ren [] rfl rfl (by kernel_rfl) (slots_cons rfl slots_nil) conts_nil (by kernel_rfl)) rfl (by kernel_rfl) wr_nil (by kernel_rfl)⟩)
          ·
            have v166 : CallOK Try.prog 50 [.agg [.i n.pump, .ls 10270], .i node, .agg [.i o.pump, .ls 10290]] [10270, 10290] [some (.vec 54 5 ((n.pipes).length) (Lst eP n.pipes)), some (.vec 54 5 ((o.pipes).length) (Lst eP o.pipes))] (.tup [.agg [.i 0, .v (.slice none 0 0)], .one (.i 2)]) [] := (CallFr.to (Graft_bad2 n o node (by omega) (by omega) (by omega) (by omega) h10 h145) [(1, 10270), (2, 10290)] (by kernel_rfl) (by kernel_rfl) (by kernel_rfl) (by kernel_rfl) (by kernel_rfl) (dem_cons rfl (le_vec_ro rfl el_rfl) (dem_cons rfl (le_vec_ro rfl el_rfl) dem_nil)))
            refine aw_region [(3, .call [10270, 10290] (.tup [.agg [.i 0, .v (.slice none 0 0)], .one (.i 2)]) []), (7, .new 1012)] [2, 3, 4, 7, 8, 9, 10, 11, 12, 13] [1, 2, 1003, 1004, 1007, 1008, 1009, 1012, 10270, 10290]
                ⟨124, [1, 2], [(2, .i node), (3, .l (.ref 1003 0)), (4, .l (.ref 1004 0)), (7, .l (.ref 1007 0)), (8, .l (.ref 1008 0)), (9, .l (.ref 1009 0)), (10, .l (.v (.slice none 0 0))), (11, .i 7), (12, .l (.ref 1012 0)), (13, .i 2)], [(1, some (.ro 5 n.pipes.length (Lst eP n.pipes))), (2, some (.ro 5 o.pipes.length (Lst eP o.pipes))), (1003, some (.blk 24 [.i n.pump, .ls 1])), (1004, some (.blk 24 [.i o.pump, .ls 2])), (1007, some (.blk 24 [.i n.pump, .ls 10270])), (1008, some (.blk 24 [.i o.pump, .ls 10290])), (1009, some (.blk 24 [.i 0, .v (.slice none 0 0)])), (1012, some (.blk 24 [.i 0, .v (.slice none 0 0)])), (10270, some (.vec 54 5 ((n.pipes).length) (Lst eP n.pipes))), (10290, some (.vec 54 5 ((o.pipes).length) (Lst eP o.pipes)))]⟩
                [CallOK Try.prog 50 [.agg [.i n.pump, .ls 10270], .i node, .agg [.i o.pump, .ls 10290]] [10270, 10290] [some (.vec 54 5 ((n.pipes).length) (Lst eP n.pipes)), some (.vec 54 5 ((o.pipes).length) (Lst eP o.pipes))] (.tup [.agg [.i 0, .v (.slice none 0 0)], .one (.i 2)]) []] (by kernel_rfl) v166 ?_
            clear v166
            refine aw_seq ?_
            refine aw_seq ?_
            have h167 : ((!(alikeB n n))) = false := by rw [hal]; rfl
            have v168 : CallOK Try.prog 36 [.agg [.i n.pump, .ls 10270], .agg [.i n.pump, .ls 1]] [10270, 1] [some (.vec 54 5 ((n.pipes).length) (Lst eP n.pipes)), some (.ro 5 n.pipes.length (Lst eP n.pipes))] (.b (alikeB n n)) [] := (CallFr.to (alike_fr n n (by first | omega | (dsimp only; omega)) (by first | omega | (dsimp only; omega))) [(1, 10270), (2, 1)] (by kernel_rfl) (by kernel_rfl) (by kernel_rfl) (by kernel_rfl) (by kernel_rfl) (dem_cons rfl (le_vec_ro rfl el_rfl) (dem_cons rfl (le_ro rfl el_rfl) dem_nil)))
            have v169 : CallOK Try.prog 36 [.agg [.i o.pump, .ls 10290], .agg [.i o.pump, .ls 2]] [10290, 2] [some (.vec 54 5 ((o.pipes).length) (Lst eP o.pipes)), some (.ro 5 o.pipes.length (Lst eP o.pipes))] (.b (alikeB o o)) [] := (CallFr.to (alike_fr o o (by first | omega | (dsimp only; omega)) (by first | omega | (dsimp only; omega))) [(1, 10290), (2, 2)] (by kernel_rfl) (by kernel_rfl) (by kernel_rfl) (by kernel_rfl) (by kernel_rfl) (dem_cons rfl (le_vec_ro rfl el_rfl) (dem_cons rfl (le_ro rfl el_rfl) dem_nil)))
            refine aw_region [(2, .call [10270, 1] (.b (alikeB n n)) []), (4, .dec false), (7, .call [10290, 2] (.b (alikeB o o)) [])] [2, 3, 4, 9, 10, 11, 12, 13, 53] [1, 2, 1003, 1004, 1009, 1012]
                ⟨124, [1, 2], [(2, .i node), (3, .l (.ref 1003 0)), (4, .l (.ref 1004 0)), (9, .l (.ref 1009 0)), (10, .l (.v (.slice none 0 0))), (11, .i 7), (12, .l (.ref 1012 0)), (13, .i 2), (53, .b (!(alikeB o o)))], [(1, some (.ro 5 n.pipes.length (Lst eP n.pipes))), (2, some (.ro 5 o.pipes.length (Lst eP o.pipes))), (1003, some (.blk 24 [.i n.pump, .ls 1])), (1004, some (.blk 24 [.i o.pump, .ls 2])), (1009, some (.blk 24 [.i 0, .v (.slice none 0 0)])), (1012, some (.blk 24 [.i 0, .v (.slice none 0 0)]))]⟩
                [CallOK Try.prog 36 [.agg [.i n.pump, .ls 10270], .agg [.i n.pump, .ls 1]] [10270, 1] [some (.vec 54 5 ((n.pipes).length) (Lst eP n.pipes)), some (.ro 5 n.pipes.length (Lst eP n.pipes))] (.b (alikeB n n)) [], (!(alikeB n n)) = false, CallOK Try.prog 36 [.agg [.i o.pump, .ls 10290], .agg [.i o.pump, .ls 2]] [10290, 2] [some (.vec 54 5 ((o.pipes).length) (Lst eP o.pipes)), some (.ro 5 o.pipes.length (Lst eP o.pipes))] (.b (alikeB o o)) []] (by kernel_rfl) ⟨v168, h167, v169⟩ ?_
            clear v168 v169
            have h170 : ((!(alikeB o o))) = false := by rw [hal]; rfl
            refine aw_cond (b := (!(alikeB o o))) rfl (fun h => Bool.noConfusion (h170.symm.trans h)) (fun _ => ?_)
            refine aw_skip ?_
            refine aw_seq ?_
            have v171 : CallOK Try.prog 51 [.agg [.i n.pump, .ls 1], .i node, .agg [.i o.pump, .ls 2]] [1, 2] [some (.ro 5 n.pipes.length (Lst eP n.pipes)), some (.ro 5 o.pipes.length (Lst eP o.pipes))] (.tup [.agg [.i 0, .v (.slice none 0 0)], .one (.i 2)]) [] := (CallFr.to (refGraft_bad2 n o node (by omega) (by omega) (by omega) (by omega) h10 h145) [(1, 1), (2, 2)] (by kernel_rfl) (by kernel_rfl) (by kernel_rfl) (by kernel_rfl) (by kernel_rfl) (dem_cons rfl (le_ro rfl el_rfl) (dem_cons rfl (le_ro rfl el_rfl) dem_nil)))
            refine aw_region [(3, .call [1, 2] (.tup [.agg [.i 0, .v (.slice none 0 0)], .one (.i 2)]) []), (7, .new 1014)] [2, 3, 9, 10, 11, 12, 13, 14, 15] [1, 1003, 1009, 1012, 1014]
                ⟨124, [1, 2], [(2, .i node), (3, .l (.ref 1003 0)), (9, .l (.ref 1009 0)), (10, .l (.v (.slice none 0 0))), (11, .i 7), (12, .l (.ref 1012 0)), (13, .i 2), (14, .l (.ref 1014 0)), (15, .i 2)], [(1, some (.ro 5 n.pipes.length (Lst eP n.pipes))), (1003, some (.blk 24 [.i n.pump, .ls 1])), (1009, some (.blk 24 [.i 0, .v (.slice none 0 0)])), (1012, some (.blk 24 [.i 0, .v (.slice none 0 0)])), (1014, some (.blk 24 [.i 0, .v (.slice none 0 0)]))]⟩
                [CallOK Try.prog 51 [.agg [.i n.pump, .ls 1], .i node, .agg [.i o.pump, .ls 2]] [1, 2] [some (.ro 5 n.pipes.length (Lst eP n.pipes)), some (.ro 5 o.pipes.length (Lst eP o.pipes))] (.tup [.agg [.i 0, .v (.slice none 0 0)], .one (.i 2)]) []] (by kernel_rfl) v171 ?_
            clear v171
            refine aw_seq ?_
            refine aw_seq ?_
            have h172 : (decide ((2 : Int) ≠ (2 : Int))) = false := by decide
            have v173 : CallOK Try.prog 36 [.agg [.i 0, .v (.slice none 0 0)], .agg [.i 0, .v (.slice none 0 0)]] [] [] (.b (alikeB ⟨0, []⟩ ⟨0, []⟩)) [] := (CallFr.to (alike_nil 0 0) [] (by kernel_rfl) (by kernel_rfl) (by kernel_rfl) (by kernel_rfl) (by kernel_rfl) dem_nil)
            refine aw_region [(3, .dec false), (6, .call [] (.b (alikeB ⟨0, []⟩ ⟨0, []⟩)) [])] [2, 3, 9, 10, 11, 69] [1, 1003, 1009]
                ⟨124, [1, 2], [(2, .i node), (3, .l (.ref 1003 0)), (9, .l (.ref 1009 0)), (10, .l (.v (.slice none 0 0))), (11, .i 7), (69, .b (!(alikeB ⟨0, []⟩ ⟨0, []⟩)))], [(1, some (.ro 5 n.pipes.length (Lst eP n.pipes))), (1003, some (.blk 24 [.i n.pump, .ls 1])), (1009, some (.blk 24 [.i 0, .v (.slice none 0 0)]))]⟩
                [decide ((2 : Int) ≠ (2 : Int)) = false, CallOK Try.prog 36 [.agg [.i 0, .v (.slice none 0 0)], .agg [.i 0, .v (.slice none 0 0)]] [] [] (.b (alikeB ⟨0, []⟩ ⟨0, []⟩)) []] (by kernel_rfl) ⟨h172, v173⟩ ?_
            clear v173
            have h174 : ((!(alikeB ⟨0, []⟩ ⟨0, []⟩))) = false := by rw [hal]; rfl
            refine aw_cond (b := (!(alikeB ⟨0, []⟩ ⟨0, []⟩))) rfl (fun h => Bool.noConfusion (h174.symm.trans h)) (fun _ => ?_)
            refine aw_skip ?_
            refine aw_seq ?_
            refine aw_region [] [2, 3, 9, 10, 11, 16] [1, 1003, 1009]
                ⟨124, [1, 2], [(2, .i node), (3, .l (.ref 1003 0)), (9, .l (.ref 1009 0)), (10, .l (.v (.slice none 0 0))), (11, .i 7), (16, .i 0)], [(1, some (.ro 5 n.pipes.length (Lst eP n.pipes))), (1003, some (.blk 24 [.i n.pump, .ls 1])), (1009, some (.blk 24 [.i 0, .v (.slice none 0 0)]))]⟩
                [] (by kernel_rfl) trivial ?_
            refine aw_seq ?_
            refine aw_block ?_
            refine aw_seq ?_
            have v175 : CallOK Try.prog 32 [.agg [.i n.pump, .ls 1]] [1] [some (.ro 5 n.pipes.length (Lst eP n.pipes))] (.b (netB n)) [] := (CallFr.to (refNet_fr n (by omega)) [(1, 1)] (by kernel_rfl) (by kernel_rfl) (by kernel_rfl) (by kernel_rfl) (by kernel_rfl) (dem_cons rfl (le_ro rfl el_rfl) dem_nil))
            refine aw_region [(1, .call [1] (.b (netB n)) [])] [2, 3, 9, 10, 11, 16, 70] [1, 1003, 1009]
                ⟨124, [1, 2], [(2, .i node), (3, .l (.ref 1003 0)), (9, .l (.ref 1009 0)), (10, .l (.v (.slice none 0 0))), (11, .i 7), (16, .i 0), (70, .b (!(netB n)))], [(1, some (.ro 5 n.pipes.length (Lst eP n.pipes))), (1003, some (.blk 24 [.i n.pump, .ls 1])), (1009, some (.blk 24 [.i 0, .v (.slice none 0 0)]))]⟩
                [CallOK Try.prog 32 [.agg [.i n.pump, .ls 1]] [1] [some (.ro 5 n.pipes.length (Lst eP n.pipes))] (.b (netB n)) []] (by kernel_rfl) v175 ?_
            clear v175
            have h176 : (!(netB n)) = false := by rw [h10] <;> rfl
            refine aw_cond (b := (!(netB n))) rfl (fun h => Bool.noConfusion (h176.symm.trans h)) (fun _ => ?_)
            refine aw_seq ?_
            have v177 : -9223372036854775808 ≤ (((n.pipes.length : Nat) : Int) - 1) ∧ (((n.pipes.length : Nat) : Int) - 1) < 9223372036854775808 := (by first | omega | rfl | assumption)
            have v178 : CallOK Try.prog 52 [.i node, .i 0, .i (((n.pipes.length : Nat) : Int) - 1)] [] [] (.b (inB 0 (((n.pipes.length : Nat) : Int) - 1) node)) [] := (CallFr.to (refIn1_fr node 0 (((n.pipes.length : Nat) : Int) - 1)) [] (by kernel_rfl) (by kernel_rfl) (by kernel_rfl) (by kernel_rfl) (by kernel_rfl) dem_nil)
            refine aw_region [(5, .call [] (.b (inB 0 (((n.pipes.length : Nat) : Int) - 1) node)) [])] [2, 3, 9, 10, 11, 16, 74] [1, 1003, 1009]
                ⟨124, [1, 2], [(2, .i node), (3, .l (.ref 1003 0)), (9, .l (.ref 1009 0)), (10, .l (.v (.slice none 0 0))), (11, .i 7), (16, .i 0), (74, .b (!(inB 0 (((n.pipes.length : Nat) : Int) - 1) node)))], [(1, some (.ro 5 n.pipes.length (Lst eP n.pipes))), (1003, some (.blk 24 [.i n.pump, .ls 1])), (1009, some (.blk 24 [.i 0, .v (.slice none 0 0)]))]⟩
                [-9223372036854775808 ≤ (((n.pipes.length : Nat) : Int) - 1) ∧ (((n.pipes.length : Nat) : Int) - 1) < 9223372036854775808, CallOK Try.prog 52 [.i node, .i 0, .i (((n.pipes.length : Nat) : Int) - 1)] [] [] (.b (inB 0 (((n.pipes.length : Nat) : Int) - 1) node)) []] (by kernel_rfl) ⟨v177, v178⟩ ?_
            clear v177 v178
            have h179 : (!(inB 0 (((n.pipes.length : Nat) : Int) - 1) node)) = true := by rw [h11] <;> rfl
            refine aw_cond (b := (!(inB 0 (((n.pipes.length : Nat) : Int) - 1) node))) rfl (fun _ => ?_) (fun h => Bool.noConfusion (h179.symm.trans h))
            refine aw_region [] [2, 3, 9, 10, 11, 16] [1, 1003, 1009]
                ⟨124, [1, 2], [(2, .i node), (3, .l (.ref 1003 0)), (9, .l (.ref 1009 0)), (10, .l (.v (.slice none 0 0))), (11, .i 7), (16, .i 7)], [(1, some (.ro 5 n.pipes.length (Lst eP n.pipes))), (1003, some (.blk 24 [.i n.pump, .ls 1])), (1009, some (.blk 24 [.i 0, .v (.slice none 0 0)]))]⟩
                [] (by kernel_rfl) trivial ?_
            refine aw_seq ?_
            refine aw_seq ?_
            refine aw_region [] [2, 3, 9, 10, 11, 16, 86] [1, 1003, 1009]
                ⟨124, [1, 2], [(2, .i node), (3, .l (.ref 1003 0)), (9, .l (.ref 1009 0)), (10, .l (.v (.slice none 0 0))), (11, .i 7), (16, .i 7), (86, .b (decide ((7 : Int) ≠ (0 : Int))))], [(1, some (.ro 5 n.pipes.length (Lst eP n.pipes))), (1003, some (.blk 24 [.i n.pump, .ls 1])), (1009, some (.blk 24 [.i 0, .v (.slice none 0 0)]))]⟩
                [] (by kernel_rfl) trivial ?_
            have h180 : (decide ((7 : Int) ≠ (0 : Int))) = true := by decide
            refine aw_cond (b := decide ((7 : Int) ≠ (0 : Int))) rfl (fun _ => ?_) (fun h => Bool.noConfusion (h180.symm.trans h))
            refine aw_seq ?_
            have h181 : (decide ((7 : Int) = (7 : Int))) = true := by decide
            have h182 : (alikeB ⟨0, []⟩ ⟨0, []⟩) = true := by exact hal _
            have h183 : (decide ((0 : Int) = (0 : Int))) = true := by decide
            have v184 : CallOK Try.prog 36 [.agg [.i 0, .v (.slice none 0 0)], .agg [.i 0, .v (.slice none 0 0)]] [] [] (.b (alikeB ⟨0, []⟩ ⟨0, []⟩)) [] := (CallFr.to (alike_nil 0 0) [] (by kernel_rfl) (by kernel_rfl) (by kernel_rfl) (by kernel_rfl) (by kernel_rfl) dem_nil)
            have v185 : CallOK Try.prog 15 [] [] [] (.b true) [] := (CallFr.to (known_fr ) [] (by kernel_rfl) (by kernel_rfl) (by kernel_rfl) (by kernel_rfl) (by kernel_rfl) dem_nil)
            refine aw_region [(3, .dec true), (6, .call [] (.b (alikeB ⟨0, []⟩ ⟨0, []⟩)) []), (8, .dec true), (13, .dec true), (14, .call [] (.b true) [])] [6] []
                ⟨124, [1, 2], [(6, .b true)], []⟩
                [decide ((7 : Int) = (7 : Int)) = true, CallOK Try.prog 36 [.agg [.i 0, .v (.slice none 0 0)], .agg [.i 0, .v (.slice none 0 0)]] [] [] (.b (alikeB ⟨0, []⟩ ⟨0, []⟩)) [], alikeB ⟨0, []⟩ ⟨0, []⟩ = true, decide ((0 : Int) = (0 : Int)) = true, CallOK Try.prog 15 [] [] [] (.b true) []] (by kernel_rfl) ⟨h181, v184, h182, h183, v185⟩ ?_
            clear v184 v185
            exact aw_ret (ret_then ⟨.inr rfl, end_ok ⟨124, [1, 2], [(6, .b true)], []⟩
                (Ent.ren [] rfl rfl (by kernel_rfl) (slots_cons rfl slots_nil) conts_nil (by kernel_rfl)) rfl (by kernel_rfl) wr_nil (by kernel_rfl)⟩)
      ·
        have v186 : CallOK Try.prog 49 [.agg [.i n.pump, .ls 10270], .i node] [10270] [some (.vec 54 5 ((n.pipes).length) (Lst eP n.pipes))] (.tup [.agg [.i 0, .v (.slice none 0 0)], .one (.v (.slice none 0 0)), .one (.i 2)]) [] := (CallFr.to (Cut_bad n node (by omega) (by omega) (by omega) h10) [(1, 10270)] (by kernel_rfl) (by kernel_rfl) (by kernel_rfl) (by kernel_rfl) (by kernel_rfl) (dem_cons rfl (le_vec_ro rfl el_rfl) dem_nil))
        refine aw_region [(2, .call [10270] (.tup [.agg [.i 0, .v (.slice none 0 0)], .one (.v (.slice none 0 0)), .one (.i 2)]) []), (7, .new 1009)] [2, 3, 4, 7, 8, 9, 10, 11] [1, 2, 1003, 1004, 1007, 1008, 1009, 10270, 10290]
            ⟨124, [1, 2], [(2, .i node), (3, .l (.ref 1003 0)), (4, .l (.ref 1004 0)), (7, .l (.ref 1007 0)), (8, .l (.ref 1008 0)), (9, .l (.ref 1009 0)), (10, .l (.v (.slice none 0 0))), (11, .i 2)], [(1, some (.ro 5 n.pipes.length (Lst eP n.pipes))), (2, some (.ro 5 o.pipes.length (Lst eP o.pipes))), (1003, some (.blk 24 [.i n.pump, .ls 1])), (1004, some (.blk 24 [.i o.pump, .ls 2])), (1007, some (.blk 24 [.i n.pump, .ls 10270])), (1008, some (.blk 24 [.i o.pump, .ls 10290])), (1009, some (.blk 24 [.i 0, .v (.slice none 0 0)])), (10270, some (.vec 54 5 ((n.pipes).length) (Lst eP n.pipes))), (10290, some (.vec 54 5 ((o.pipes).length) (Lst eP o.pipes)))]⟩
            [CallOK Try.prog 49 [.agg [.i n.pump, .ls 10270], .i node] [10270] [some (.vec 54 5 ((n.pipes).length) (Lst eP n.pipes))] (.tup [.agg [.i 0, .v (.slice none 0 0)], .one (.v (.slice none 0 0)), .one (.i 2)]) []] (by kernel_rfl) v186 ?_
        clear v186
        refine aw_seq ?_
        have v187 : CallOK Try.prog 50 [.agg [.i n.pump, .ls 10270], .i node, .agg [.i o.pump, .ls 10290]] [10270, 10290] [some (.vec 54 5 ((n.pipes).length) (Lst eP n.pipes)), some (.vec 54 5 ((o.pipes).length) (Lst eP o.pipes))] (.tup [.agg [.i 0, .v (.slice none 0 0)], .one (.i 2)]) [] := (CallFr.to (Graft_bad n o node (by omega) (by omega) (by omega) (by omega) h10) [(1, 10270), (2, 10290)] (by kernel_rfl) (by kernel_rfl) (by kernel_rfl) (by kernel_rfl) (by kernel_rfl) (dem_cons rfl (le_vec_ro rfl el_rfl) (dem_cons rfl (le_vec_ro rfl el_rfl) dem_nil)))
        refine aw_region [(3, .call [10270, 10290] (.tup [.agg [.i 0, .v (.slice none 0 0)], .one (.i 2)]) []), (7, .new 1012)] [2, 3, 4, 7, 8, 9, 10, 11, 12, 13] [1, 2, 1003, 1004, 1007, 1008, 1009, 1012, 10270, 10290]
            ⟨124, [1, 2], [(2, .i node), (3, .l (.ref 1003 0)), (4, .l (.ref 1004 0)), (7, .l (.ref 1007 0)), (8, .l (.ref 1008 0)), (9, .l (.ref 1009 0)), (10, .l (.v (.slice none 0 0))), (11, .i 2), (12, .l (.ref 1012 0)), (13, .i 2)], [(1, some (.ro 5 n.pipes.length (Lst eP n.pipes))), (2, some (.ro 5 o.pipes.length (Lst eP o.pipes))), (1003, some (.blk 24 [.i n.pump, .ls 1])), (1004, some (.blk 24 [.i o.pump, .ls 2])), (1007, some (.blk 24 [.i n.pump, .ls 10270])), (1008, some (.blk 24 [.i o.pump, .ls 10290])), (1009, some (.blk 24 [.i 0, .v (.slice none 0 0)])), (1012, some (.blk 24 [.i 0, .v (.slice none 0 0)])), (10270, some (.vec 54 5 ((n.pipes).length) (Lst eP n.pipes))), (10290, some (.vec 54 5 ((o.pipes).length) (Lst eP o.pipes)))]⟩
            [CallOK Try.prog 50 [.agg [.i n.pump, .ls 10270], .i node, .agg [.i o.pump, .ls 10290]] [10270, 10290] [some (.vec 54 5 ((n.pipes).length) (Lst eP n.pipes)), some (.vec 54 5 ((o.pipes).length) (Lst eP o.pipes))] (.tup [.agg [.i 0, .v (.slice none 0 0)], .one (.i 2)]) []] (by kernel_rfl) v187 ?_
        clear v187
        refine aw_seq ?_
        refine aw_seq ?_
        have h188 : ((!(alikeB n n))) = false := by rw [hal]; rfl
        have v189 : CallOK Try.prog 36 [.agg [.i n.pump, .ls 10270], .agg [.i n.pump, .ls 1]] [10270, 1] [some (.vec 54 5 ((n.pipes).length) (Lst eP n.pipes)), some (.ro 5 n.pipes.length (Lst eP n.pipes))] (.b (alikeB n n)) [] := (CallFr.to (alike_fr n n (by first | omega | (dsimp only; omega)) (by first | omega | (dsimp only; omega))) [(1, 10270), (2, 1)] (by kernel_rfl) (by kernel_rfl) (by kernel_rfl) (by kernel_rfl) (by kernel_rfl) (dem_cons rfl (le_vec_ro rfl el_rfl) (dem_cons rfl (le_ro rfl el_rfl) dem_nil)))
        have v190 : CallOK Try.prog 36 [.agg [.i o.pump, .ls 10290], .agg [.i o.pump, .ls 2]] [10290, 2] [some (.vec 54 5 ((o.pipes).length) (Lst eP o.pipes)), some (.ro 5 o.pipes.length (Lst eP o.pipes))] (.b (alikeB o o)) [] := (CallFr.to (alike_fr o o (by first | omega | (dsimp only; omega)) (by first | omega | (dsimp only; omega))) [(1, 10290), (2, 2)] (by kernel_rfl) (by kernel_rfl) (by kernel_rfl) (by kernel_rfl) (by kernel_rfl) (dem_cons rfl (le_vec_ro rfl el_rfl) (dem_cons rfl (le_ro rfl el_rfl) dem_nil)))
        refine aw_region [(2, .call [10270, 1] (.b (alikeB n n)) []), (4, .dec false), (7, .call [10290, 2] (.b (alikeB o o)) [])] [2, 3, 4, 9, 10, 11, 12, 13, 53] [1, 2, 1003, 1004, 1009, 1012]
            ⟨124, [1, 2], [(2, .i node), (3, .l (.ref 1003 0)), (4, .l (.ref 1004 0)), (9, .l (.ref 1009 0)), (10, .l (.v (.slice none 0 0))), (11, .i 2), (12, .l (.ref 1012 0)), (13, .i 2), (53, .b (!(alikeB o o)))], [(1, some (.ro 5 n.pipes.length (Lst eP n.pipes))), (2, some (.ro 5 o.pipes.length (Lst eP o.pipes))), (1003, some (.blk 24 [.i n.pump, .ls 1])), (1004, some (.blk 24 [.i o.pump, .ls 2])), (1009, some (.blk 24 [.i 0, .v (.slice none 0 0)])), (1012, some (.blk 24 [.i 0, .v (.slice none 0 0)]))]⟩
            [CallOK Try.prog 36 [.agg [.i n.pump, .ls 10270], .agg [.i n.pump, .ls 1]] [10270, 1] [some (.vec 54 5 ((n.pipes).length) (Lst eP n.pipes)), some (.ro 5 n.pipes.length (Lst eP n.pipes))] (.b (alikeB n n)) [], (!(alikeB n n)) = false, CallOK Try.prog 36 [.agg [.i o.pump, .ls 10290], .agg [.i o.pump, .ls 2]] [10290, 2] [some (.vec 54 5 ((o.pipes).length) (Lst eP o.pipes)), some (.ro 5 o.pipes.length (Lst eP o.pipes))] (.b (alikeB o o)) []] (by kernel_rfl) ⟨v189, h188, v190⟩ ?_
        clear v189 v190
        have h191 : ((!(alikeB o o))) = false := by rw [hal]; rfl
        refine aw_cond (b := (!(alikeB o o))) rfl (fun h => Bool.noConfusion (h191.symm.trans h)) (fun _ => ?_)
        refine aw_skip ?_
        refine aw_seq ?_
        have v192 : CallOK Try.prog 51 [.agg [.i n.pump, .ls 1], .i node, .agg [.i o.pump, .ls 2]] [1, 2] [some (.ro 5 n.pipes.length (Lst eP n.pipes)), some (.ro 5 o.pipes.length (Lst eP o.pipes))] (.tup [.agg [.i 0, .v (.slice none 0 0)], .one (.i 2)]) [] := (CallFr.to (refGraft_bad n o node (by omega) (by omega) (by omega) (by omega) h10) [(1, 1), (2, 2)] (by kernel_rfl) (by kernel_rfl) (by kernel_rfl) (by kernel_rfl) (by kernel_rfl) (dem_cons rfl (le_ro rfl el_rfl) (dem_cons rfl (le_ro rfl el_rfl) dem_nil)))
        refine aw_region [(3, .call [1, 2] (.tup [.agg [.i 0, .v (.slice none 0 0)], .one (.i 2)]) []), (7, .new 1014)] [2, 3, 9, 10, 11, 12, 13, 14, 15] [1, 1003, 1009, 1012, 1014]
            ⟨124, [1, 2], [(2, .i node), (3, .l (.ref 1003 0)), (9, .l (.ref 1009 0)), (10, .l (.v (.slice none 0 0))), (11, .i 2), (12, .l (.ref 1012 0)), (13, .i 2), (14, .l (.ref 1014 0)), (15, .i 2)], [(1, some (.ro 5 n.pipes.length (Lst eP n.pipes))), (1003, some (.blk 24 [.i n.pump, .ls 1])), (1009, some (.blk 24 [.i 0, .v (.slice none 0 0)])), (1012, some (.blk 24 [.i 0, .v (.slice none 0 0)])), (1014, some (.blk 24 [.i 0, .v (.slice none 0 0)]))]⟩
            [CallOK Try.prog 51 [.agg [.i n.pump, .ls 1], .i node, .agg [.i o.pump, .ls 2]] [1, 2] [some (.ro 5 n.pipes.length (Lst eP n.pipes)), some (.ro 5 o.pipes.length (Lst eP o.pipes))] (.tup [.agg [.i 0, .v (.slice none 0 0)], .one (.i 2)]) []] (by kernel_rfl) v192 ?_
        clear v192
        refine aw_seq ?_
        refine aw_seq ?_
        have h193 : (decide ((2 : Int) ≠ (2 : Int))) = false := by decide
        have v194 : CallOK Try.prog 36 [.agg [.i 0, .v (.slice none 0 0)], .agg [.i 0, .v (.slice none 0 0)]] [] [] (.b (alikeB ⟨0, []⟩ ⟨0, []⟩)) [] := (CallFr.to (alike_nil 0 0) [] (by kernel_rfl) (by kernel_rfl) (by kernel_rfl) (by kernel_rfl) (by kernel_rfl) dem_nil)
        refine aw_region [(3, .dec false), (6, .call [] (.b (alikeB ⟨0, []⟩ ⟨0, []⟩)) [])] [2, 3, 9, 10, 11, 69] [1, 1003, 1009]
            ⟨124, [1, 2], [(2, .i node), (3, .l (.ref 1003 0)), (9, .l (.ref 1009 0)), (10, .l (.v (.slice none 0 0))), (11, .i 2), (69, .b (!(alikeB ⟨0, []⟩ ⟨0, []⟩)))], [(1, some (.ro 5 n.pipes.length (Lst eP n.pipes))), (1003, some (.blk 24 [.i n.pump, .ls 1])), (1009, some (.blk 24 [.i 0, .v (.slice none 0 0)]))]⟩
            [decide ((2 : Int) ≠ (2 : Int)) = false, CallOK Try.prog 36 [.agg [.i 0, .v (.slice none 0 0)], .agg [.i 0, .v (.slice none 0 0)]] [] [] (.b (alikeB ⟨0, []⟩ ⟨0, []⟩)) []] (by kernel_rfl) ⟨h193, v194⟩ ?_
        clear v194
        have h195 : ((!(alikeB ⟨0, []⟩ ⟨0, []⟩))) = false := by rw [hal]; rfl
        refine aw_cond (b := (!(alikeB ⟨0, []⟩ ⟨0, []⟩))) rfl (fun h => Bool.noConfusion (h195.symm.trans h)) (fun _ => ?_)
        refine aw_skip ?_
        refine aw_seq ?_
        refine aw_region [] [2, 3, 9, 10, 11, 16] [1, 1003, 1009]
            ⟨124, [1, 2], [(2, .i node), (3, .l (.ref 1003 0)), (9, .l (.ref 1009 0)), (10, .l (.v (.slice none 0 0))), (11, .i 2), (16, .i 0)], [(1, some (.ro 5 n.pipes.length (Lst eP n.pipes))), (1003, some (.blk 24 [.i n.pump, .ls 1])), (1009, some (.blk 24 [.i 0, .v (.slice none 0 0)]))]⟩
            [] (by kernel_rfl) trivial ?_
        refine aw_seq ?_
        refine aw_block ?_
        refine aw_seq ?_
        have v196 : CallOK Try.prog 32 [.agg [.i n.pump, .ls 1]] [1] [some (.ro 5 n.pipes.length (Lst eP n.pipes))] (.b (netB n)) [] := (CallFr.to (refNet_fr n (by omega)) [(1, 1)] (by kernel_rfl) (by kernel_rfl) (by kernel_rfl) (by kernel_rfl) (by kernel_rfl) (dem_cons rfl (le_ro rfl el_rfl) dem_nil))
        refine aw_region [(1, .call [1] (.b (netB n)) [])] [2, 3, 9, 10, 11, 16, 70] [1, 1003, 1009]
            ⟨124, [1, 2], [(2, .i node), (3, .l (.ref 1003 0)), (9, .l (.ref 1009 0)), (10, .l (.v (.slice none 0 0))), (11, .i 2), (16, .i 0), (70, .b (!(netB n)))], [(1, some (.ro 5 n.pipes.length (Lst eP n.pipes))), (1003, some (.blk 24 [.i n.pump, .ls 1])), (1009, some (.blk 24 [.i 0, .v (.slice none 0 0)]))]⟩
            [CallOK Try.prog 32 [.agg [.i n.pump, .ls 1]] [1] [some (.ro 5 n.pipes.length (Lst eP n.pipes))] (.b (netB n)) []] (by kernel_rfl) v196 ?_
        clear v196
        have h197 : (!(netB n)) = true := by rw [h10] <;> rfl
        refine aw_cond (b := (!(netB n))) rfl (fun _ => ?_) (fun h => Bool.noConfusion (h197.symm.trans h))
        refine aw_region [] [2, 3, 9, 10, 11, 16] [1, 1003, 1009]
            ⟨124, [1, 2], [(2, .i node), (3, .l (.ref 1003 0)), (9, .l (.ref 1009 0)), (10, .l (.v (.slice none 0 0))), (11, .i 2), (16, .i 2)], [(1, some (.ro 5 n.pipes.length (Lst eP n.pipes))), (1003, some (.blk 24 [.i n.pump, .ls 1])), (1009, some (.blk 24 [.i 0, .v (.slice none 0 0)]))]⟩
            [] (by kernel_rfl) trivial ?_
        refine aw_seq ?_
        refine aw_seq ?_
        refine aw_region [] [2, 3, 9, 10, 11, 16, 86] [1, 1003, 1009]
            ⟨124, [1, 2], [(2, .i node), (3, .l (.ref 1003 0)), (9, .l (.ref 1009 0)), (10, .l (.v (.slice none 0 0))), (11, .i 2), (16, .i 2), (86, .b (decide ((2 : Int) ≠ (0 : Int))))], [(1, some (.ro 5 n.pipes.length (Lst eP n.pipes))), (1003, some (.blk 24 [.i n.pump, .ls 1])), (1009, some (.blk 24 [.i 0, .v (.slice none 0 0)]))]⟩
            [] (by kernel_rfl) trivial ?_
        have h198 : (decide ((2 : Int) ≠ (0 : Int))) = true := by decide
        refine aw_cond (b := decide ((2 : Int) ≠ (0 : Int))) rfl (fun _ => ?_) (fun h => Bool.noConfusion (h198.symm.trans h))
        refine aw_seq ?_
        have h199 : (decide ((2 : Int) = (2 : Int))) = true := by decide
        have h200 : (alikeB ⟨0, []⟩ ⟨0, []⟩) = true := by exact hal _
        have h201 : (decide ((0 : Int) = (0 : Int))) = true := by decide
        have v202 : CallOK Try.prog 36 [.agg [.i 0, .v (.slice none 0 0)], .agg [.i 0, .v (.slice none 0 0)]] [] [] (.b (alikeB ⟨0, []⟩ ⟨0, []⟩)) [] := (CallFr.to (alike_nil 0 0) [] (by kernel_rfl) (by kernel_rfl) (by kernel_rfl) (by kernel_rfl) (by kernel_rfl) dem_nil)
        have v203 : CallOK Try.prog 15 [] [] [] (.b true) [] := (CallFr.to (known_fr ) [] (by kernel_rfl) (by kernel_rfl) (by kernel_rfl) (by kernel_rfl) (by kernel_rfl) dem_nil)
        refine aw_region [(3, .dec true), (6, .call [] (.b (alikeB ⟨0, []⟩ ⟨0, []⟩)) []), (8, .dec true), (13, .dec true), (14, .call [] (.b true) [])] [6] []
            ⟨124, [1, 2], [(6, .b true)], []⟩
            [decide ((2 : Int) = (2 : Int)) = true, CallOK Try.prog 36 [.agg [.i 0, .v (.slice none 0 0)], .agg [.i 0, .v (.slice none 0 0)]] [] [] (.b (alikeB ⟨0, []⟩ ⟨0, []⟩)) [], alikeB ⟨0, []⟩ ⟨0, []⟩ = true, decide ((0 : Int) = (0 : Int)) = true, CallOK Try.prog 15 [] [] [] (.b true) []] (by kernel_rfl) ⟨h199, v202, h200, h201, v203⟩ ?_
        clear v202 v203
        exact aw_ret (ret_then ⟨.inr rfl, end_ok ⟨124, [1, 2], [(6, .b true)], []⟩
            (Ent.ren [] rfl rfl (by kernel_rfl) (slots_cons rfl slots_nil) conts_nil (by kernel_rfl)) rfl (by kernel_rfl) wr_nil (by kernel_rfl)⟩)
end Go.Proofs.Ytepibjfmeibgcaa
