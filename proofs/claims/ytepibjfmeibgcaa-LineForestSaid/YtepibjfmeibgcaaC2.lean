/- LineForest, walked. -/
import Derived.Test.YtepibjfmeibgcaaB5
import Derived.Test.YtepibjfmeibgcaaFo
import Derived.Test.YtepibjfmeibgcaaRb
import Derived.Test.YtepibjfmeibgcaaProg
namespace Go.Proofs.Ytepibjfmeibgcaa
open Go.RowKit
set_option linter.unusedVariables false
theorem behind_len {ps : List Pipe} (ht : Tree ps) {c : Int} (c0 : 0 ≤ c) : (trues (behL ps c) 0).length ≤ ps.length := by
  rw [trues_way ht c0]; unfold behT; rw [List.length_map]; exact Nat.le_trans (List.length_filter_le _ _) (by simp)
theorem meet_next {l o : List Int} {k : Nat} {r : Bool} (hk : 0 < k) (hl : k ≤ l.length) (h : memB o (ix l (k - 1)) = r) : (r = true → ix l (k - 1) = ((l.drop (k - 1)).find? fun x => memB o x).getD (-1)) ∧ (r = false → ((l.drop k).find? fun x => memB o x).getD (-1) = ((l.drop (k - 1)).find? fun x => memB o x).getD (-1)) := by
  obtain ⟨j, rfl⟩ : ∃ j, k = j + 1 := ⟨k - 1, by omega⟩
  rw [Nat.add_sub_cancel] at *
  have e : l.drop j = ix l j :: l.drop (j + 1) := by rw [ix_eq (by omega)]; exact List.drop_eq_getElem_cons (by omega)
  rw [e, List.find?_cons]
  constructor
  · rintro rfl; rw [h]; rfl
  · rintro rfl; rw [h]
set_option maxHeartbeats 4000000 in
set_option maxRecDepth 100000 in
theorem forest_fr (n : Net) (x y z : Int) (hn : n.pipes.length ≤ maxLen) (hx : 0 ≤ x ∧ x ≤ 255) (hy : 0 ≤ y ∧ y ≤ 255) (hz : 0 ≤ z ∧ z ≤ 255) : CallFr Try.prog 10 [.agg [.i n.pump, .ls 1], .agg [.v (.int .u8 x), .v (.int .u8 y), .v (.int .u8 z)]] [1] [some (.ro 5 n.pipes.length (Lst eP n.pipes))] (.b true) [] := by
  have hML : maxLen = 9223372036854775807 := rfl
  refine callFr_of (fn := Try.f10) (by kernel_rfl) rfl (by kernel_rfl) (by kernel_rfl) fun E => ?_
  refine aw_ent (T := ⟨266, [1], [(0, .agg [.i n.pump, .ls 1]), (1, .agg [.v (.int .u8 x), .v (.int .u8 y), .v (.int .u8 z)])], [(1, some (.ro 5 n.pipes.length (Lst eP n.pipes)))]⟩) (Ent.refl _) ?_
  refine aw_seq ?_
  refine aw_region [(0, .new 1002), (1, .new 1003)] [2, 3] [1, 1002, 1003]
      ⟨266, [1], [(2, .l (.ref 1002 0)), (3, .l (.ref 1003 0))], [(1, some (.ro 5 n.pipes.length (Lst eP n.pipes))), (1002, some (.blk 24 [.i n.pump, .ls 1])), (1003, some (.blk 83 [.v (.int .u8 x), .v (.int .u8 y), .v (.int .u8 z)]))]⟩
      [] (by kernel_rfl) trivial ?_
  refine aw_seq ?_
  refine aw_seq ?_
  have v1 : CallOK Try.prog 21 [.agg [.i n.pump, .ls 1], .i 60] [1] [some (.ro 5 n.pipes.length (Lst eP n.pipes))] (.b (goodB n 60)) [] := (CallFr.to (good_fr n 60 (by omega) (by omega)) [(1, 1)] (by kernel_rfl) (by kernel_rfl) (by kernel_rfl) (by kernel_rfl) (by kernel_rfl) (dem_cons rfl (le_ro rfl el_rfl) dem_nil))
  refine aw_region [(1, .call [1] (.b (goodB n 60)) [])] [2, 3, 26] [1, 1002, 1003]
      ⟨266, [1], [(2, .l (.ref 1002 0)), (3, .l (.ref 1003 0)), (26, .b (!(goodB n 60)))], [(1, some (.ro 5 n.pipes.length (Lst eP n.pipes))), (1002, some (.blk 24 [.i n.pump, .ls 1])), (1003, some (.blk 83 [.v (.int .u8 x), .v (.int .u8 y), .v (.int .u8 z)]))]⟩
      [CallOK Try.prog 21 [.agg [.i n.pump, .ls 1], .i 60] [1] [some (.ro 5 n.pipes.length (Lst eP n.pipes))] (.b (goodB n 60)) []] (by kernel_rfl) v1 ?_
  clear v1
  refine aw_cond (b := (!(goodB n 60))) rfl (fun h2 => ?_) (fun h2 => ?_)
  ·
    refine aw_seq ?_
    have v3 : CallOK Try.prog 15 [] [] [] (.b true) [] := (CallFr.to (known_fr ) [] (by kernel_rfl) (by kernel_rfl) (by kernel_rfl) (by kernel_rfl) (by kernel_rfl) dem_nil)
    refine aw_region [(0, .call [] (.b true) [])] [4] []
        ⟨266, [1], [(4, .b true)], []⟩
        [CallOK Try.prog 15 [] [] [] (.b true) []] (by kernel_rfl) v3 ?_
    clear v3
    exact aw_ret (ret_then ⟨.inr rfl, end_ok ⟨266, [1], [(4, .b true)], []⟩
        (Ent.ren [] rfl rfl (by kernel_rfl) (slots_cons rfl slots_nil) conts_nil (by kernel_rfl)) rfl (by kernel_rfl) wr_nil (by kernel_rfl)⟩)
  ·
    have hgood : goodB n 60 = true := by simpa using h2
    obtain ⟨hok, hm60⟩ := goodB_true hgood
    have hnl := netB_len hok
    have ht := netB_tree hok
    have hnk := netB_good hok
    have hpl : ∀ j, 0 < j → j < n.pipes.length → 1 ≤ (pAt n.pipes j).length ∧ (pAt n.pipes j).length ≤ 100000 := fun j h0 hj => ⟨(hnk.2 j h0 hj).1, (hnk.2 j h0 hj).2.1⟩
    refine aw_skip ?_
    refine aw_seq ?_
    have hrx : 0 ≤ x % ((n.pipes.length : Nat) : Int) ∧ x % ((n.pipes.length : Nat) : Int) < ((n.pipes.length : Nat) : Int) := ⟨Int.emod_nonneg _ (by omega), Int.emod_lt_of_pos _ (by omega)⟩
    have hry : 0 ≤ y % ((n.pipes.length : Nat) : Int) ∧ y % ((n.pipes.length : Nat) : Int) < ((n.pipes.length : Nat) : Int) := ⟨Int.emod_nonneg _ (by omega), Int.emod_lt_of_pos _ (by omega)⟩
    have hrz : 0 ≤ z % ((n.pipes.length : Nat) : Int) ∧ z % ((n.pipes.length : Nat) : Int) < ((n.pipes.length : Nat) : Int) := ⟨Int.emod_nonneg _ (by omega), Int.emod_lt_of_pos _ (by omega)⟩
    have v4 : 0 = ((0 : Nat) : Int) := (by first | omega | rfl | assumption)
    have v5 : -9223372036854775808 ≤ x ∧ x < 9223372036854775808 := (by first | omega | rfl | assumption)
    have v6 : 0 ≤ x := (by first | omega | rfl | assumption)
    have v7 : 0 < ((n.pipes.length : Nat) : Int) := (by first | omega | rfl | assumption)
    have v8 : -9223372036854775808 ≤ (x % ((n.pipes.length : Nat) : Int)) ∧ (x % ((n.pipes.length : Nat) : Int)) < 9223372036854775808 := (by first | omega | rfl | assumption)
    have v9 : 1 = ((1 : Nat) : Int) := (by first | omega | rfl | assumption)
    have v10 : -9223372036854775808 ≤ y ∧ y < 9223372036854775808 := (by first | omega | rfl | assumption)
    have v11 : 0 ≤ y := (by first | omega | rfl | assumption)
    have v12 : 0 < ((n.pipes.length : Nat) : Int) := (by first | omega | rfl | assumption)
    have v13 : -9223372036854775808 ≤ (y % ((n.pipes.length : Nat) : Int)) ∧ (y % ((n.pipes.length : Nat) : Int)) < 9223372036854775808 := (by first | omega | rfl | assumption)
    have v14 : 2 = ((2 : Nat) : Int) := (by first | omega | rfl | assumption)
    have v15 : -9223372036854775808 ≤ z ∧ z < 9223372036854775808 := (by first | omega | rfl | assumption)
    have v16 : 0 ≤ z := (by first | omega | rfl | assumption)
    have v17 : 0 < ((n.pipes.length : Nat) : Int) := (by first | omega | rfl | assumption)
    have v18 : -9223372036854775808 ≤ (z % ((n.pipes.length : Nat) : Int)) ∧ (z % ((n.pipes.length : Nat) : Int)) < 9223372036854775808 := (by first | omega | rfl | assumption)
    refine aw_drawn [(0, .idx 0), (7, .idx 1), (14, .idx 2)] [2, 5, 6, 7] [1, 1002]
        ⟨266, [1], [(2, .l (.ref 1002 0)), (5, .i (x % ((n.pipes.length : Nat) : Int))), (6, .i (y % ((n.pipes.length : Nat) : Int))), (7, .i (z % ((n.pipes.length : Nat) : Int)))], [(1, some (.ro 5 n.pipes.length (Lst eP n.pipes))), (1002, some (.blk 24 [.i n.pump, .ls 1]))]⟩
        [0 = ((0 : Nat) : Int), -9223372036854775808 ≤ x ∧ x < 9223372036854775808, 0 ≤ x, 0 < ((n.pipes.length : Nat) : Int), -9223372036854775808 ≤ (x % ((n.pipes.length : Nat) : Int)) ∧ (x % ((n.pipes.length : Nat) : Int)) < 9223372036854775808, 1 = ((1 : Nat) : Int), -9223372036854775808 ≤ y ∧ y < 9223372036854775808, 0 ≤ y, 0 < ((n.pipes.length : Nat) : Int), -9223372036854775808 ≤ (y % ((n.pipes.length : Nat) : Int)) ∧ (y % ((n.pipes.length : Nat) : Int)) < 9223372036854775808, 2 = ((2 : Nat) : Int), -9223372036854775808 ≤ z ∧ z < 9223372036854775808, 0 ≤ z, 0 < ((n.pipes.length : Nat) : Int), -9223372036854775808 ≤ (z % ((n.pipes.length : Nat) : Int)) ∧ (z % ((n.pipes.length : Nat) : Int)) < 9223372036854775808] (by kernel_rfl) (by kernel_rfl) ⟨v4, v5, v6, v7, v8, v9, v10, v11, v12, v13, v14, v15, v16, v17, v18⟩ ?_
    clear v4 v5 v6 v7 v8 v9 v10 v11 v12 v13 v14 v15 v16 v17 v18
    refine aw_seq ?_
    obtain ⟨a, ha⟩ : ∃ a, x % ((n.pipes.length : Nat) : Int) = a := ⟨_, rfl⟩
    obtain ⟨b, hb⟩ : ∃ b, y % ((n.pipes.length : Nat) : Int) = b := ⟨_, rfl⟩
    obtain ⟨c, hc⟩ : ∃ c, z % ((n.pipes.length : Nat) : Int) = c := ⟨_, rfl⟩
    have ha0 : 0 ≤ a := ha ▸ Int.emod_nonneg _ (by omega)
    have hb0 : 0 ≤ b := hb ▸ Int.emod_nonneg _ (by omega)
    have hc0 : 0 ≤ c := hc ▸ Int.emod_nonneg _ (by omega)
    have ha1 : a < ((n.pipes.length : Nat) : Int) := ha ▸ Int.emod_lt_of_pos _ (by omega)
    have hb1 : b < ((n.pipes.length : Nat) : Int) := hb ▸ Int.emod_lt_of_pos _ (by omega)
    have hc1 : c < ((n.pipes.length : Nat) : Int) := hc ▸ Int.emod_lt_of_pos _ (by omega)
    have hwe := way_ends ht (a.toNat + 1) a (by omega) (by omega) (by omega)
    have hwl := wayL_len n.pipes a
    have hwl2 := wayL_len n.pipes b
    have hwl3 := hwe.1
    have hwn : (((((wayL n.pipes a)).length : Nat) : Int) - 1).toNat = ((wayL n.pipes a)).length - 1 := by omega
    have hhl := heightsL_len n.pipes hnl.1
    have hdr := netB_drop hok
    have hbl := behind_len ht (show 0 ≤ c by omega)
    have hh : ∀ j, j < n.pipes.length → ix (heightsL n.pipes) j = hgtL n.pipes (j : Int) := fun j hj => heightsL_way ht hdr.2 hj
    have hh0 : ix (heightsL n.pipes) 0 = 0 := by rw [hh 0 (by omega)]; simp [hgtL_step ht (i := 0) (by omega) (by omega), drp, hdr.2, hgtL_neg n.pipes (show par n.pipes 0 < 0 by have := (ht 0 (by omega)).2.2.2 rfl; simp at this; omega)]
    have hnull := dB_null ht hpl (show 0 ≤ a by omega) (show a < n.pipes.length by omega) (show 0 ≤ b by omega) (show b < n.pipes.length by omega)
    have htri := (dB_tri hpl a b c).1
    have bdab := dB_bd hpl a b hnl.2
    have bdac := dB_bd hpl a c hnl.2
    have bdcb := dB_bd hpl c b hnl.2
    obtain ⟨mt, hme, _⟩ := meet_is ht b (by omega) (by omega) (a.toNat + 1) a (by omega) (by omega) (by omega)
    refine aw_ent (T := ⟨266, [1], [(2, .l (.ref 1002 0)), (5, .i a), (6, .i b), (7, .i c)], [(1, some (.ro 5 n.pipes.length (Lst eP n.pipes))), (1002, some (.blk 24 [.i n.pump, .ls 1]))]⟩)
        (Ent.ren [] rfl rfl (by kernel_rfl) (slots_cons rfl (slots_cons (slot_i rfl (by first | rfl | omega | assumption | (exact ha) | (exact hb) | (exact hc))) (slots_cons (slot_i rfl (by first | rfl | omega | assumption | (exact ha) | (exact hb) | (exact hc))) (slots_cons (slot_i rfl (by first | rfl | omega | assumption | (exact ha) | (exact hb) | (exact hc))) slots_nil)))) (conts_cons rfl (le_ro rfl el_rfl) (conts_cons rfl (le_blk rfl) conts_nil)) (by kernel_rfl)) ?_
    have v19 : CallOK Try.prog 17 [.agg [.i n.pump, .ls 1]] [1] [some (.ro 5 n.pipes.length (Lst eP n.pipes))] (.agg [.i n.pump, .ls 10510]) [(10510, some (.vec 54 5 ((n.pipes).length) (Lst eP n.pipes)))] := (CallFr.to (own_fr n (by omega)) [(1, 1), (2, 10510)] (by kernel_rfl) (by kernel_rfl) (by kernel_rfl) (by kernel_rfl) (by kernel_rfl) (dem_cons rfl (le_ro rfl el_rfl) dem_nil))
    have v20 : CallOK Try.prog 25 [.agg [.i n.pump, .ls 10510], .i a] [10510] [some (.vec 54 5 ((n.pipes).length) (Lst eP n.pipes))] (.tup [.one (.ls 10530), .one (.i 0)]) [(10530, some (.ro 1 ((wayL n.pipes a).length) (Lst eI (wayL n.pipes a))))] := (CallFr.to (Way_T n hok a (by omega) (by omega)) [(1, 10510), (4, 10530)] (by kernel_rfl) (by kernel_rfl) (by kernel_rfl) (by kernel_rfl) (by kernel_rfl) (dem_cons rfl (le_vec_ro rfl el_rfl) dem_nil))
    refine aw_region [(1, .call [1] (.agg [.i n.pump, .ls 10510]) [(10510, some (.vec 54 5 ((n.pipes).length) (Lst eP n.pipes)))]), (3, .call [10510] (.tup [.one (.ls 10530), .one (.i 0)]) [(10530, some (.ro 1 ((wayL n.pipes a).length) (Lst eI (wayL n.pipes a))))])] [2, 5, 6, 7, 8, 9] [1, 1002, 10530]
        ⟨266, [1], [(2, .l (.ref 1002 0)), (5, .i a), (6, .i b), (7, .i c), (8, .ls 10530), (9, .i 0)], [(1, some (.ro 5 n.pipes.length (Lst eP n.pipes))), (1002, some (.blk 24 [.i n.pump, .ls 1])), (10530, some (.ro 1 ((wayL n.pipes a).length) (Lst eI (wayL n.pipes a))))]⟩
        [CallOK Try.prog 17 [.agg [.i n.pump, .ls 1]] [1] [some (.ro 5 n.pipes.length (Lst eP n.pipes))] (.agg [.i n.pump, .ls 10510]) [(10510, some (.vec 54 5 ((n.pipes).length) (Lst eP n.pipes)))], CallOK Try.prog 25 [.agg [.i n.pump, .ls 10510], .i a] [10510] [some (.vec 54 5 ((n.pipes).length) (Lst eP n.pipes))] (.tup [.one (.ls 10530), .one (.i 0)]) [(10530, some (.ro 1 ((wayL n.pipes a).length) (Lst eI (wayL n.pipes a))))]] (by kernel_rfl) ⟨v19, v20⟩ ?_
    clear v19 v20
    refine aw_seq ?_
    have v21 : CallOK Try.prog 17 [.agg [.i n.pump, .ls 1]] [1] [some (.ro 5 n.pipes.length (Lst eP n.pipes))] (.agg [.i n.pump, .ls 10580]) [(10580, some (.vec 54 5 ((n.pipes).length) (Lst eP n.pipes)))] := (CallFr.to (own_fr n (by omega)) [(1, 1), (2, 10580)] (by kernel_rfl) (by kernel_rfl) (by kernel_rfl) (by kernel_rfl) (by kernel_rfl) (dem_cons rfl (le_ro rfl el_rfl) dem_nil))
    have v22 : CallOK Try.prog 25 [.agg [.i n.pump, .ls 10580], .i b] [10580] [some (.vec 54 5 ((n.pipes).length) (Lst eP n.pipes))] (.tup [.one (.ls 10600), .one (.i 0)]) [(10600, some (.ro 1 ((wayL n.pipes b).length) (Lst eI (wayL n.pipes b))))] := (CallFr.to (Way_T n hok b (by omega) (by omega)) [(1, 10580), (4, 10600)] (by kernel_rfl) (by kernel_rfl) (by kernel_rfl) (by kernel_rfl) (by kernel_rfl) (dem_cons rfl (le_vec_ro rfl el_rfl) dem_nil))
    refine aw_region [(1, .call [1] (.agg [.i n.pump, .ls 10580]) [(10580, some (.vec 54 5 ((n.pipes).length) (Lst eP n.pipes)))]), (3, .call [10580] (.tup [.one (.ls 10600), .one (.i 0)]) [(10600, some (.ro 1 ((wayL n.pipes b).length) (Lst eI (wayL n.pipes b))))])] [2, 5, 6, 7, 8, 9, 10, 11] [1, 1002, 10530, 10600]
        ⟨266, [1], [(2, .l (.ref 1002 0)), (5, .i a), (6, .i b), (7, .i c), (8, .ls 10530), (9, .i 0), (10, .ls 10600), (11, .i 0)], [(1, some (.ro 5 n.pipes.length (Lst eP n.pipes))), (1002, some (.blk 24 [.i n.pump, .ls 1])), (10530, some (.ro 1 ((wayL n.pipes a).length) (Lst eI (wayL n.pipes a)))), (10600, some (.ro 1 ((wayL n.pipes b).length) (Lst eI (wayL n.pipes b))))]⟩
        [CallOK Try.prog 17 [.agg [.i n.pump, .ls 1]] [1] [some (.ro 5 n.pipes.length (Lst eP n.pipes))] (.agg [.i n.pump, .ls 10580]) [(10580, some (.vec 54 5 ((n.pipes).length) (Lst eP n.pipes)))], CallOK Try.prog 25 [.agg [.i n.pump, .ls 10580], .i b] [10580] [some (.vec 54 5 ((n.pipes).length) (Lst eP n.pipes))] (.tup [.one (.ls 10600), .one (.i 0)]) [(10600, some (.ro 1 ((wayL n.pipes b).length) (Lst eI (wayL n.pipes b))))]] (by kernel_rfl) ⟨v21, v22⟩ ?_
    clear v21 v22
    refine aw_seq ?_
    have v23 : CallOK Try.prog 17 [.agg [.i n.pump, .ls 1]] [1] [some (.ro 5 n.pipes.length (Lst eP n.pipes))] (.agg [.i n.pump, .ls 10650]) [(10650, some (.vec 54 5 ((n.pipes).length) (Lst eP n.pipes)))] := (CallFr.to (own_fr n (by omega)) [(1, 1), (2, 10650)] (by kernel_rfl) (by kernel_rfl) (by kernel_rfl) (by kernel_rfl) (by kernel_rfl) (dem_cons rfl (le_ro rfl el_rfl) dem_nil))
    have v24 : CallOK Try.prog 44 [.agg [.i n.pump, .ls 10650], .i c] [10650] [some (.vec 54 5 ((n.pipes).length) (Lst eP n.pipes))] (.tup [.one (.ls 10670), .one (.i 0)]) [(10670, some (.ro 1 ((trues (behL n.pipes c) 0).length) (Lst eI (trues (behL n.pipes c) 0))))] := (CallFr.to (Behind_T n hok c (by omega) (by omega)) [(1, 10650), (4, 10670)] (by kernel_rfl) (by kernel_rfl) (by kernel_rfl) (by kernel_rfl) (by kernel_rfl) (dem_cons rfl (le_vec_ro rfl el_rfl) dem_nil))
    refine aw_region [(1, .call [1] (.agg [.i n.pump, .ls 10650]) [(10650, some (.vec 54 5 ((n.pipes).length) (Lst eP n.pipes)))]), (3, .call [10650] (.tup [.one (.ls 10670), .one (.i 0)]) [(10670, some (.ro 1 ((trues (behL n.pipes c) 0).length) (Lst eI (trues (behL n.pipes c) 0))))])] [2, 5, 6, 7, 8, 9, 10, 11, 12, 13] [1, 1002, 10530, 10600, 10670]
        ⟨266, [1], [(2, .l (.ref 1002 0)), (5, .i a), (6, .i b), (7, .i c), (8, .ls 10530), (9, .i 0), (10, .ls 10600), (11, .i 0), (12, .ls 10670), (13, .i 0)], [(1, some (.ro 5 n.pipes.length (Lst eP n.pipes))), (1002, some (.blk 24 [.i n.pump, .ls 1])), (10530, some (.ro 1 ((wayL n.pipes a).length) (Lst eI (wayL n.pipes a)))), (10600, some (.ro 1 ((wayL n.pipes b).length) (Lst eI (wayL n.pipes b)))), (10670, some (.ro 1 ((trues (behL n.pipes c) 0).length) (Lst eI (trues (behL n.pipes c) 0))))]⟩
        [CallOK Try.prog 17 [.agg [.i n.pump, .ls 1]] [1] [some (.ro 5 n.pipes.length (Lst eP n.pipes))] (.agg [.i n.pump, .ls 10650]) [(10650, some (.vec 54 5 ((n.pipes).length) (Lst eP n.pipes)))], CallOK Try.prog 44 [.agg [.i n.pump, .ls 10650], .i c] [10650] [some (.vec 54 5 ((n.pipes).length) (Lst eP n.pipes))] (.tup [.one (.ls 10670), .one (.i 0)]) [(10670, some (.ro 1 ((trues (behL n.pipes c) 0).length) (Lst eI (trues (behL n.pipes c) 0))))]] (by kernel_rfl) ⟨v23, v24⟩ ?_
    clear v23 v24
    refine aw_seq ?_
    have v25 : CallOK Try.prog 17 [.agg [.i n.pump, .ls 1]] [1] [some (.ro 5 n.pipes.length (Lst eP n.pipes))] (.agg [.i n.pump, .ls 10720]) [(10720, some (.vec 54 5 ((n.pipes).length) (Lst eP n.pipes)))] := (CallFr.to (own_fr n (by omega)) [(1, 1), (2, 10720)] (by kernel_rfl) (by kernel_rfl) (by kernel_rfl) (by kernel_rfl) (by kernel_rfl) (dem_cons rfl (le_ro rfl el_rfl) dem_nil))
    have v26 : CallOK Try.prog 30 [.agg [.i n.pump, .ls 10720]] [10720] [some (.vec 54 5 ((n.pipes).length) (Lst eP n.pipes))] (.tup [.one (.ls 10730), .one (.i 0)]) [(10730, some (.ro 1 ((heightsL n.pipes).length) (Lst eI (heightsL n.pipes))))] := (CallFr.to (Heights_T n hok) [(1, 10720), (4, 10730)] (by kernel_rfl) (by kernel_rfl) (by kernel_rfl) (by kernel_rfl) (by kernel_rfl) (dem_cons rfl (le_vec_ro rfl el_rfl) dem_nil))
    refine aw_region [(1, .call [1] (.agg [.i n.pump, .ls 10720]) [(10720, some (.vec 54 5 ((n.pipes).length) (Lst eP n.pipes)))]), (2, .call [10720] (.tup [.one (.ls 10730), .one (.i 0)]) [(10730, some (.ro 1 ((heightsL n.pipes).length) (Lst eI (heightsL n.pipes))))])] [2, 5, 6, 7, 8, 9, 10, 11, 12, 13, 14, 15] [1, 1002, 10530, 10600, 10670, 10730]
        ⟨266, [1], [(2, .l (.ref 1002 0)), (5, .i a), (6, .i b), (7, .i c), (8, .ls 10530), (9, .i 0), (10, .ls 10600), (11, .i 0), (12, .ls 10670), (13, .i 0), (14, .ls 10730), (15, .i 0)], [(1, some (.ro 5 n.pipes.length (Lst eP n.pipes))), (1002, some (.blk 24 [.i n.pump, .ls 1])), (10530, some (.ro 1 ((wayL n.pipes a).length) (Lst eI (wayL n.pipes a)))), (10600, some (.ro 1 ((wayL n.pipes b).length) (Lst eI (wayL n.pipes b)))), (10670, some (.ro 1 ((trues (behL n.pipes c) 0).length) (Lst eI (trues (behL n.pipes c) 0)))), (10730, some (.ro 1 ((heightsL n.pipes).length) (Lst eI (heightsL n.pipes))))]⟩
        [CallOK Try.prog 17 [.agg [.i n.pump, .ls 1]] [1] [some (.ro 5 n.pipes.length (Lst eP n.pipes))] (.agg [.i n.pump, .ls 10720]) [(10720, some (.vec 54 5 ((n.pipes).length) (Lst eP n.pipes)))], CallOK Try.prog 30 [.agg [.i n.pump, .ls 10720]] [10720] [some (.vec 54 5 ((n.pipes).length) (Lst eP n.pipes))] (.tup [.one (.ls 10730), .one (.i 0)]) [(10730, some (.ro 1 ((heightsL n.pipes).length) (Lst eI (heightsL n.pipes))))]] (by kernel_rfl) ⟨v25, v26⟩ ?_
    clear v25 v26
    refine aw_seq ?_
    refine aw_seq ?_
    have h27 : (decide ((0 : Int) ≠ (0 : Int))) = false := by decide
    have h28 : (decide ((((wayL n.pipes a).length : Nat) : Int) < 1)) = false := by refine decide_eq_false ?_; omega
    have h29 : (decide ((ix (wayL n.pipes a) 0) ≠ a)) = false := by refine decide_eq_false ?_; rw [hwe.2.1]; simp
    have h30 : (decide ((ix (wayL n.pipes a) (((((wayL n.pipes a).length : Nat) : Int) - 1).toNat)) ≠ 0)) = false := by refine decide_eq_false ?_; rw [hwn, hwe.2.2]; simp
    have h31 : (decide ((((heightsL n.pipes).length : Nat) : Int) ≠ ((n.pipes.length : Nat) : Int))) = false := by refine decide_eq_false ?_; rw [hhl]; simp
    have h32 : (decide ((ix (heightsL n.pipes) 0) ≠ 0)) = false := by refine decide_eq_false ?_; rw [hh0]; simp
    have h33 : (((memB (trues (behL n.pipes c) 0) a) != (memB (wayL n.pipes a) c))) = false := by rw [memB_behind ht (by omega) (by omega) (by omega)]; simp
    have v34 : 0 = ((0 : Nat) : Int) := (by first | omega | rfl | assumption)
    have v35 : 0 < (wayL n.pipes a).length := (by first | omega | rfl | assumption)
    have v36 : 0 < (wayL n.pipes a).length := (by first | omega | rfl | assumption)
    have v37 : -9223372036854775808 ≤ ((((wayL n.pipes a).length : Nat) : Int) - 1) ∧ ((((wayL n.pipes a).length : Nat) : Int) - 1) < 9223372036854775808 := (by first | omega | rfl | assumption)
    have v38 : ((((wayL n.pipes a).length : Nat) : Int) - 1) = ((((((wayL n.pipes a).length : Nat) : Int) - 1).toNat : Nat) : Int) := (by first | omega | rfl | assumption)
    have v39 : ((((wayL n.pipes a).length : Nat) : Int) - 1).toNat < (wayL n.pipes a).length := (by first | omega | rfl | assumption)
    have v40 : ((((wayL n.pipes a).length : Nat) : Int) - 1).toNat < (wayL n.pipes a).length := (by first | omega | rfl | assumption)
    have v41 : 0 = ((0 : Nat) : Int) := (by first | omega | rfl | assumption)
    have v42 : 0 < (heightsL n.pipes).length := (by first | omega | rfl | assumption)
    have v43 : 0 < (heightsL n.pipes).length := (by first | omega | rfl | assumption)
    have v44 : CallOK Try.prog 26 [.ls 10670, .i a] [10670] [some (.ro 1 ((trues (behL n.pipes c) 0).length) (Lst eI (trues (behL n.pipes c) 0)))] (.b (memB (trues (behL n.pipes c) 0) a)) [] := (CallFr.to (has_fr (trues (behL n.pipes c) 0) a (by omega)) [(1, 10670)] (by kernel_rfl) (by kernel_rfl) (by kernel_rfl) (by kernel_rfl) (by kernel_rfl) (dem_cons rfl (le_ro rfl el_rfl) dem_nil))
    have v45 : CallOK Try.prog 26 [.ls 10530, .i c] [10530] [some (.ro 1 ((wayL n.pipes a).length) (Lst eI (wayL n.pipes a)))] (.b (memB (wayL n.pipes a) c)) [] := (CallFr.to (has_fr (wayL n.pipes a) c (by omega)) [(1, 10530)] (by kernel_rfl) (by kernel_rfl) (by kernel_rfl) (by kernel_rfl) (by kernel_rfl) (dem_cons rfl (le_ro rfl el_rfl) dem_nil))
    have v46 : BinRun Try.prog .neq 4 (.tmp 128) (.tmp 131) (.bool (memB (trues (behL n.pipes c) 0) a)) (.bool (memB (wayL n.pipes a) c)) (.bool false) := (bin_neq_bool (memB (trues (behL n.pipes c) 0) a) (memB (wayL n.pipes a) c) (h33))
    refine aw_region [(2, .dec false), (6, .dec false), (10, .dec false), (14, .dec false), (19, .dec false), (21, .idx 0), (26, .dec false), (31, .idx (((((wayL n.pipes a).length : Nat) : Int) - 1).toNat)), (35, .dec false), (43, .dec false), (45, .idx 0), (49, .dec false), (52, .call [10670] (.b (memB (trues (behL n.pipes c) 0) a)) []), (55, .call [10530] (.b (memB (wayL n.pipes a) c)) []), (56, .dec false)] [2, 5, 6, 7, 8, 10, 14, 133] [1, 1002, 10530, 10600, 10730]
        ⟨266, [1], [(2, .l (.ref 1002 0)), (5, .i a), (6, .i b), (7, .i c), (8, .ls 10530), (10, .ls 10600), (14, .ls 10730), (133, .b false)], [(1, some (.ro 5 n.pipes.length (Lst eP n.pipes))), (1002, some (.blk 24 [.i n.pump, .ls 1])), (10530, some (.ro 1 ((wayL n.pipes a).length) (Lst eI (wayL n.pipes a)))), (10600, some (.ro 1 ((wayL n.pipes b).length) (Lst eI (wayL n.pipes b)))), (10730, some (.ro 1 ((heightsL n.pipes).length) (Lst eI (heightsL n.pipes))))]⟩
        [decide ((0 : Int) ≠ (0 : Int)) = false, decide ((0 : Int) ≠ (0 : Int)) = false, decide ((0 : Int) ≠ (0 : Int)) = false, decide ((0 : Int) ≠ (0 : Int)) = false, decide ((((wayL n.pipes a).length : Nat) : Int) < 1) = false, 0 = ((0 : Nat) : Int), 0 < (wayL n.pipes a).length, 0 < (wayL n.pipes a).length, decide ((ix (wayL n.pipes a) 0) ≠ a) = false, -9223372036854775808 ≤ ((((wayL n.pipes a).length : Nat) : Int) - 1) ∧ ((((wayL n.pipes a).length : Nat) : Int) - 1) < 9223372036854775808, ((((wayL n.pipes a).length : Nat) : Int) - 1) = ((((((wayL n.pipes a).length : Nat) : Int) - 1).toNat : Nat) : Int), ((((wayL n.pipes a).length : Nat) : Int) - 1).toNat < (wayL n.pipes a).length, ((((wayL n.pipes a).length : Nat) : Int) - 1).toNat < (wayL n.pipes a).length, decide ((ix (wayL n.pipes a) (((((wayL n.pipes a).length : Nat) : Int) - 1).toNat)) ≠ 0) = false, decide ((((heightsL n.pipes).length : Nat) : Int) ≠ ((n.pipes.length : Nat) : Int)) = false, 0 = ((0 : Nat) : Int), 0 < (heightsL n.pipes).length, 0 < (heightsL n.pipes).length, decide ((ix (heightsL n.pipes) 0) ≠ 0) = false, CallOK Try.prog 26 [.ls 10670, .i a] [10670] [some (.ro 1 ((trues (behL n.pipes c) 0).length) (Lst eI (trues (behL n.pipes c) 0)))] (.b (memB (trues (behL n.pipes c) 0) a)) [], CallOK Try.prog 26 [.ls 10530, .i c] [10530] [some (.ro 1 ((wayL n.pipes a).length) (Lst eI (wayL n.pipes a)))] (.b (memB (wayL n.pipes a) c)) [], BinRun Try.prog .neq 4 (.tmp 128) (.tmp 131) (.bool (memB (trues (behL n.pipes c) 0) a)) (.bool (memB (wayL n.pipes a) c)) (.bool false)] (by kernel_rfl) ⟨h27, h27, h27, h27, h28, v34, v35, v36, h29, v37, v38, v39, v40, h30, h31, v41, v42, v43, h32, v44, v45, v46⟩ ?_
    clear v34 v35 v36 v37 v38 v39 v40 v41 v42 v43 v44 v45 v46
    refine aw_false rfl ?_
    refine aw_skip ?_
    refine aw_seq ?_
    refine aw_seq ?_
    refine aw_region [] [2, 5, 6, 7, 8, 10, 14, 16] [1, 1002, 10530, 10600, 10730]
        ⟨266, [1], [(2, .l (.ref 1002 0)), (5, .i a), (6, .i b), (7, .i c), (8, .ls 10530), (10, .ls 10600), (14, .ls 10730), (16, .i 1)], [(1, some (.ro 5 n.pipes.length (Lst eP n.pipes))), (1002, some (.blk 24 [.i n.pump, .ls 1])), (10530, some (.ro 1 ((wayL n.pipes a).length) (Lst eI (wayL n.pipes a)))), (10600, some (.ro 1 ((wayL n.pipes b).length) (Lst eI (wayL n.pipes b)))), (10730, some (.ro 1 ((heightsL n.pipes).length) (Lst eI (heightsL n.pipes))))]⟩
        [] (by kernel_rfl) trivial ?_
    refine aw_block ?_
    refine aw_loop (ι := Nat) (fun zz => ⟨266, [1], [(2, .l (.ref 1002 0)), (5, .i a), (6, .i b), (7, .i c), (8, .ls 10530), (10, .ls 10600), (14, .ls 10730), (16, .i ((zz : Nat) : Int))], [(1, some (.ro 5 n.pipes.length (Lst eP n.pipes))), (1002, some (.blk 24 [.i n.pump, .ls 1])), (10530, some (.ro 1 ((wayL n.pipes a).length) (Lst eI (wayL n.pipes a)))), (10600, some (.ro 1 ((wayL n.pipes b).length) (Lst eI (wayL n.pipes b)))), (10730, some (.ro 1 ((heightsL n.pipes).length) (Lst eI (heightsL n.pipes))))]⟩) (fun zz => (1 ≤ zz)) (fun zz => (heightsL n.pipes).length - zz) 1 (by first | omega | rfl | assumption | (simp; done))
        (Ent.ren [] rfl rfl (by kernel_rfl) (slots_cons rfl (slots_cons rfl (slots_cons rfl (slots_cons rfl (slots_cons rfl (slots_cons rfl (slots_cons rfl (slots_cons rfl slots_nil)))))))) (conts_cons rfl (le_ro rfl el_rfl) (conts_cons rfl (le_blk rfl) (conts_cons rfl (le_ro rfl el_rfl) (conts_cons rfl (le_ro rfl el_rfl) (conts_cons rfl (le_ro rfl el_rfl) conts_nil))))) (by kernel_rfl)) fun zz hp => ?_
    obtain ⟨i, rfl⟩ : ∃ x, x = zz := ⟨_, rfl⟩
    have hi1 := hp
    show AW _ E _ _ ⟨266, [1], [(2, .l (.ref 1002 0)), (5, .i a), (6, .i b), (7, .i c), (8, .ls 10530), (10, .ls 10600), (14, .ls 10730), (16, .i ((i : Nat) : Int))], [(1, some (.ro 5 n.pipes.length (Lst eP n.pipes))), (1002, some (.blk 24 [.i n.pump, .ls 1])), (10530, some (.ro 1 ((wayL n.pipes a).length) (Lst eI (wayL n.pipes a)))), (10600, some (.ro 1 ((wayL n.pipes b).length) (Lst eI (wayL n.pipes b)))), (10730, some (.ro 1 ((heightsL n.pipes).length) (Lst eI (heightsL n.pipes))))]⟩
    refine aw_seq ?_
    refine aw_seq ?_
    refine aw_region [] [2, 5, 6, 7, 8, 10, 14, 16, 137] [1, 1002, 10530, 10600, 10730]
        ⟨266, [1], [(2, .l (.ref 1002 0)), (5, .i a), (6, .i b), (7, .i c), (8, .ls 10530), (10, .ls 10600), (14, .ls 10730), (16, .i ((i : Nat) : Int)), (137, .b (decide (((i : Nat) : Int) < (((heightsL n.pipes).length : Nat) : Int))))], [(1, some (.ro 5 n.pipes.length (Lst eP n.pipes))), (1002, some (.blk 24 [.i n.pump, .ls 1])), (10530, some (.ro 1 ((wayL n.pipes a).length) (Lst eI (wayL n.pipes a)))), (10600, some (.ro 1 ((wayL n.pipes b).length) (Lst eI (wayL n.pipes b)))), (10730, some (.ro 1 ((heightsL n.pipes).length) (Lst eI (heightsL n.pipes))))]⟩
        [] (by kernel_rfl) trivial ?_
    refine aw_cond (b := decide (((i : Nat) : Int) < (((heightsL n.pipes).length : Nat) : Int))) rfl (fun h47 => ?_) (fun h47 => ?_)
    ·
      have h47p : ((i : Nat) : Int) < (((heightsL n.pipes).length : Nat) : Int) := by first | exact of_decide_eq_true h47 | (have := h47; simp at this; first | exact this | omega)
      refine aw_skip ?_
      refine aw_seq ?_
      refine aw_block ?_
      refine aw_seq ?_
      have hi : i < n.pipes.length := by omega
      have htk := ht i hi
      rw [← ix_par] at htk
      have hpa0 : 0 ≤ (ix n.pipes i).parent := by
        have : (ix n.pipes i).parent ≠ -1 := fun e => by have := htk.2.2.1 e; omega
        omega
      have e1 := hh i hi
      have e2 := hh (ix n.pipes i).parent.toNat (by omega)
      have e3 := hgtL_step ht (i := (i : Int)) (by omega) (by omega)
      rw [← ix_par, show (ix n.pipes i).parent = (((ix n.pipes i).parent.toNat : Nat) : Int) by omega, ← e2, ← e1] at e3
      have e4 := hgtL_bd hdr.1 hnl.2 (i := (i : Int)) (by omega)
      rw [← e1] at e4
      have e5 : drp n.pipes (i : Int) = (ix n.pipes i).drop := by unfold drp; rw [Int.toNat_natCast]; rfl
      have v48 : ((i : Nat) : Int) = ((i : Nat) : Int) := (by first | omega | rfl | assumption)
      have v49 : i < (heightsL n.pipes).length := (by first | omega | rfl | assumption)
      have v50 : i < (heightsL n.pipes).length := (by first | omega | rfl | assumption)
      have v51 : ((i : Nat) : Int) = ((i : Nat) : Int) := (by first | omega | rfl | assumption)
      have v52 : i < n.pipes.length := (by first | omega | rfl | assumption)
      have v53 : i < n.pipes.length := (by first | omega | rfl | assumption)
      have v54 : i < n.pipes.length := (by first | omega | rfl | assumption)
      have v55 : (ix n.pipes i).parent = ((((ix n.pipes i).parent).toNat : Nat) : Int) := (by first | omega | rfl | assumption)
      have v56 : ((ix n.pipes i).parent).toNat < (heightsL n.pipes).length := (by first | omega | rfl | assumption)
      have v57 : ((ix n.pipes i).parent).toNat < (heightsL n.pipes).length := (by first | omega | rfl | assumption)
      have v58 : ((i : Nat) : Int) = ((i : Nat) : Int) := (by first | omega | rfl | assumption)
      have v59 : i < n.pipes.length := (by first | omega | rfl | assumption)
      have v60 : i < n.pipes.length := (by first | omega | rfl | assumption)
      have v61 : i < n.pipes.length := (by first | omega | rfl | assumption)
      have v62 : -9223372036854775808 ≤ ((ix (heightsL n.pipes) (((ix n.pipes i).parent).toNat)) + (ix n.pipes i).drop) ∧ ((ix (heightsL n.pipes) (((ix n.pipes i).parent).toNat)) + (ix n.pipes i).drop) < 9223372036854775808 := (by first | omega | rfl | assumption)
      refine aw_drawn [(2, .idx i), (8, .idx i), (11, .idx (((ix n.pipes i).parent).toNat)), (16, .idx i)] [2, 5, 6, 7, 8, 10, 14, 16, 160] [1, 1002, 10530, 10600, 10730]
          ⟨266, [1], [(2, .l (.ref 1002 0)), (5, .i a), (6, .i b), (7, .i c), (8, .ls 10530), (10, .ls 10600), (14, .ls 10730), (16, .i ((i : Nat) : Int)), (160, .b (decide ((ix (heightsL n.pipes) i) ≠ ((ix (heightsL n.pipes) (((ix n.pipes i).parent).toNat)) + (ix n.pipes i).drop))))], [(1, some (.ro 5 n.pipes.length (Lst eP n.pipes))), (1002, some (.blk 24 [.i n.pump, .ls 1])), (10530, some (.ro 1 ((wayL n.pipes a).length) (Lst eI (wayL n.pipes a)))), (10600, some (.ro 1 ((wayL n.pipes b).length) (Lst eI (wayL n.pipes b)))), (10730, some (.ro 1 ((heightsL n.pipes).length) (Lst eI (heightsL n.pipes))))]⟩
          [((i : Nat) : Int) = ((i : Nat) : Int), i < (heightsL n.pipes).length, i < (heightsL n.pipes).length, ((i : Nat) : Int) = ((i : Nat) : Int), i < n.pipes.length, i < n.pipes.length, i < n.pipes.length, (ix n.pipes i).parent = ((((ix n.pipes i).parent).toNat : Nat) : Int), ((ix n.pipes i).parent).toNat < (heightsL n.pipes).length, ((ix n.pipes i).parent).toNat < (heightsL n.pipes).length, ((i : Nat) : Int) = ((i : Nat) : Int), i < n.pipes.length, i < n.pipes.length, i < n.pipes.length, -9223372036854775808 ≤ ((ix (heightsL n.pipes) (((ix n.pipes i).parent).toNat)) + (ix n.pipes i).drop) ∧ ((ix (heightsL n.pipes) (((ix n.pipes i).parent).toNat)) + (ix n.pipes i).drop) < 9223372036854775808] (by kernel_rfl) (by kernel_rfl) ⟨v48, v49, v50, v51, v52, v53, v54, v55, v56, v57, v58, v59, v60, v61, v62⟩ ?_
      clear v48 v49 v50 v51 v52 v53 v54 v55 v56 v57 v58 v59 v60 v61 v62
      have h63 : (decide ((ix (heightsL n.pipes) i) ≠ ((ix (heightsL n.pipes) (((ix n.pipes i).parent).toNat)) + (ix n.pipes i).drop))) = false := by refine decide_eq_false ?_; omega
      refine aw_cond (b := decide ((ix (heightsL n.pipes) i) ≠ ((ix (heightsL n.pipes) (((ix n.pipes i).parent).toNat)) + (ix n.pipes i).drop))) rfl (fun h => Bool.noConfusion (h63.symm.trans h)) (fun _ => ?_)
      refine aw_skip ?_
      have v64 : (((i : Nat) : Int) + 1) = (((i + 1) : Nat) : Int) := (by first | omega | rfl | assumption)
      have v65 : -9223372036854775808 ≤ (((i + 1) : Nat) : Int) ∧ (((i + 1) : Nat) : Int) < 9223372036854775808 := (by first | omega | rfl | assumption)
      refine aw_region [(1, .num (((i + 1) : Nat) : Int))] [2, 5, 6, 7, 8, 10, 14, 16] [1, 1002, 10530, 10600, 10730]
          ⟨266, [1], [(2, .l (.ref 1002 0)), (5, .i a), (6, .i b), (7, .i c), (8, .ls 10530), (10, .ls 10600), (14, .ls 10730), (16, .i (((i + 1) : Nat) : Int))], [(1, some (.ro 5 n.pipes.length (Lst eP n.pipes))), (1002, some (.blk 24 [.i n.pump, .ls 1])), (10530, some (.ro 1 ((wayL n.pipes a).length) (Lst eI (wayL n.pipes a)))), (10600, some (.ro 1 ((wayL n.pipes b).length) (Lst eI (wayL n.pipes b)))), (10730, some (.ro 1 ((heightsL n.pipes).length) (Lst eI (heightsL n.pipes))))]⟩
          [(((i : Nat) : Int) + 1) = (((i + 1) : Nat) : Int), -9223372036854775808 ≤ (((i + 1) : Nat) : Int) ∧ (((i + 1) : Nat) : Int) < 9223372036854775808] (by kernel_rfl) ⟨v64, v65⟩ ?_
      clear v64 v65
      exact ⟨i + 1, (by first | omega | rfl | assumption | (simp; done)), (show (heightsL n.pipes).length - (i + 1) < (heightsL n.pipes).length - i by first | omega | rfl | assumption),
          (Ent.ren [] rfl rfl (by kernel_rfl) (slots_cons rfl (slots_cons rfl (slots_cons rfl (slots_cons rfl (slots_cons rfl (slots_cons rfl (slots_cons rfl (slots_cons rfl slots_nil)))))))) (conts_cons rfl (le_ro rfl el_rfl) (conts_cons rfl (le_blk rfl) (conts_cons rfl (le_ro rfl el_rfl) (conts_cons rfl (le_ro rfl el_rfl) (conts_cons rfl (le_ro rfl el_rfl) conts_nil))))) (by kernel_rfl))⟩
    ·
      have h47p : (((heightsL n.pipes).length : Nat) : Int) ≤ ((i : Nat) : Int) := by first | (have := of_decide_eq_false h47; omega) | (have := h47; simp at this; first | exact this | omega)
      refine aw_exit (exit_then (exit_then (exit_in ?_)))
      refine aw_seq ?_
      have v66 : CallOK Try.prog 17 [.agg [.i n.pump, .ls 1]] [1] [some (.ro 5 n.pipes.length (Lst eP n.pipes))] (.agg [.i n.pump, .ls 11630]) [(11630, some (.vec 54 5 ((n.pipes).length) (Lst eP n.pipes)))] := (CallFr.to (own_fr n (by omega)) [(1, 1), (2, 11630)] (by kernel_rfl) (by kernel_rfl) (by kernel_rfl) (by kernel_rfl) (by kernel_rfl) (dem_cons rfl (le_ro rfl el_rfl) dem_nil))
      have v67 : CallOK Try.prog 45 [.agg [.i n.pump, .ls 11630], .i a, .i b] [11630] [some (.vec 54 5 ((n.pipes).length) (Lst eP n.pipes))] (.tup [.one (.i (dB n.pipes a b)), .one (.i 0)]) [] := (CallFr.to (Between_T n hok a b (by omega) (by omega) (by omega) (by omega)) [(1, 11630)] (by kernel_rfl) (by kernel_rfl) (by kernel_rfl) (by kernel_rfl) (by kernel_rfl) (dem_cons rfl (le_vec_ro rfl el_rfl) dem_nil))
      refine aw_region [(1, .call [1] (.agg [.i n.pump, .ls 11630]) [(11630, some (.vec 54 5 ((n.pipes).length) (Lst eP n.pipes)))]), (4, .call [11630] (.tup [.one (.i (dB n.pipes a b)), .one (.i 0)]) [])] [2, 5, 6, 7, 8, 9, 10, 17] [1, 1002, 10530, 10600]
          ⟨266, [1], [(2, .l (.ref 1002 0)), (5, .i a), (6, .i b), (7, .i c), (8, .ls 10530), (9, .i 0), (10, .ls 10600), (17, .i (dB n.pipes a b))], [(1, some (.ro 5 n.pipes.length (Lst eP n.pipes))), (1002, some (.blk 24 [.i n.pump, .ls 1])), (10530, some (.ro 1 ((wayL n.pipes a).length) (Lst eI (wayL n.pipes a)))), (10600, some (.ro 1 ((wayL n.pipes b).length) (Lst eI (wayL n.pipes b))))]⟩
          [CallOK Try.prog 17 [.agg [.i n.pump, .ls 1]] [1] [some (.ro 5 n.pipes.length (Lst eP n.pipes))] (.agg [.i n.pump, .ls 11630]) [(11630, some (.vec 54 5 ((n.pipes).length) (Lst eP n.pipes)))], CallOK Try.prog 45 [.agg [.i n.pump, .ls 11630], .i a, .i b] [11630] [some (.vec 54 5 ((n.pipes).length) (Lst eP n.pipes))] (.tup [.one (.i (dB n.pipes a b)), .one (.i 0)]) []] (by kernel_rfl) ⟨v66, v67⟩ ?_
      clear v66 v67
      refine aw_seq ?_
      have v68 : CallOK Try.prog 17 [.agg [.i n.pump, .ls 1]] [1] [some (.ro 5 n.pipes.length (Lst eP n.pipes))] (.agg [.i n.pump, .ls 11710]) [(11710, some (.vec 54 5 ((n.pipes).length) (Lst eP n.pipes)))] := (CallFr.to (own_fr n (by omega)) [(1, 1), (2, 11710)] (by kernel_rfl) (by kernel_rfl) (by kernel_rfl) (by kernel_rfl) (by kernel_rfl) (dem_cons rfl (le_ro rfl el_rfl) dem_nil))
      have v69 : CallOK Try.prog 45 [.agg [.i n.pump, .ls 11710], .i b, .i a] [11710] [some (.vec 54 5 ((n.pipes).length) (Lst eP n.pipes))] (.tup [.one (.i (dB n.pipes b a)), .one (.i 0)]) [] := (CallFr.to (Between_T n hok b a (by omega) (by omega) (by omega) (by omega)) [(1, 11710)] (by kernel_rfl) (by kernel_rfl) (by kernel_rfl) (by kernel_rfl) (by kernel_rfl) (dem_cons rfl (le_vec_ro rfl el_rfl) dem_nil))
      refine aw_region [(1, .call [1] (.agg [.i n.pump, .ls 11710]) [(11710, some (.vec 54 5 ((n.pipes).length) (Lst eP n.pipes)))]), (4, .call [11710] (.tup [.one (.i (dB n.pipes b a)), .one (.i 0)]) [])] [2, 5, 6, 7, 8, 9, 10, 11, 17, 18] [1, 1002, 10530, 10600]
          ⟨266, [1], [(2, .l (.ref 1002 0)), (5, .i a), (6, .i b), (7, .i c), (8, .ls 10530), (9, .i 0), (10, .ls 10600), (11, .i 0), (17, .i (dB n.pipes a b)), (18, .i (dB n.pipes b a))], [(1, some (.ro 5 n.pipes.length (Lst eP n.pipes))), (1002, some (.blk 24 [.i n.pump, .ls 1])), (10530, some (.ro 1 ((wayL n.pipes a).length) (Lst eI (wayL n.pipes a)))), (10600, some (.ro 1 ((wayL n.pipes b).length) (Lst eI (wayL n.pipes b))))]⟩
          [CallOK Try.prog 17 [.agg [.i n.pump, .ls 1]] [1] [some (.ro 5 n.pipes.length (Lst eP n.pipes))] (.agg [.i n.pump, .ls 11710]) [(11710, some (.vec 54 5 ((n.pipes).length) (Lst eP n.pipes)))], CallOK Try.prog 45 [.agg [.i n.pump, .ls 11710], .i b, .i a] [11710] [some (.vec 54 5 ((n.pipes).length) (Lst eP n.pipes))] (.tup [.one (.i (dB n.pipes b a)), .one (.i 0)]) []] (by kernel_rfl) ⟨v68, v69⟩ ?_
      clear v68 v69
      refine aw_seq ?_
      have v70 : CallOK Try.prog 17 [.agg [.i n.pump, .ls 1]] [1] [some (.ro 5 n.pipes.length (Lst eP n.pipes))] (.agg [.i n.pump, .ls 11790]) [(11790, some (.vec 54 5 ((n.pipes).length) (Lst eP n.pipes)))] := (CallFr.to (own_fr n (by omega)) [(1, 1), (2, 11790)] (by kernel_rfl) (by kernel_rfl) (by kernel_rfl) (by kernel_rfl) (by kernel_rfl) (dem_cons rfl (le_ro rfl el_rfl) dem_nil))
      have v71 : CallOK Try.prog 45 [.agg [.i n.pump, .ls 11790], .i a, .i c] [11790] [some (.vec 54 5 ((n.pipes).length) (Lst eP n.pipes))] (.tup [.one (.i (dB n.pipes a c)), .one (.i 0)]) [] := (CallFr.to (Between_T n hok a c (by omega) (by omega) (by omega) (by omega)) [(1, 11790)] (by kernel_rfl) (by kernel_rfl) (by kernel_rfl) (by kernel_rfl) (by kernel_rfl) (dem_cons rfl (le_vec_ro rfl el_rfl) dem_nil))
      refine aw_region [(1, .call [1] (.agg [.i n.pump, .ls 11790]) [(11790, some (.vec 54 5 ((n.pipes).length) (Lst eP n.pipes)))]), (4, .call [11790] (.tup [.one (.i (dB n.pipes a c)), .one (.i 0)]) [])] [2, 5, 6, 7, 8, 9, 10, 11, 13, 17, 18, 19] [1, 1002, 10530, 10600]
          ⟨266, [1], [(2, .l (.ref 1002 0)), (5, .i a), (6, .i b), (7, .i c), (8, .ls 10530), (9, .i 0), (10, .ls 10600), (11, .i 0), (13, .i 0), (17, .i (dB n.pipes a b)), (18, .i (dB n.pipes b a)), (19, .i (dB n.pipes a c))], [(1, some (.ro 5 n.pipes.length (Lst eP n.pipes))), (1002, some (.blk 24 [.i n.pump, .ls 1])), (10530, some (.ro 1 ((wayL n.pipes a).length) (Lst eI (wayL n.pipes a)))), (10600, some (.ro 1 ((wayL n.pipes b).length) (Lst eI (wayL n.pipes b))))]⟩
          [CallOK Try.prog 17 [.agg [.i n.pump, .ls 1]] [1] [some (.ro 5 n.pipes.length (Lst eP n.pipes))] (.agg [.i n.pump, .ls 11790]) [(11790, some (.vec 54 5 ((n.pipes).length) (Lst eP n.pipes)))], CallOK Try.prog 45 [.agg [.i n.pump, .ls 11790], .i a, .i c] [11790] [some (.vec 54 5 ((n.pipes).length) (Lst eP n.pipes))] (.tup [.one (.i (dB n.pipes a c)), .one (.i 0)]) []] (by kernel_rfl) ⟨v70, v71⟩ ?_
      clear v70 v71
      refine aw_seq ?_
      have v72 : CallOK Try.prog 17 [.agg [.i n.pump, .ls 1]] [1] [some (.ro 5 n.pipes.length (Lst eP n.pipes))] (.agg [.i n.pump, .ls 11870]) [(11870, some (.vec 54 5 ((n.pipes).length) (Lst eP n.pipes)))] := (CallFr.to (own_fr n (by omega)) [(1, 1), (2, 11870)] (by kernel_rfl) (by kernel_rfl) (by kernel_rfl) (by kernel_rfl) (by kernel_rfl) (dem_cons rfl (le_ro rfl el_rfl) dem_nil))
      have v73 : CallOK Try.prog 45 [.agg [.i n.pump, .ls 11870], .i c, .i b] [11870] [some (.vec 54 5 ((n.pipes).length) (Lst eP n.pipes))] (.tup [.one (.i (dB n.pipes c b)), .one (.i 0)]) [] := (CallFr.to (Between_T n hok c b (by omega) (by omega) (by omega) (by omega)) [(1, 11870)] (by kernel_rfl) (by kernel_rfl) (by kernel_rfl) (by kernel_rfl) (by kernel_rfl) (dem_cons rfl (le_vec_ro rfl el_rfl) dem_nil))
      refine aw_region [(1, .call [1] (.agg [.i n.pump, .ls 11870]) [(11870, some (.vec 54 5 ((n.pipes).length) (Lst eP n.pipes)))]), (4, .call [11870] (.tup [.one (.i (dB n.pipes c b)), .one (.i 0)]) [])] [5, 6, 7, 8, 9, 10, 11, 13, 15, 17, 18, 19, 20] [10530, 10600]
          ⟨266, [1], [(5, .i a), (6, .i b), (7, .i c), (8, .ls 10530), (9, .i 0), (10, .ls 10600), (11, .i 0), (13, .i 0), (15, .i 0), (17, .i (dB n.pipes a b)), (18, .i (dB n.pipes b a)), (19, .i (dB n.pipes a c)), (20, .i (dB n.pipes c b))], [(10530, some (.ro 1 ((wayL n.pipes a).length) (Lst eI (wayL n.pipes a)))), (10600, some (.ro 1 ((wayL n.pipes b).length) (Lst eI (wayL n.pipes b))))]⟩
          [CallOK Try.prog 17 [.agg [.i n.pump, .ls 1]] [1] [some (.ro 5 n.pipes.length (Lst eP n.pipes))] (.agg [.i n.pump, .ls 11870]) [(11870, some (.vec 54 5 ((n.pipes).length) (Lst eP n.pipes)))], CallOK Try.prog 45 [.agg [.i n.pump, .ls 11870], .i c, .i b] [11870] [some (.vec 54 5 ((n.pipes).length) (Lst eP n.pipes))] (.tup [.one (.i (dB n.pipes c b)), .one (.i 0)]) []] (by kernel_rfl) ⟨v72, v73⟩ ?_
      clear v72 v73
      refine aw_seq ?_
      refine aw_seq ?_
      have h74 : (decide ((dB n.pipes a b) ≠ (dB n.pipes b a))) = false := by refine decide_eq_false ?_; rw [dB_comm n.pipes b a]; simp
      have h75 : (decide (((dB n.pipes a c) + (dB n.pipes c b)) < (dB n.pipes a b))) = false := by refine decide_eq_false ?_; omega
      have h76 : (((decide ((dB n.pipes a b) = 0)) != (decide (a = b)))) = false := by rw [(decide_eq_decide.2 hnull : decide ((dB n.pipes a b) = 0) = decide (a = b))]; simp
      have v77 : -9223372036854775808 ≤ ((dB n.pipes a c) + (dB n.pipes c b)) ∧ ((dB n.pipes a c) + (dB n.pipes c b)) < 9223372036854775808 := (by first | omega | rfl | assumption)
      have v78 : BinRun Try.prog .neq 4 (.tmp 221) (.tmp 224) (.bool (decide ((dB n.pipes a b) = 0))) (.bool (decide (a = b))) (.bool false) := (bin_neq_bool (decide ((dB n.pipes a b) = 0)) (decide (a = b)) (h76))
      refine aw_region [(2, .dec false), (6, .dec false), (10, .dec false), (14, .dec false), (19, .dec false), (26, .dec false), (32, .dec false)] [7, 8, 10, 17, 19, 20, 226] [10530, 10600]
          ⟨266, [1], [(7, .i c), (8, .ls 10530), (10, .ls 10600), (17, .i (dB n.pipes a b)), (19, .i (dB n.pipes a c)), (20, .i (dB n.pipes c b)), (226, .b false)], [(10530, some (.ro 1 ((wayL n.pipes a).length) (Lst eI (wayL n.pipes a)))), (10600, some (.ro 1 ((wayL n.pipes b).length) (Lst eI (wayL n.pipes b))))]⟩
          [decide ((0 : Int) ≠ (0 : Int)) = false, decide ((0 : Int) ≠ (0 : Int)) = false, decide ((0 : Int) ≠ (0 : Int)) = false, decide ((0 : Int) ≠ (0 : Int)) = false, decide ((dB n.pipes a b) ≠ (dB n.pipes b a)) = false, -9223372036854775808 ≤ ((dB n.pipes a c) + (dB n.pipes c b)) ∧ ((dB n.pipes a c) + (dB n.pipes c b)) < 9223372036854775808, decide (((dB n.pipes a c) + (dB n.pipes c b)) < (dB n.pipes a b)) = false, BinRun Try.prog .neq 4 (.tmp 221) (.tmp 224) (.bool (decide ((dB n.pipes a b) = 0))) (.bool (decide (a = b))) (.bool false)] (by kernel_rfl) ⟨h27, h27, h27, h27, h74, v77, h75, v78⟩ ?_
      clear v77 v78
      refine aw_false rfl ?_
      refine aw_skip ?_
      refine aw_seq ?_
      refine aw_region [] [7, 8, 10, 17, 19, 20, 21] [10530, 10600]
          ⟨266, [1], [(7, .i c), (8, .ls 10530), (10, .ls 10600), (17, .i (dB n.pipes a b)), (19, .i (dB n.pipes a c)), (20, .i (dB n.pipes c b)), (21, .i (-1))], [(10530, some (.ro 1 ((wayL n.pipes a).length) (Lst eI (wayL n.pipes a)))), (10600, some (.ro 1 ((wayL n.pipes b).length) (Lst eI (wayL n.pipes b))))]⟩
          [] (by kernel_rfl) trivial ?_
      refine aw_seq ?_
      refine aw_seq ?_
      have v79 : -9223372036854775808 ≤ ((((wayL n.pipes a).length : Nat) : Int) - 1) ∧ ((((wayL n.pipes a).length : Nat) : Int) - 1) < 9223372036854775808 := (by first | omega | rfl | assumption)
      refine aw_region [] [7, 8, 10, 17, 19, 20, 21, 22] [10530, 10600]
          ⟨266, [1], [(7, .i c), (8, .ls 10530), (10, .ls 10600), (17, .i (dB n.pipes a b)), (19, .i (dB n.pipes a c)), (20, .i (dB n.pipes c b)), (21, .i (-1)), (22, .i ((((wayL n.pipes a).length : Nat) : Int) - 1))], [(10530, some (.ro 1 ((wayL n.pipes a).length) (Lst eI (wayL n.pipes a)))), (10600, some (.ro 1 ((wayL n.pipes b).length) (Lst eI (wayL n.pipes b))))]⟩
          [-9223372036854775808 ≤ ((((wayL n.pipes a).length : Nat) : Int) - 1) ∧ ((((wayL n.pipes a).length : Nat) : Int) - 1) < 9223372036854775808] (by kernel_rfl) v79 ?_
      clear v79
      refine aw_block ?_
      refine aw_loop (ι := Nat) (fun zz => ⟨266, [1], [(7, .i c), (8, .ls 10530), (10, .ls 10600), (17, .i (dB n.pipes a b)), (19, .i (dB n.pipes a c)), (20, .i (dB n.pipes c b)), (21, .i ((((wayL n.pipes a).drop zz).find? fun x => memB (wayL n.pipes b) x).getD (-1))), (22, .i (((zz : Nat) : Int) - 1))], [(10530, some (.ro 1 ((wayL n.pipes a).length) (Lst eI (wayL n.pipes a)))), (10600, some (.ro 1 ((wayL n.pipes b).length) (Lst eI (wayL n.pipes b))))]⟩) (fun zz => (zz ≤ ((wayL n.pipes a)).length)) (fun zz => zz) (((wayL n.pipes a)).length) (by first | omega | rfl | assumption | (simp; done))
          (Ent.ren [] rfl rfl (by kernel_rfl) (slots_cons rfl (slots_cons rfl (slots_cons rfl (slots_cons rfl (slots_cons rfl (slots_cons rfl (slots_cons (slot_i rfl (by first | rfl | omega | assumption | (rw [List.drop_length]; rfl))) (slots_cons rfl slots_nil)))))))) (conts_cons rfl (le_ro rfl el_rfl) (conts_cons rfl (le_ro rfl el_rfl) conts_nil)) (by kernel_rfl)) fun zz hp => ?_
      obtain ⟨k, rfl⟩ : ∃ x, x = zz := ⟨_, rfl⟩
      have hk := hp
      show AW _ E _ _ ⟨266, [1], [(7, .i c), (8, .ls 10530), (10, .ls 10600), (17, .i (dB n.pipes a b)), (19, .i (dB n.pipes a c)), (20, .i (dB n.pipes c b)), (21, .i ((((wayL n.pipes a).drop k).find? fun x => memB (wayL n.pipes b) x).getD (-1))), (22, .i (((k : Nat) : Int) - 1))], [(10530, some (.ro 1 ((wayL n.pipes a).length) (Lst eI (wayL n.pipes a)))), (10600, some (.ro 1 ((wayL n.pipes b).length) (Lst eI (wayL n.pipes b))))]⟩
      refine aw_seq ?_
      refine aw_seq ?_
      refine aw_region [] [7, 8, 10, 17, 19, 20, 21, 22, 231] [10530, 10600]
          ⟨266, [1], [(7, .i c), (8, .ls 10530), (10, .ls 10600), (17, .i (dB n.pipes a b)), (19, .i (dB n.pipes a c)), (20, .i (dB n.pipes c b)), (21, .i ((((wayL n.pipes a).drop k).find? fun x => memB (wayL n.pipes b) x).getD (-1))), (22, .i (((k : Nat) : Int) - 1)), (231, .b (decide (0 ≤ (((k : Nat) : Int) - 1))))], [(10530, some (.ro 1 ((wayL n.pipes a).length) (Lst eI (wayL n.pipes a)))), (10600, some (.ro 1 ((wayL n.pipes b).length) (Lst eI (wayL n.pipes b))))]⟩
          [] (by kernel_rfl) trivial ?_
      refine aw_cond (b := decide (0 ≤ (((k : Nat) : Int) - 1))) rfl (fun h80 => ?_) (fun h80 => ?_)
      ·
        have h80p : 0 ≤ (((k : Nat) : Int) - 1) := by first | exact of_decide_eq_true h80 | (have := h80; simp at this; first | exact this | omega)
        refine aw_skip ?_
        refine aw_seq ?_
        refine aw_block ?_
        refine aw_seq ?_
        have hk1 : (((k : Nat) : Int) - 1).toNat = k - 1 := by omega
        have v81 : (((k : Nat) : Int) - 1) = (((((k : Nat) : Int) - 1).toNat : Nat) : Int) := (by first | omega | rfl | assumption)
        have v82 : (((k : Nat) : Int) - 1).toNat < (wayL n.pipes a).length := (by first | omega | rfl | assumption)
        have v83 : (((k : Nat) : Int) - 1).toNat < (wayL n.pipes a).length := (by first | omega | rfl | assumption)
        have v84 : CallOK Try.prog 26 [.ls 10600, .i (ix (wayL n.pipes a) ((((k : Nat) : Int) - 1).toNat))] [10600] [some (.ro 1 ((wayL n.pipes b).length) (Lst eI (wayL n.pipes b)))] (.b (memB (wayL n.pipes b) (ix (wayL n.pipes a) ((((k : Nat) : Int) - 1).toNat)))) [] := (CallFr.to (has_fr (wayL n.pipes b) (ix (wayL n.pipes a) ((((k : Nat) : Int) - 1).toNat)) (by omega)) [(1, 10600)] (by kernel_rfl) (by kernel_rfl) (by kernel_rfl) (by kernel_rfl) (by kernel_rfl) (dem_cons rfl (le_ro rfl el_rfl) dem_nil))
        refine aw_region [(3, .idx ((((k : Nat) : Int) - 1).toNat)), (5, .call [10600] (.b (memB (wayL n.pipes b) (ix (wayL n.pipes a) ((((k : Nat) : Int) - 1).toNat)))) [])] [7, 8, 10, 17, 19, 20, 21, 22, 239] [10530, 10600]
            ⟨266, [1], [(7, .i c), (8, .ls 10530), (10, .ls 10600), (17, .i (dB n.pipes a b)), (19, .i (dB n.pipes a c)), (20, .i (dB n.pipes c b)), (21, .i ((((wayL n.pipes a).drop k).find? fun x => memB (wayL n.pipes b) x).getD (-1))), (22, .i (((k : Nat) : Int) - 1)), (239, .b (memB (wayL n.pipes b) (ix (wayL n.pipes a) ((((k : Nat) : Int) - 1).toNat))))], [(10530, some (.ro 1 ((wayL n.pipes a).length) (Lst eI (wayL n.pipes a)))), (10600, some (.ro 1 ((wayL n.pipes b).length) (Lst eI (wayL n.pipes b))))]⟩
            [(((k : Nat) : Int) - 1) = (((((k : Nat) : Int) - 1).toNat : Nat) : Int), (((k : Nat) : Int) - 1).toNat < (wayL n.pipes a).length, (((k : Nat) : Int) - 1).toNat < (wayL n.pipes a).length, CallOK Try.prog 26 [.ls 10600, .i (ix (wayL n.pipes a) ((((k : Nat) : Int) - 1).toNat))] [10600] [some (.ro 1 ((wayL n.pipes b).length) (Lst eI (wayL n.pipes b)))] (.b (memB (wayL n.pipes b) (ix (wayL n.pipes a) ((((k : Nat) : Int) - 1).toNat)))) []] (by kernel_rfl) ⟨v81, v82, v83, v84⟩ ?_
        clear v81 v82 v83 v84
        refine aw_cond (b := memB (wayL n.pipes b) (ix (wayL n.pipes a) ((((k : Nat) : Int) - 1).toNat))) rfl (fun h85 => ?_) (fun h85 => ?_)
        ·
          have v86 : (((k : Nat) : Int) - 1) = (((((k : Nat) : Int) - 1).toNat : Nat) : Int) := (by first | omega | rfl | assumption)
          have v87 : (((k : Nat) : Int) - 1).toNat < (wayL n.pipes a).length := (by first | omega | rfl | assumption)
          have v88 : (((k : Nat) : Int) - 1).toNat < (wayL n.pipes a).length := (by first | omega | rfl | assumption)
          refine aw_region [(2, .idx ((((k : Nat) : Int) - 1).toNat))] [7, 8, 10, 17, 19, 20, 21, 22] [10530, 10600]
              ⟨266, [1], [(7, .i c), (8, .ls 10530), (10, .ls 10600), (17, .i (dB n.pipes a b)), (19, .i (dB n.pipes a c)), (20, .i (dB n.pipes c b)), (21, .i (ix (wayL n.pipes a) ((((k : Nat) : Int) - 1).toNat))), (22, .i (((k : Nat) : Int) - 1))], [(10530, some (.ro 1 ((wayL n.pipes a).length) (Lst eI (wayL n.pipes a)))), (10600, some (.ro 1 ((wayL n.pipes b).length) (Lst eI (wayL n.pipes b))))]⟩
              [(((k : Nat) : Int) - 1) = (((((k : Nat) : Int) - 1).toNat : Nat) : Int), (((k : Nat) : Int) - 1).toNat < (wayL n.pipes a).length, (((k : Nat) : Int) - 1).toNat < (wayL n.pipes a).length] (by kernel_rfl) ⟨v86, v87, v88⟩ ?_
          clear v86 v87 v88
          have v89 : -9223372036854775808 ≤ ((((k : Nat) : Int) - 1) - 1) ∧ ((((k : Nat) : Int) - 1) - 1) < 9223372036854775808 := (by first | omega | rfl | assumption)
          refine aw_region [] [7, 8, 10, 17, 19, 20, 21, 22] [10530, 10600]
              ⟨266, [1], [(7, .i c), (8, .ls 10530), (10, .ls 10600), (17, .i (dB n.pipes a b)), (19, .i (dB n.pipes a c)), (20, .i (dB n.pipes c b)), (21, .i (ix (wayL n.pipes a) ((((k : Nat) : Int) - 1).toNat))), (22, .i ((((k : Nat) : Int) - 1) - 1))], [(10530, some (.ro 1 ((wayL n.pipes a).length) (Lst eI (wayL n.pipes a)))), (10600, some (.ro 1 ((wayL n.pipes b).length) (Lst eI (wayL n.pipes b))))]⟩
              [-9223372036854775808 ≤ ((((k : Nat) : Int) - 1) - 1) ∧ ((((k : Nat) : Int) - 1) - 1) < 9223372036854775808] (by kernel_rfl) v89 ?_
          clear v89
          exact ⟨(k - 1), (by first | omega | rfl | assumption | (simp; done)), (show (k - 1) < k by first | omega | rfl | assumption),
              (Ent.ren [] rfl rfl (by kernel_rfl) (slots_cons rfl (slots_cons rfl (slots_cons rfl (slots_cons rfl (slots_cons rfl (slots_cons rfl (slots_cons (slot_i rfl (by first | rfl | omega | assumption | (rw [hk1]; exact (meet_next (by omega) hk (by rw [← hk1]; assumption)).1 rfl) | (exact (meet_next (by omega) hk (by rw [← hk1]; assumption)).2 rfl))) (slots_cons (slot_i rfl (by first | rfl | omega | assumption | (rw [hk1]; exact (meet_next (by omega) hk (by rw [← hk1]; assumption)).1 rfl) | (exact (meet_next (by omega) hk (by rw [← hk1]; assumption)).2 rfl))) slots_nil)))))))) (conts_cons rfl (le_ro rfl el_rfl) (conts_cons rfl (le_ro rfl el_rfl) conts_nil)) (by kernel_rfl))⟩
        ·
          refine aw_skip ?_
          have v90 : -9223372036854775808 ≤ ((((k : Nat) : Int) - 1) - 1) ∧ ((((k : Nat) : Int) - 1) - 1) < 9223372036854775808 := (by first | omega | rfl | assumption)
          refine aw_region [] [7, 8, 10, 17, 19, 20, 21, 22] [10530, 10600]
              ⟨266, [1], [(7, .i c), (8, .ls 10530), (10, .ls 10600), (17, .i (dB n.pipes a b)), (19, .i (dB n.pipes a c)), (20, .i (dB n.pipes c b)), (21, .i ((((wayL n.pipes a).drop k).find? fun x => memB (wayL n.pipes b) x).getD (-1))), (22, .i ((((k : Nat) : Int) - 1) - 1))], [(10530, some (.ro 1 ((wayL n.pipes a).length) (Lst eI (wayL n.pipes a)))), (10600, some (.ro 1 ((wayL n.pipes b).length) (Lst eI (wayL n.pipes b))))]⟩
              [-9223372036854775808 ≤ ((((k : Nat) : Int) - 1) - 1) ∧ ((((k : Nat) : Int) - 1) - 1) < 9223372036854775808] (by kernel_rfl) v90 ?_
          clear v90
          exact ⟨(k - 1), (by first | omega | rfl | assumption | (simp; done)), (show (k - 1) < k by first | omega | rfl | assumption),
              (Ent.ren [] rfl rfl (by kernel_rfl) (slots_cons rfl (slots_cons rfl (slots_cons rfl (slots_cons rfl (slots_cons rfl (slots_cons rfl (slots_cons (slot_i rfl (by first | rfl | omega | assumption | (rw [hk1]; exact (meet_next (by omega) hk (by rw [← hk1]; assumption)).1 rfl) | (exact (meet_next (by omega) hk (by rw [← hk1]; assumption)).2 rfl))) (slots_cons (slot_i rfl (by first | rfl | omega | assumption | (rw [hk1]; exact (meet_next (by omega) hk (by rw [← hk1]; assumption)).1 rfl) | (exact (meet_next (by omega) hk (by rw [← hk1]; assumption)).2 rfl))) slots_nil)))))))) (conts_cons rfl (le_ro rfl el_rfl) (conts_cons rfl (le_ro rfl el_rfl) conts_nil)) (by kernel_rfl))⟩
      ·
        have h80p : (((k : Nat) : Int) - 1) < 0 := by first | (have := of_decide_eq_false h80; omega) | (have := h80; simp at this; first | exact this | omega)
        refine aw_exit (exit_then (exit_then (exit_in ?_)))
        refine aw_seq ?_
        have hk0 : k = 0 := by omega
        refine aw_ent (T := ⟨266, [1], [(7, .i c), (8, .ls 10530), (10, .ls 10600), (17, .i (dB n.pipes a b)), (19, .i (dB n.pipes a c)), (20, .i (dB n.pipes c b)), (21, .i mt), (22, .i (((k : Nat) : Int) - 1)), (231, .b (decide (0 ≤ (((k : Nat) : Int) - 1))))], [(10530, some (.ro 1 ((wayL n.pipes a).length) (Lst eI (wayL n.pipes a)))), (10600, some (.ro 1 ((wayL n.pipes b).length) (Lst eI (wayL n.pipes b))))]⟩)
            (Ent.ren [] rfl rfl (by kernel_rfl) (slots_cons rfl (slots_cons rfl (slots_cons rfl (slots_cons rfl (slots_cons rfl (slots_cons rfl (slots_cons (slot_i rfl (by first | rfl | omega | assumption | (rw [hk0, List.drop_zero, hme]; rfl))) (slots_cons rfl (slots_cons rfl slots_nil))))))))) (conts_cons rfl (le_ro rfl el_rfl) (conts_cons rfl (le_ro rfl el_rfl) conts_nil)) (by kernel_rfl)) ?_
        rcases Bool.eq_false_or_eq_true (memB (wayL n.pipes a) c) with h91 | h91
        ·
          rcases Bool.eq_false_or_eq_true (memB (wayL n.pipes b) c) with h92 | h92
          ·
            have v93 : CallOK Try.prog 26 [.ls 10530, .i c] [10530] [some (.ro 1 ((wayL n.pipes a).length) (Lst eI (wayL n.pipes a)))] (.b (memB (wayL n.pipes a) c)) [] := (CallFr.to (has_fr (wayL n.pipes a) c (by omega)) [(1, 10530)] (by kernel_rfl) (by kernel_rfl) (by kernel_rfl) (by kernel_rfl) (by kernel_rfl) (dem_cons rfl (le_ro rfl el_rfl) dem_nil))
            have v94 : CallOK Try.prog 26 [.ls 10600, .i c] [10600] [some (.ro 1 ((wayL n.pipes b).length) (Lst eI (wayL n.pipes b)))] (.b (memB (wayL n.pipes b) c)) [] := (CallFr.to (has_fr (wayL n.pipes b) c (by omega)) [(1, 10600)] (by kernel_rfl) (by kernel_rfl) (by kernel_rfl) (by kernel_rfl) (by kernel_rfl) (dem_cons rfl (le_ro rfl el_rfl) dem_nil))
            have v95 : BinRun Try.prog .neq 4 (.tmp 246) (.tmp 249) (.bool (memB (wayL n.pipes a) c)) (.bool (memB (wayL n.pipes b) c)) (.bool false) := (bin_neq_bool (memB (wayL n.pipes a) c) (memB (wayL n.pipes b) c) (by rw [h91, h92] <;> rfl))
            refine aw_region [(2, .call [10530] (.b (memB (wayL n.pipes a) c)) []), (5, .call [10600] (.b (memB (wayL n.pipes b) c)) []), (6, .dec false)] [17, 19, 20, 23] []
                ⟨266, [1], [(17, .i (dB n.pipes a b)), (19, .i (dB n.pipes a c)), (20, .i (dB n.pipes c b)), (23, .b (decide (c = mt)))], []⟩
                [CallOK Try.prog 26 [.ls 10530, .i c] [10530] [some (.ro 1 ((wayL n.pipes a).length) (Lst eI (wayL n.pipes a)))] (.b (memB (wayL n.pipes a) c)) [], CallOK Try.prog 26 [.ls 10600, .i c] [10600] [some (.ro 1 ((wayL n.pipes b).length) (Lst eI (wayL n.pipes b)))] (.b (memB (wayL n.pipes b) c)) [], BinRun Try.prog .neq 4 (.tmp 246) (.tmp 249) (.bool (memB (wayL n.pipes a) c)) (.bool (memB (wayL n.pipes b) c)) (.bool false)] (by kernel_rfl) ⟨v93, v94, v95⟩ ?_
            clear v93 v94 v95
            refine aw_seq ?_
            have h96 : (((decide (c = mt)) == (decide ((dB n.pipes a b) = ((dB n.pipes a c) + (dB n.pipes c b)))))) = true := by have hf := forest_on ht hpl (show 0 ≤ a by omega) (by omega) (show 0 ≤ b by omega) (by omega) (show 0 ≤ c by omega) (by omega) hme; unfold onB at hf; by_cases h : (dB n.pipes a b) = (dB n.pipes a c) + (dB n.pipes c b) <;> simp_all
            have v97 : -9223372036854775808 ≤ ((dB n.pipes a c) + (dB n.pipes c b)) ∧ ((dB n.pipes a c) + (dB n.pipes c b)) < 9223372036854775808 := (by first | omega | rfl | assumption)
            have v98 : BinRun Try.prog .eql 4 (.tmp 256) (.tmp 261) (.bool (decide (c = mt))) (.bool (decide ((dB n.pipes a b) = ((dB n.pipes a c) + (dB n.pipes c b))))) (.bool true) := (bin_eql_bool (decide (c = mt)) (decide ((dB n.pipes a b) = ((dB n.pipes a c) + (dB n.pipes c b)))) (h96))
            have v99 : CallOK Try.prog 15 [] [] [] (.b true) [] := (CallFr.to (known_fr ) [] (by kernel_rfl) (by kernel_rfl) (by kernel_rfl) (by kernel_rfl) (by kernel_rfl) dem_nil)
            refine aw_region [(6, .dec true), (8, .call [] (.b true) [])] [4] []
                ⟨266, [1], [(4, .b true)], []⟩
                [-9223372036854775808 ≤ ((dB n.pipes a c) + (dB n.pipes c b)) ∧ ((dB n.pipes a c) + (dB n.pipes c b)) < 9223372036854775808, BinRun Try.prog .eql 4 (.tmp 256) (.tmp 261) (.bool (decide (c = mt))) (.bool (decide ((dB n.pipes a b) = ((dB n.pipes a c) + (dB n.pipes c b))))) (.bool true), CallOK Try.prog 15 [] [] [] (.b true) []] (by kernel_rfl) ⟨v97, v98, v99⟩ ?_
            clear v97 v98 v99
            exact aw_ret ⟨.inr rfl, end_ok ⟨266, [1], [(4, .b true)], []⟩
                (Ent.ren [] rfl rfl (by kernel_rfl) (slots_cons rfl slots_nil) conts_nil (by kernel_rfl)) rfl (by kernel_rfl) wr_nil (by kernel_rfl)⟩
          ·
            have v100 : CallOK Try.prog 26 [.ls 10530, .i c] [10530] [some (.ro 1 ((wayL n.pipes a).length) (Lst eI (wayL n.pipes a)))] (.b (memB (wayL n.pipes a) c)) [] := (CallFr.to (has_fr (wayL n.pipes a) c (by omega)) [(1, 10530)] (by kernel_rfl) (by kernel_rfl) (by kernel_rfl) (by kernel_rfl) (by kernel_rfl) (dem_cons rfl (le_ro rfl el_rfl) dem_nil))
            have v101 : CallOK Try.prog 26 [.ls 10600, .i c] [10600] [some (.ro 1 ((wayL n.pipes b).length) (Lst eI (wayL n.pipes b)))] (.b (memB (wayL n.pipes b) c)) [] := (CallFr.to (has_fr (wayL n.pipes b) c (by omega)) [(1, 10600)] (by kernel_rfl) (by kernel_rfl) (by kernel_rfl) (by kernel_rfl) (by kernel_rfl) (dem_cons rfl (le_ro rfl el_rfl) dem_nil))
            have v102 : BinRun Try.prog .neq 4 (.tmp 246) (.tmp 249) (.bool (memB (wayL n.pipes a) c)) (.bool (memB (wayL n.pipes b) c)) (.bool true) := (bin_neq_bool (memB (wayL n.pipes a) c) (memB (wayL n.pipes b) c) (by rw [h91, h92] <;> rfl))
            refine aw_region [(2, .call [10530] (.b (memB (wayL n.pipes a) c)) []), (5, .call [10600] (.b (memB (wayL n.pipes b) c)) []), (6, .dec true)] [17, 19, 20, 23] []
                ⟨266, [1], [(17, .i (dB n.pipes a b)), (19, .i (dB n.pipes a c)), (20, .i (dB n.pipes c b)), (23, .b true)], []⟩
                [CallOK Try.prog 26 [.ls 10530, .i c] [10530] [some (.ro 1 ((wayL n.pipes a).length) (Lst eI (wayL n.pipes a)))] (.b (memB (wayL n.pipes a) c)) [], CallOK Try.prog 26 [.ls 10600, .i c] [10600] [some (.ro 1 ((wayL n.pipes b).length) (Lst eI (wayL n.pipes b)))] (.b (memB (wayL n.pipes b) c)) [], BinRun Try.prog .neq 4 (.tmp 246) (.tmp 249) (.bool (memB (wayL n.pipes a) c)) (.bool (memB (wayL n.pipes b) c)) (.bool true)] (by kernel_rfl) ⟨v100, v101, v102⟩ ?_
            clear v100 v101 v102
            refine aw_seq ?_
            have h103 : ((true == (decide ((dB n.pipes a b) = ((dB n.pipes a c) + (dB n.pipes c b)))))) = true := by have hf := forest_on ht hpl (show 0 ≤ a by omega) (by omega) (show 0 ≤ b by omega) (by omega) (show 0 ≤ c by omega) (by omega) hme; unfold onB at hf; by_cases h : (dB n.pipes a b) = (dB n.pipes a c) + (dB n.pipes c b) <;> simp_all
            have v104 : -9223372036854775808 ≤ ((dB n.pipes a c) + (dB n.pipes c b)) ∧ ((dB n.pipes a c) + (dB n.pipes c b)) < 9223372036854775808 := (by first | omega | rfl | assumption)
            have v105 : BinRun Try.prog .eql 4 (.tmp 256) (.tmp 261) (.bool true) (.bool (decide ((dB n.pipes a b) = ((dB n.pipes a c) + (dB n.pipes c b))))) (.bool true) := (bin_eql_bool true (decide ((dB n.pipes a b) = ((dB n.pipes a c) + (dB n.pipes c b)))) (h103))
            have v106 : CallOK Try.prog 15 [] [] [] (.b true) [] := (CallFr.to (known_fr ) [] (by kernel_rfl) (by kernel_rfl) (by kernel_rfl) (by kernel_rfl) (by kernel_rfl) dem_nil)
            refine aw_region [(6, .dec true), (8, .call [] (.b true) [])] [4] []
                ⟨266, [1], [(4, .b true)], []⟩
                [-9223372036854775808 ≤ ((dB n.pipes a c) + (dB n.pipes c b)) ∧ ((dB n.pipes a c) + (dB n.pipes c b)) < 9223372036854775808, BinRun Try.prog .eql 4 (.tmp 256) (.tmp 261) (.bool true) (.bool (decide ((dB n.pipes a b) = ((dB n.pipes a c) + (dB n.pipes c b))))) (.bool true), CallOK Try.prog 15 [] [] [] (.b true) []] (by kernel_rfl) ⟨v104, v105, v106⟩ ?_
            clear v104 v105 v106
            exact aw_ret ⟨.inr rfl, end_ok ⟨266, [1], [(4, .b true)], []⟩
                (Ent.ren [] rfl rfl (by kernel_rfl) (slots_cons rfl slots_nil) conts_nil (by kernel_rfl)) rfl (by kernel_rfl) wr_nil (by kernel_rfl)⟩
        ·
          rcases Bool.eq_false_or_eq_true (memB (wayL n.pipes b) c) with h107 | h107
          ·
            have v108 : CallOK Try.prog 26 [.ls 10530, .i c] [10530] [some (.ro 1 ((wayL n.pipes a).length) (Lst eI (wayL n.pipes a)))] (.b (memB (wayL n.pipes a) c)) [] := (CallFr.to (has_fr (wayL n.pipes a) c (by omega)) [(1, 10530)] (by kernel_rfl) (by kernel_rfl) (by kernel_rfl) (by kernel_rfl) (by kernel_rfl) (dem_cons rfl (le_ro rfl el_rfl) dem_nil))
            have v109 : CallOK Try.prog 26 [.ls 10600, .i c] [10600] [some (.ro 1 ((wayL n.pipes b).length) (Lst eI (wayL n.pipes b)))] (.b (memB (wayL n.pipes b) c)) [] := (CallFr.to (has_fr (wayL n.pipes b) c (by omega)) [(1, 10600)] (by kernel_rfl) (by kernel_rfl) (by kernel_rfl) (by kernel_rfl) (by kernel_rfl) (dem_cons rfl (le_ro rfl el_rfl) dem_nil))
            have v110 : BinRun Try.prog .neq 4 (.tmp 246) (.tmp 249) (.bool (memB (wayL n.pipes a) c)) (.bool (memB (wayL n.pipes b) c)) (.bool true) := (bin_neq_bool (memB (wayL n.pipes a) c) (memB (wayL n.pipes b) c) (by rw [h91, h107] <;> rfl))
            refine aw_region [(2, .call [10530] (.b (memB (wayL n.pipes a) c)) []), (5, .call [10600] (.b (memB (wayL n.pipes b) c)) []), (6, .dec true)] [17, 19, 20, 23] []
                ⟨266, [1], [(17, .i (dB n.pipes a b)), (19, .i (dB n.pipes a c)), (20, .i (dB n.pipes c b)), (23, .b true)], []⟩
                [CallOK Try.prog 26 [.ls 10530, .i c] [10530] [some (.ro 1 ((wayL n.pipes a).length) (Lst eI (wayL n.pipes a)))] (.b (memB (wayL n.pipes a) c)) [], CallOK Try.prog 26 [.ls 10600, .i c] [10600] [some (.ro 1 ((wayL n.pipes b).length) (Lst eI (wayL n.pipes b)))] (.b (memB (wayL n.pipes b) c)) [], BinRun Try.prog .neq 4 (.tmp 246) (.tmp 249) (.bool (memB (wayL n.pipes a) c)) (.bool (memB (wayL n.pipes b) c)) (.bool true)] (by kernel_rfl) ⟨v108, v109, v110⟩ ?_
            clear v108 v109 v110
            refine aw_seq ?_
            have h111 : ((true == (decide ((dB n.pipes a b) = ((dB n.pipes a c) + (dB n.pipes c b)))))) = true := by have hf := forest_on ht hpl (show 0 ≤ a by omega) (by omega) (show 0 ≤ b by omega) (by omega) (show 0 ≤ c by omega) (by omega) hme; unfold onB at hf; by_cases h : (dB n.pipes a b) = (dB n.pipes a c) + (dB n.pipes c b) <;> simp_all
            have v112 : -9223372036854775808 ≤ ((dB n.pipes a c) + (dB n.pipes c b)) ∧ ((dB n.pipes a c) + (dB n.pipes c b)) < 9223372036854775808 := (by first | omega | rfl | assumption)
            have v113 : BinRun Try.prog .eql 4 (.tmp 256) (.tmp 261) (.bool true) (.bool (decide ((dB n.pipes a b) = ((dB n.pipes a c) + (dB n.pipes c b))))) (.bool true) := (bin_eql_bool true (decide ((dB n.pipes a b) = ((dB n.pipes a c) + (dB n.pipes c b)))) (h111))
            have v114 : CallOK Try.prog 15 [] [] [] (.b true) [] := (CallFr.to (known_fr ) [] (by kernel_rfl) (by kernel_rfl) (by kernel_rfl) (by kernel_rfl) (by kernel_rfl) dem_nil)
            refine aw_region [(6, .dec true), (8, .call [] (.b true) [])] [4] []
                ⟨266, [1], [(4, .b true)], []⟩
                [-9223372036854775808 ≤ ((dB n.pipes a c) + (dB n.pipes c b)) ∧ ((dB n.pipes a c) + (dB n.pipes c b)) < 9223372036854775808, BinRun Try.prog .eql 4 (.tmp 256) (.tmp 261) (.bool true) (.bool (decide ((dB n.pipes a b) = ((dB n.pipes a c) + (dB n.pipes c b))))) (.bool true), CallOK Try.prog 15 [] [] [] (.b true) []] (by kernel_rfl) ⟨v112, v113, v114⟩ ?_
            clear v112 v113 v114
            exact aw_ret ⟨.inr rfl, end_ok ⟨266, [1], [(4, .b true)], []⟩
                (Ent.ren [] rfl rfl (by kernel_rfl) (slots_cons rfl slots_nil) conts_nil (by kernel_rfl)) rfl (by kernel_rfl) wr_nil (by kernel_rfl)⟩
          ·
            have v115 : CallOK Try.prog 26 [.ls 10530, .i c] [10530] [some (.ro 1 ((wayL n.pipes a).length) (Lst eI (wayL n.pipes a)))] (.b (memB (wayL n.pipes a) c)) [] := (CallFr.to (has_fr (wayL n.pipes a) c (by omega)) [(1, 10530)] (by kernel_rfl) (by kernel_rfl) (by kernel_rfl) (by kernel_rfl) (by kernel_rfl) (dem_cons rfl (le_ro rfl el_rfl) dem_nil))
            have v116 : CallOK Try.prog 26 [.ls 10600, .i c] [10600] [some (.ro 1 ((wayL n.pipes b).length) (Lst eI (wayL n.pipes b)))] (.b (memB (wayL n.pipes b) c)) [] := (CallFr.to (has_fr (wayL n.pipes b) c (by omega)) [(1, 10600)] (by kernel_rfl) (by kernel_rfl) (by kernel_rfl) (by kernel_rfl) (by kernel_rfl) (dem_cons rfl (le_ro rfl el_rfl) dem_nil))
            have v117 : BinRun Try.prog .neq 4 (.tmp 246) (.tmp 249) (.bool (memB (wayL n.pipes a) c)) (.bool (memB (wayL n.pipes b) c)) (.bool false) := (bin_neq_bool (memB (wayL n.pipes a) c) (memB (wayL n.pipes b) c) (by rw [h91, h107] <;> rfl))
            refine aw_region [(2, .call [10530] (.b (memB (wayL n.pipes a) c)) []), (5, .call [10600] (.b (memB (wayL n.pipes b) c)) []), (6, .dec false)] [17, 19, 20, 23] []
                ⟨266, [1], [(17, .i (dB n.pipes a b)), (19, .i (dB n.pipes a c)), (20, .i (dB n.pipes c b)), (23, .b (decide (c = mt)))], []⟩
                [CallOK Try.prog 26 [.ls 10530, .i c] [10530] [some (.ro 1 ((wayL n.pipes a).length) (Lst eI (wayL n.pipes a)))] (.b (memB (wayL n.pipes a) c)) [], CallOK Try.prog 26 [.ls 10600, .i c] [10600] [some (.ro 1 ((wayL n.pipes b).length) (Lst eI (wayL n.pipes b)))] (.b (memB (wayL n.pipes b) c)) [], BinRun Try.prog .neq 4 (.tmp 246) (.tmp 249) (.bool (memB (wayL n.pipes a) c)) (.bool (memB (wayL n.pipes b) c)) (.bool false)] (by kernel_rfl) ⟨v115, v116, v117⟩ ?_
            clear v115 v116 v117
            refine aw_seq ?_
            have h118 : (((decide (c = mt)) == (decide ((dB n.pipes a b) = ((dB n.pipes a c) + (dB n.pipes c b)))))) = true := by have hf := forest_on ht hpl (show 0 ≤ a by omega) (by omega) (show 0 ≤ b by omega) (by omega) (show 0 ≤ c by omega) (by omega) hme; unfold onB at hf; by_cases h : (dB n.pipes a b) = (dB n.pipes a c) + (dB n.pipes c b) <;> simp_all
            have v119 : -9223372036854775808 ≤ ((dB n.pipes a c) + (dB n.pipes c b)) ∧ ((dB n.pipes a c) + (dB n.pipes c b)) < 9223372036854775808 := (by first | omega | rfl | assumption)
            have v120 : BinRun Try.prog .eql 4 (.tmp 256) (.tmp 261) (.bool (decide (c = mt))) (.bool (decide ((dB n.pipes a b) = ((dB n.pipes a c) + (dB n.pipes c b))))) (.bool true) := (bin_eql_bool (decide (c = mt)) (decide ((dB n.pipes a b) = ((dB n.pipes a c) + (dB n.pipes c b)))) (h118))
            have v121 : CallOK Try.prog 15 [] [] [] (.b true) [] := (CallFr.to (known_fr ) [] (by kernel_rfl) (by kernel_rfl) (by kernel_rfl) (by kernel_rfl) (by kernel_rfl) dem_nil)
            refine aw_region [(6, .dec true), (8, .call [] (.b true) [])] [4] []
                ⟨266, [1], [(4, .b true)], []⟩
                [-9223372036854775808 ≤ ((dB n.pipes a c) + (dB n.pipes c b)) ∧ ((dB n.pipes a c) + (dB n.pipes c b)) < 9223372036854775808, BinRun Try.prog .eql 4 (.tmp 256) (.tmp 261) (.bool (decide (c = mt))) (.bool (decide ((dB n.pipes a b) = ((dB n.pipes a c) + (dB n.pipes c b))))) (.bool true), CallOK Try.prog 15 [] [] [] (.b true) []] (by kernel_rfl) ⟨v119, v120, v121⟩ ?_
            clear v119 v120 v121
            exact aw_ret ⟨.inr rfl, end_ok ⟨266, [1], [(4, .b true)], []⟩
                (Ent.ren [] rfl rfl (by kernel_rfl) (slots_cons rfl slots_nil) conts_nil (by kernel_rfl)) rfl (by kernel_rfl) wr_nil (by kernel_rfl)⟩
end Go.Proofs.Ytepibjfmeibgcaa
