/- TrunkBlocks, walked. -/
import Derived.Test.YtbpblhmigijkaaaTw
import Derived.Test.YtbpblhmigijkaaaTn
namespace Go.Proofs.Ytbpblhmigijkaaa
open Go.RowKit
set_option linter.unusedVariables false
set_option linter.unusedSimpArgs false
def blocks_frK1 (t : TreeV) : Cn := .ro 3 t.holes.length (Lst eH t.holes)
def blocks_frK2 (r : RuleV) : Cn := .ro 2 r.sizes.length (Lst eZ r.sizes)
def blocks_frK3 (t : TreeV) : Cn := .blk 26 [.i t.year, .i t.glo, .i t.ghi, .i t.wlo, .i t.whi, .i t.health, .ls 1]
def blocks_frK4 (r : RuleV) : Cn := .blk 30 [.i r.slo, .i r.shi, .i r.ulo, .i r.uhi, .i r.hlo, .i r.hhi, .i r.apart, .i r.blo, .i r.bhi, .ls 2, .i r.n0, .i r.n1, .i r.n2, .i r.n3, .i r.n4, .i r.opn]
def blocks_frK5 (t : TreeV) : Cn := .vec 74 3 ((t.holes).length) (Lst eH t.holes)
def blocks_frK6 (r : RuleV) : Cn := .vec 45 2 ((r.sizes).length) (Lst eZ r.sizes)
def blocks_frK7 (t : TreeV) (r : RuleV) (a0 : Int) (a1 : Int) (a2 : Int) : Cn := .vec 3 1 ((blocksL t r a0 (⟨a1, a2⟩ : Spt) false).length) (Lst eI (blocksL t r a0 (⟨a1, a2⟩ : Spt) false))
def blocks_frK8 (t : TreeV) (r : RuleV) (a0 : Int) (a1 : Int) (a2 : Int) : Cn := .vec 3 1 ((blocksL t r a0 (⟨a1, a2⟩ : Spt) true).length) (Lst eI (blocksL t r a0 (⟨a1, a2⟩ : Spt) true))
def blocks_frK9 (a1 : Int) (a2 : Int) : Cn := .vec 72 2 1 (exEl 2 [.i a1, .i a2])
set_option maxHeartbeats 4000000 in
set_option maxRecDepth 100000 in
theorem blocks_fr (t : TreeV) (r : RuleV) (a0 a1 a2 : Int) (ht : t.holes.length ≤ 9223372036854775807) (hr : r.sizes.length ≤ 9223372036854775807) : CallFr Try.prog 7 [.agg [.i t.year, .i t.glo, .i t.ghi, .i t.wlo, .i t.whi, .i t.health, .ls 1], .agg [.i r.slo, .i r.shi, .i r.ulo, .i r.uhi, .i r.hlo, .i r.hhi, .i r.apart, .i r.blo, .i r.bhi, .ls 2, .i r.n0, .i r.n1, .i r.n2, .i r.n3, .i r.n4, .i r.opn], .agg [.i a0, .i a1, .i a2]] [1, 2] [some (.ro 3 t.holes.length (Lst eH t.holes)), some (.ro 2 r.sizes.length (Lst eZ r.sizes))] (.b true) [] := by
 refine callFr_of (fn := Try.f7) (by kernel_rfl) rfl (by kernel_rfl) (by kernel_rfl) fun E => ?_
 refine aw_ent (T := ⟨87, [1, 2], [(0, .agg [.i t.year, .i t.glo, .i t.ghi, .i t.wlo, .i t.whi, .i t.health, .ls 1]), (1, .agg [.i r.slo, .i r.shi, .i r.ulo, .i r.uhi, .i r.hlo, .i r.hhi, .i r.apart, .i r.blo, .i r.bhi, .ls 2, .i r.n0, .i r.n1, .i r.n2, .i r.n3, .i r.n4, .i r.opn]), (2, .agg [.i a0, .i a1, .i a2])], [(1, some (blocks_frK1 t)), (2, some (blocks_frK2 r))]⟩) (Ent.refl _) ?_
 refine aw_seq ?_
 refine aw_r [(0, .new 1003), (1, .new 1004), (2, .new 1005)]
  ⟨87, [1, 2], [(3, .l (.ref 1003 0)), (4, .l (.ref 1004 0)), (5, .l (.ref 1005 0))], [(1, some (blocks_frK1 t)), (2, some (blocks_frK2 r)), (1003, some (blocks_frK3 t)), (1004, some (blocks_frK4 r)), (1005, some (.blk 51 [.i a0, .i a1, .i a2]))]⟩
  [] (by kernel_rfl) trivial ?_
 refine aw_seq ?_
 refine aw_seq ?_
 refine aw_r [(2, .call [1, 2] (.b (largeB t r)) [])]
  ⟨87, [1, 2], [(3, .l (.ref 1003 0)), (4, .l (.ref 1004 0)), (5, .l (.ref 1005 0)), (14, .b (largeB t r))], [(1, some (blocks_frK1 t)), (2, some (blocks_frK2 r)), (1003, some (blocks_frK3 t)), (1004, some (blocks_frK4 r)), (1005, some (.blk 51 [.i a0, .i a1, .i a2]))]⟩
  [CallOK Try.prog 13 [.agg [.i t.year, .i t.glo, .i t.ghi, .i t.wlo, .i t.whi, .i t.health, .ls 1], .agg [.i r.slo, .i r.shi, .i r.ulo, .i r.uhi, .i r.hlo, .i r.hhi, .i r.apart, .i r.blo, .i r.bhi, .ls 2, .i r.n0, .i r.n1, .i r.n2, .i r.n3, .i r.n4, .i r.opn]] [1, 2] [some (blocks_frK1 t), some (blocks_frK2 r)] (.b (largeB t r)) []] (by kernel_rfl) (al1 (CallFr.to (large_fr t r (by first | omega | (simp; done) | assumption) (by first | omega | (simp; done) | assumption)) [(1, 1), (2, 2)] (by kernel_rfl) (by kernel_rfl) (by kernel_rfl) (by kernel_rfl) (by kernel_rfl) (dem_cons rfl (le_ro rfl el_rfl) (dem_cons rfl (le_ro rfl el_rfl) dem_nil)))) ?_
 refine aw_cond (b := (largeB t r)) rfl (fun h1 => ?_) (fun h1 => ?_)
 ·
  refine aw_seq ?_
  refine aw_r [(0, .call [] (.b true) [])]
   ⟨87, [1, 2], [(6, .b true)], []⟩
   [CallOK Try.prog 14 [] [] [] (.b true) []] (by kernel_rfl) (al1 (CallFr.to (known_fr ) [] (by kernel_rfl) (by kernel_rfl) (by kernel_rfl) (by kernel_rfl) (by kernel_rfl) dem_nil)) ?_
  exact aw_ret (ret_then ⟨.inr rfl, end_ok ⟨87, [1, 2], [(6, .b true)], []⟩
      (Ent.ren [] rfl rfl (by kernel_rfl) ⟨rfl, trivial⟩ trivial (by kernel_rfl)) rfl (by kernel_rfl) wr_nil (by kernel_rfl)⟩)
 ·
  refine aw_skip ?_
  refine aw_seq ?_
  refine aw_r [(0, .idx 1), (2, .idx 2), (5, .new 1007)]
   ⟨87, [1, 2], [(3, .l (.ref 1003 0)), (4, .l (.ref 1004 0)), (5, .l (.ref 1005 0)), (7, .l (.ref 1007 0))], [(1, some (blocks_frK1 t)), (2, some (blocks_frK2 r)), (1003, some (blocks_frK3 t)), (1004, some (blocks_frK4 r)), (1005, some (.blk 51 [.i a0, .i a1, .i a2])), (1007, some (.blk 72 [.i a1, .i a2]))]⟩
   [1 = ((1 : Nat) : Int), 2 = ((2 : Nat) : Int)] (by kernel_rfl) (al2 (by omega) (al1 (by omega))) ?_
  refine aw_seq ?_
  have hsz := large_no (by assumption)
  refine aw_d [(1, .call [1] (.agg [.i t.year, .i t.glo, .i t.ghi, .i t.wlo, .i t.whi, .i t.health, .ls 10230]) [(10230, some (blocks_frK5 t))]), (3, .call [2] (.agg [.i r.slo, .i r.shi, .i r.ulo, .i r.uhi, .i r.hlo, .i r.hhi, .i r.apart, .i r.blo, .i r.bhi, .ls 10250, .i r.n0, .i r.n1, .i r.n2, .i r.n3, .i r.n4, .i r.opn]) [(10250, some (blocks_frK6 r))]), (4, .idx 0), (7, .call [10230, 10250] (.tup [.one (.ls 10290), .one (.ls 10291), .one (.i (blocksE t r a0 (⟨a1, a2⟩ : Spt)))]) [(10290, some (blocks_frK7 t r a0 a1 a2)), (10291, some (blocks_frK8 t r a0 a1 a2))])]
   ⟨87, [1, 2], [(3, .l (.ref 1003 0)), (4, .l (.ref 1004 0)), (5, .l (.ref 1005 0)), (7, .l (.ref 1007 0)), (8, .ls 10290), (9, .ls 10291), (10, .i (blocksE t r a0 (⟨a1, a2⟩ : Spt)))], [(1, some (blocks_frK1 t)), (2, some (blocks_frK2 r)), (1003, some (blocks_frK3 t)), (1004, some (blocks_frK4 r)), (1005, some (.blk 51 [.i a0, .i a1, .i a2])), (1007, some (.blk 72 [.i a1, .i a2])), (10290, some (blocks_frK7 t r a0 a1 a2)), (10291, some (blocks_frK8 t r a0 a1 a2))]⟩
   [CallOK Try.prog 15 [.agg [.i t.year, .i t.glo, .i t.ghi, .i t.wlo, .i t.whi, .i t.health, .ls 1]] [1] [some (blocks_frK1 t)] (.agg [.i t.year, .i t.glo, .i t.ghi, .i t.wlo, .i t.whi, .i t.health, .ls 10230]) [(10230, some (blocks_frK5 t))], CallOK Try.prog 16 [.agg [.i r.slo, .i r.shi, .i r.ulo, .i r.uhi, .i r.hlo, .i r.hhi, .i r.apart, .i r.blo, .i r.bhi, .ls 2, .i r.n0, .i r.n1, .i r.n2, .i r.n3, .i r.n4, .i r.opn]] [2] [some (blocks_frK2 r)] (.agg [.i r.slo, .i r.shi, .i r.ulo, .i r.uhi, .i r.hlo, .i r.hhi, .i r.apart, .i r.blo, .i r.bhi, .ls 10250, .i r.n0, .i r.n1, .i r.n2, .i r.n3, .i r.n4, .i r.opn]) [(10250, some (blocks_frK6 r))], 0 = ((0 : Nat) : Int), CallOK Try.prog 38 [.agg [.i t.year, .i t.glo, .i t.ghi, .i t.wlo, .i t.whi, .i t.health, .ls 10230], .agg [.i r.slo, .i r.shi, .i r.ulo, .i r.uhi, .i r.hlo, .i r.hhi, .i r.apart, .i r.blo, .i r.bhi, .ls 10250, .i r.n0, .i r.n1, .i r.n2, .i r.n3, .i r.n4, .i r.opn], .i a0, .agg [.i a1, .i a2]] [10230, 10250] [some (blocks_frK5 t), some (blocks_frK6 r)] (.tup [.one (.ls 10290), .one (.ls 10291), .one (.i (blocksE t r a0 (⟨a1, a2⟩ : Spt)))]) [(10290, some (blocks_frK7 t r a0 a1 a2)), (10291, some (blocks_frK8 t r a0 a1 a2))]] (by kernel_rfl) (by kernel_rfl) (al2 (CallFr.to (own_fr t (by first | omega | (simp; done) | assumption)) [(1, 1), (2, 10230)] (by kernel_rfl) (by kernel_rfl) (by kernel_rfl) (by kernel_rfl) (by kernel_rfl) (dem_cons rfl (le_ro rfl el_rfl) dem_nil)) (al2 (CallFr.to (tapsc_fr r (by first | omega | (simp; done) | assumption)) [(1, 2), (2, 10250)] (by kernel_rfl) (by kernel_rfl) (by kernel_rfl) (by kernel_rfl) (by kernel_rfl) (dem_cons rfl (le_ro rfl el_rfl) dem_nil)) (al2 (by omega) (al1 (CallFr.to (Blocks_fr t r a0 (⟨a1, a2⟩ : Spt) (by first | omega | (simp; done) | assumption) (by first | omega | (simp; done) | assumption)) [(1, 10230), (2, 10250), (3, 10290), (4, 10291)] (by kernel_rfl) (by kernel_rfl) (by kernel_rfl) (by kernel_rfl) (by kernel_rfl) (dem_cons rfl (le_vec_ro rfl el_rfl) (dem_cons rfl (le_vec_ro rfl el_rfl) dem_nil))))))) ?_
  refine aw_seq ?_
  refine aw_r [(2, .idx 0), (4, .call [1, 2] (.i (startE t r a0)) [])]
   ⟨87, [1, 2], [(3, .l (.ref 1003 0)), (4, .l (.ref 1004 0)), (5, .l (.ref 1005 0)), (7, .l (.ref 1007 0)), (8, .ls 10290), (9, .ls 10291), (10, .i (blocksE t r a0 (⟨a1, a2⟩ : Spt))), (11, .i (startE t r a0))], [(1, some (blocks_frK1 t)), (2, some (blocks_frK2 r)), (1003, some (blocks_frK3 t)), (1004, some (blocks_frK4 r)), (1005, some (.blk 51 [.i a0, .i a1, .i a2])), (1007, some (.blk 72 [.i a1, .i a2])), (10290, some (blocks_frK7 t r a0 a1 a2)), (10291, some (blocks_frK8 t r a0 a1 a2))]⟩
   [0 = ((0 : Nat) : Int), CallOK Try.prog 24 [.agg [.i t.year, .i t.glo, .i t.ghi, .i t.wlo, .i t.whi, .i t.health, .ls 1], .agg [.i r.slo, .i r.shi, .i r.ulo, .i r.uhi, .i r.hlo, .i r.hhi, .i r.apart, .i r.blo, .i r.bhi, .ls 2, .i r.n0, .i r.n1, .i r.n2, .i r.n3, .i r.n4, .i r.opn], .i a0] [1, 2] [some (blocks_frK1 t), some (blocks_frK2 r)] (.i (startE t r a0)) []] (by kernel_rfl) (al2 (by omega) (al1 (CallFr.to (refStart_fr t r a0 (by first | omega | (simp; done) | assumption) (by first | omega | (simp; done) | assumption)) [(1, 1), (2, 2)] (by kernel_rfl) (by kernel_rfl) (by kernel_rfl) (by kernel_rfl) (by kernel_rfl) (dem_cons rfl (le_ro rfl el_rfl) (dem_cons rfl (le_ro rfl el_rfl) dem_nil))))) ?_
  refine aw_seq ?_
  refine aw_seq ?_
  rcases Bool.eq_false_or_eq_true (decide ((startE t r a0) = 0)) with h2 | h2
  ·
   have h2p : (startE t r a0) = 0 := dtr h2
   refine aw_r [(2, .dec true), (4, .new 1042), (5, .call [1042] (.b (spotsB ([(⟨a1, a2⟩ : Spt)]))) [])]
    ⟨87, [1, 2], [(3, .l (.ref 1003 0)), (4, .l (.ref 1004 0)), (5, .l (.ref 1005 0)), (7, .l (.ref 1007 0)), (8, .ls 10290), (9, .ls 10291), (10, .i (blocksE t r a0 (⟨a1, a2⟩ : Spt))), (11, .i (startE t r a0)), (45, .b (!(spotsB ([(⟨a1, a2⟩ : Spt)]))))], [(1, some (blocks_frK1 t)), (2, some (blocks_frK2 r)), (1003, some (blocks_frK3 t)), (1004, some (blocks_frK4 r)), (1005, some (.blk 51 [.i a0, .i a1, .i a2])), (1007, some (.blk 72 [.i a1, .i a2])), (10290, some (blocks_frK7 t r a0 a1 a2)), (10291, some (blocks_frK8 t r a0 a1 a2))]⟩
    [decide ((startE t r a0) = 0) = true, CallOK Try.prog 39 [.ls 1042] [1042] [some (blocks_frK9 a1 a2)] (.b (spotsB ([(⟨a1, a2⟩ : Spt)]))) []] (by kernel_rfl) (al2 h2 (al1 (CallFr.to (refOn_fr ([(⟨a1, a2⟩ : Spt)]) (by first | omega | (simp; done) | decide)) [(0, 1042)] (by kernel_rfl) (by kernel_rfl) (by kernel_rfl) (by kernel_rfl) (by kernel_rfl) (dem_cons rfl (le_vec_ro (by first | omega | rfl | assumption) (fun | 0, _ => (fun | 0, _ => rfl | 1, _ => rfl | (_n + 2), h => absurd h (by omega)) | (_n + 1), h => absurd h (by omega))) dem_nil)))) ?_
   refine aw_cond (b := (!(spotsB ([(⟨a1, a2⟩ : Spt)])))) rfl (fun h3 => ?_) (fun h3 => ?_)
   ·
    refine aw_r []
     ⟨87, [1, 2], [(3, .l (.ref 1003 0)), (4, .l (.ref 1004 0)), (5, .l (.ref 1005 0)), (7, .l (.ref 1007 0)), (8, .ls 10290), (9, .ls 10291), (10, .i (blocksE t r a0 (⟨a1, a2⟩ : Spt))), (11, .i 3)], [(1, some (blocks_frK1 t)), (2, some (blocks_frK2 r)), (1003, some (blocks_frK3 t)), (1004, some (blocks_frK4 r)), (1005, some (.blk 51 [.i a0, .i a1, .i a2])), (1007, some (.blk 72 [.i a1, .i a2])), (10290, some (blocks_frK7 t r a0 a1 a2)), (10291, some (blocks_frK8 t r a0 a1 a2))]⟩
     [] (by kernel_rfl) trivial ?_
    refine aw_seq ?_
    refine aw_seq ?_
    refine aw_r []
     ⟨87, [1, 2], [(3, .l (.ref 1003 0)), (4, .l (.ref 1004 0)), (5, .l (.ref 1005 0)), (7, .l (.ref 1007 0)), (8, .ls 10290), (9, .ls 10291), (10, .i (blocksE t r a0 (⟨a1, a2⟩ : Spt))), (11, .i 3), (47, .b (decide ((3 : Int) ≠ (0 : Int))))], [(1, some (blocks_frK1 t)), (2, some (blocks_frK2 r)), (1003, some (blocks_frK3 t)), (1004, some (blocks_frK4 r)), (1005, some (.blk 51 [.i a0, .i a1, .i a2])), (1007, some (.blk 72 [.i a1, .i a2])), (10290, some (blocks_frK7 t r a0 a1 a2)), (10291, some (blocks_frK8 t r a0 a1 a2))]⟩
     [] (by kernel_rfl) trivial ?_
    have h4 : (decide ((3 : Int) ≠ (0 : Int))) = true := by decide
    refine aw_cond (b := decide ((3 : Int) ≠ (0 : Int))) rfl (fun _ => ?_) (fun h => Bool.noConfusion (h4.symm.trans h))
    refine aw_seq ?_
    have hb1 := blocksL_bd (t := t) (r := r) (y := a0) (s := (⟨a1, a2⟩ : Spt)) (q := false)
    have hb2 := blocksL_bd (t := t) (r := r) (y := a0) (s := (⟨a1, a2⟩ : Spt)) (q := true)
    have h5 : (decide ((blocksE t r a0 (⟨a1, a2⟩ : Spt)) = 3)) = true := by exact decide_eq_true (by simp_all [blocksE])
    have h6 : (decide (((((blocksL t r a0 (⟨a1, a2⟩ : Spt) false).length + (blocksL t r a0 (⟨a1, a2⟩ : Spt) true).length) : Nat) : Int) = 0)) = true := by exact decide_eq_true (by rw [blocksL_len (by simp_all [blocksE]), blocksL_len (by simp_all [blocksE])]; rfl)
    refine aw_r [(3, .dec true), (8, .num ((((blocksL t r a0 (⟨a1, a2⟩ : Spt) false).length + (blocksL t r a0 (⟨a1, a2⟩ : Spt) true).length) : Nat) : Int)), (11, .dec true), (12, .call [] (.b true) [])]
     ⟨87, [1, 2], [(6, .b true)], []⟩
     [decide ((blocksE t r a0 (⟨a1, a2⟩ : Spt)) = 3) = true, ((((blocksL t r a0 (⟨a1, a2⟩ : Spt) false).length : Nat) : Int) + (((blocksL t r a0 (⟨a1, a2⟩ : Spt) true).length : Nat) : Int)) = ((((blocksL t r a0 (⟨a1, a2⟩ : Spt) false).length + (blocksL t r a0 (⟨a1, a2⟩ : Spt) true).length) : Nat) : Int), -9223372036854775808 ≤ ((((blocksL t r a0 (⟨a1, a2⟩ : Spt) false).length + (blocksL t r a0 (⟨a1, a2⟩ : Spt) true).length) : Nat) : Int) ∧ ((((blocksL t r a0 (⟨a1, a2⟩ : Spt) false).length + (blocksL t r a0 (⟨a1, a2⟩ : Spt) true).length) : Nat) : Int) < 9223372036854775808, decide (((((blocksL t r a0 (⟨a1, a2⟩ : Spt) false).length + (blocksL t r a0 (⟨a1, a2⟩ : Spt) true).length) : Nat) : Int) = 0) = true, CallOK Try.prog 14 [] [] [] (.b true) []] (by kernel_rfl) (al2 h5 (al2 (by omega) (al2 (by omega) (al2 h6 (al1 (CallFr.to (known_fr ) [] (by kernel_rfl) (by kernel_rfl) (by kernel_rfl) (by kernel_rfl) (by kernel_rfl) dem_nil)))))) ?_
    exact aw_ret (ret_then ⟨.inr rfl, end_ok ⟨87, [1, 2], [(6, .b true)], []⟩
        (Ent.ren [] rfl rfl (by kernel_rfl) ⟨rfl, trivial⟩ trivial (by kernel_rfl)) rfl (by kernel_rfl) wr_nil (by kernel_rfl)⟩)
   ·
    refine aw_skip ?_
    refine aw_seq ?_
    refine aw_seq ?_
    refine aw_r []
     ⟨87, [1, 2], [(3, .l (.ref 1003 0)), (4, .l (.ref 1004 0)), (5, .l (.ref 1005 0)), (7, .l (.ref 1007 0)), (8, .ls 10290), (9, .ls 10291), (10, .i (blocksE t r a0 (⟨a1, a2⟩ : Spt))), (11, .i (startE t r a0)), (47, .b (decide ((startE t r a0) ≠ 0)))], [(1, some (blocks_frK1 t)), (2, some (blocks_frK2 r)), (1003, some (blocks_frK3 t)), (1004, some (blocks_frK4 r)), (1005, some (.blk 51 [.i a0, .i a1, .i a2])), (1007, some (.blk 72 [.i a1, .i a2])), (10290, some (blocks_frK7 t r a0 a1 a2)), (10291, some (blocks_frK8 t r a0 a1 a2))]⟩
     [] (by kernel_rfl) trivial ?_
    have h7 : (decide ((startE t r a0) ≠ 0)) = false := by simp_all
    refine aw_cond (b := decide ((startE t r a0) ≠ 0)) rfl (fun h => Bool.noConfusion (h7.symm.trans h)) (fun _ => ?_)
    refine aw_skip ?_
    refine aw_seq ?_
    have hb1 := blocksL_bd (t := t) (r := r) (y := a0) (s := (⟨a1, a2⟩ : Spt)) (q := false)
    have hb2 := blocksL_bd (t := t) (r := r) (y := a0) (s := (⟨a1, a2⟩ : Spt)) (q := true)
    have h8 : (decide ((blocksE t r a0 (⟨a1, a2⟩ : Spt)) = 0)) = true := by exact decide_eq_true (blocksE_0.2 ⟨by assumption, by simpa using (by assumption : (!(spotsB [(⟨a1, a2⟩ : Spt)])) = false)⟩)
    refine aw_r [(2, .dec true), (6, .idx 0), (9, .call [1, 2] (.ls 10710) [(10710, some (blocks_frK7 t r a0 a1 a2))]), (10, .call [10290, 10710] (.b true) []), (16, .idx 0), (19, .call [1, 2] (.ls 10810) [(10810, some (blocks_frK8 t r a0 a1 a2))]), (20, .call [10291, 10810] (.b true) []), (23, .call [] (.b true) [])]
     ⟨87, [1, 2], [(6, .b true)], []⟩
     [decide ((blocksE t r a0 (⟨a1, a2⟩ : Spt)) = 0) = true, 0 = ((0 : Nat) : Int), CallOK Try.prog 41 [.agg [.i t.year, .i t.glo, .i t.ghi, .i t.wlo, .i t.whi, .i t.health, .ls 1], .agg [.i r.slo, .i r.shi, .i r.ulo, .i r.uhi, .i r.hlo, .i r.hhi, .i r.apart, .i r.blo, .i r.bhi, .ls 2, .i r.n0, .i r.n1, .i r.n2, .i r.n3, .i r.n4, .i r.opn], .i a0, .agg [.i a1, .i a2], .b false] [1, 2] [some (blocks_frK1 t), some (blocks_frK2 r)] (.ls 10710) [(10710, some (blocks_frK7 t r a0 a1 a2))], CallOK Try.prog 40 [.ls 10290, .ls 10710] [10290, 10710] [some (blocks_frK7 t r a0 a1 a2), some (blocks_frK7 t r a0 a1 a2)] (.b true) [], 0 = ((0 : Nat) : Int), CallOK Try.prog 41 [.agg [.i t.year, .i t.glo, .i t.ghi, .i t.wlo, .i t.whi, .i t.health, .ls 1], .agg [.i r.slo, .i r.shi, .i r.ulo, .i r.uhi, .i r.hlo, .i r.hhi, .i r.apart, .i r.blo, .i r.bhi, .ls 2, .i r.n0, .i r.n1, .i r.n2, .i r.n3, .i r.n4, .i r.opn], .i a0, .agg [.i a1, .i a2], .b true] [1, 2] [some (blocks_frK1 t), some (blocks_frK2 r)] (.ls 10810) [(10810, some (blocks_frK8 t r a0 a1 a2))], CallOK Try.prog 40 [.ls 10291, .ls 10810] [10291, 10810] [some (blocks_frK8 t r a0 a1 a2), some (blocks_frK8 t r a0 a1 a2)] (.b true) [], CallOK Try.prog 14 [] [] [] (.b true) []] (by kernel_rfl) (al2 h8 (al2 (by omega) (al2 (CallFr.to (refBlocks_f t r a0 (by first | omega | (simp; done) | assumption) (by first | omega | (simp; done) | assumption) (⟨a1, a2⟩ : Spt) (by first | assumption | simp_all [blocksE])) [(1, 1), (2, 2), (4, 10710)] (by kernel_rfl) (by kernel_rfl) (by kernel_rfl) (by kernel_rfl) (by kernel_rfl) (dem_cons rfl (le_ro rfl el_rfl) (dem_cons rfl (le_ro rfl el_rfl) dem_nil))) (al2 (CallFr.to (intsS_fr (blocksL t r a0 (⟨a1, a2⟩ : Spt) false) (by first | omega | (simp; done) | assumption)) [(1, 10290), (2, 10710)] (by kernel_rfl) (by kernel_rfl) (by kernel_rfl) (by kernel_rfl) (by kernel_rfl) (dem_cons rfl (le_vec_ro rfl el_rfl) (dem_cons rfl (le_vec_ro rfl el_rfl) dem_nil))) (al2 (by omega) (al2 (CallFr.to (refBlocks_t t r a0 (by first | omega | (simp; done) | assumption) (by first | omega | (simp; done) | assumption) (⟨a1, a2⟩ : Spt) (by first | assumption | simp_all [blocksE])) [(1, 1), (2, 2), (4, 10810)] (by kernel_rfl) (by kernel_rfl) (by kernel_rfl) (by kernel_rfl) (by kernel_rfl) (dem_cons rfl (le_ro rfl el_rfl) (dem_cons rfl (le_ro rfl el_rfl) dem_nil))) (al2 (CallFr.to (intsS_fr (blocksL t r a0 (⟨a1, a2⟩ : Spt) true) (by first | omega | (simp; done) | assumption)) [(1, 10291), (2, 10810)] (by kernel_rfl) (by kernel_rfl) (by kernel_rfl) (by kernel_rfl) (by kernel_rfl) (dem_cons rfl (le_vec_ro rfl el_rfl) (dem_cons rfl (le_vec_ro rfl el_rfl) dem_nil))) (al1 (CallFr.to (known_fr ) [] (by kernel_rfl) (by kernel_rfl) (by kernel_rfl) (by kernel_rfl) (by kernel_rfl) dem_nil))))))))) ?_
    exact aw_ret ⟨.inr rfl, end_ok ⟨87, [1, 2], [(6, .b true)], []⟩
        (Ent.ren [] rfl rfl (by kernel_rfl) ⟨rfl, trivial⟩ trivial (by kernel_rfl)) rfl (by kernel_rfl) wr_nil (by kernel_rfl)⟩
  ·
   have h2p : (startE t r a0) ≠ 0 := deq h2
   refine aw_r [(2, .dec false)]
    ⟨87, [1, 2], [(3, .l (.ref 1003 0)), (4, .l (.ref 1004 0)), (5, .l (.ref 1005 0)), (7, .l (.ref 1007 0)), (8, .ls 10290), (9, .ls 10291), (10, .i (blocksE t r a0 (⟨a1, a2⟩ : Spt))), (11, .i (startE t r a0)), (45, .b false)], [(1, some (blocks_frK1 t)), (2, some (blocks_frK2 r)), (1003, some (blocks_frK3 t)), (1004, some (blocks_frK4 r)), (1005, some (.blk 51 [.i a0, .i a1, .i a2])), (1007, some (.blk 72 [.i a1, .i a2])), (10290, some (blocks_frK7 t r a0 a1 a2)), (10291, some (blocks_frK8 t r a0 a1 a2))]⟩
    [decide ((startE t r a0) = 0) = false] (by kernel_rfl) (al1 h2) ?_
   refine aw_false rfl ?_
   refine aw_skip ?_
   refine aw_seq ?_
   refine aw_seq ?_
   refine aw_r []
    ⟨87, [1, 2], [(3, .l (.ref 1003 0)), (4, .l (.ref 1004 0)), (5, .l (.ref 1005 0)), (7, .l (.ref 1007 0)), (8, .ls 10290), (9, .ls 10291), (10, .i (blocksE t r a0 (⟨a1, a2⟩ : Spt))), (11, .i (startE t r a0)), (47, .b (decide ((startE t r a0) ≠ 0)))], [(1, some (blocks_frK1 t)), (2, some (blocks_frK2 r)), (1003, some (blocks_frK3 t)), (1004, some (blocks_frK4 r)), (1005, some (.blk 51 [.i a0, .i a1, .i a2])), (1007, some (.blk 72 [.i a1, .i a2])), (10290, some (blocks_frK7 t r a0 a1 a2)), (10291, some (blocks_frK8 t r a0 a1 a2))]⟩
    [] (by kernel_rfl) trivial ?_
   have h9 : (decide ((startE t r a0) ≠ 0)) = true := by simp_all
   refine aw_cond (b := decide ((startE t r a0) ≠ 0)) rfl (fun _ => ?_) (fun h => Bool.noConfusion (h9.symm.trans h))
   refine aw_seq ?_
   have hb1 := blocksL_bd (t := t) (r := r) (y := a0) (s := (⟨a1, a2⟩ : Spt)) (q := false)
   have hb2 := blocksL_bd (t := t) (r := r) (y := a0) (s := (⟨a1, a2⟩ : Spt)) (q := true)
   have h10 : (decide ((blocksE t r a0 (⟨a1, a2⟩ : Spt)) = (startE t r a0))) = true := by exact decide_eq_true (by simp_all [blocksE])
   have h11 : (decide (((((blocksL t r a0 (⟨a1, a2⟩ : Spt) false).length + (blocksL t r a0 (⟨a1, a2⟩ : Spt) true).length) : Nat) : Int) = 0)) = true := by exact decide_eq_true (by rw [blocksL_len (by simp_all [blocksE]), blocksL_len (by simp_all [blocksE])]; rfl)
   refine aw_r [(3, .dec true), (8, .num ((((blocksL t r a0 (⟨a1, a2⟩ : Spt) false).length + (blocksL t r a0 (⟨a1, a2⟩ : Spt) true).length) : Nat) : Int)), (11, .dec true), (12, .call [] (.b true) [])]
    ⟨87, [1, 2], [(6, .b true)], []⟩
    [decide ((blocksE t r a0 (⟨a1, a2⟩ : Spt)) = (startE t r a0)) = true, ((((blocksL t r a0 (⟨a1, a2⟩ : Spt) false).length : Nat) : Int) + (((blocksL t r a0 (⟨a1, a2⟩ : Spt) true).length : Nat) : Int)) = ((((blocksL t r a0 (⟨a1, a2⟩ : Spt) false).length + (blocksL t r a0 (⟨a1, a2⟩ : Spt) true).length) : Nat) : Int), -9223372036854775808 ≤ ((((blocksL t r a0 (⟨a1, a2⟩ : Spt) false).length + (blocksL t r a0 (⟨a1, a2⟩ : Spt) true).length) : Nat) : Int) ∧ ((((blocksL t r a0 (⟨a1, a2⟩ : Spt) false).length + (blocksL t r a0 (⟨a1, a2⟩ : Spt) true).length) : Nat) : Int) < 9223372036854775808, decide (((((blocksL t r a0 (⟨a1, a2⟩ : Spt) false).length + (blocksL t r a0 (⟨a1, a2⟩ : Spt) true).length) : Nat) : Int) = 0) = true, CallOK Try.prog 14 [] [] [] (.b true) []] (by kernel_rfl) (al2 h10 (al2 (by omega) (al2 (by omega) (al2 h11 (al1 (CallFr.to (known_fr ) [] (by kernel_rfl) (by kernel_rfl) (by kernel_rfl) (by kernel_rfl) (by kernel_rfl) dem_nil)))))) ?_
   exact aw_ret (ret_then ⟨.inr rfl, end_ok ⟨87, [1, 2], [(6, .b true)], []⟩
       (Ent.ren [] rfl rfl (by kernel_rfl) ⟨rfl, trivial⟩ trivial (by kernel_rfl)) rfl (by kernel_rfl) wr_nil (by kernel_rfl)⟩)
end Go.Proofs.Ytbpblhmigijkaaa
