/- The reference: what keeps the rules, and drilling. -/
import Derived.Test.YtbpblhmigijkaaaTn
import Derived.Test.YtbpblhmigijkaaaTy2
namespace Go.Proofs.Ytbpblhmigijkaaa
open Go.RowKit
set_option linter.unusedVariables false
set_option linter.unusedSimpArgs false
def refKeeps_frA1 (t : TreeV) : SV := .agg [.i t.year, .i t.glo, .i t.ghi, .i t.wlo, .i t.whi, .i t.health, .ls 1]
def refKeeps_frA2 (r : RuleV) : SV := .agg [.i r.slo, .i r.shi, .i r.ulo, .i r.uhi, .i r.hlo, .i r.hhi, .i r.apart, .i r.blo, .i r.bhi, .ls 2, .i r.n0, .i r.n1, .i r.n2, .i r.n3, .i r.n4, .i r.opn]
def refKeeps_frK3 (t : TreeV) : Cn := .ro 3 t.holes.length (Lst eH t.holes)
def refKeeps_frK4 (r : RuleV) : Cn := .ro 2 r.sizes.length (Lst eZ r.sizes)
def refKeeps_frH5 (t : TreeV) (r : RuleV) (l : List Spt) : List (Nat × Option Cn) := [(1, some (refKeeps_frK3 t)), (2, some (refKeeps_frK4 r)), (3, some (.ro 2 l.length (Lst eS l)))]
def refKeeps_frK6 (t : TreeV) : Cn := .blk 26 [.i t.year, .i t.glo, .i t.ghi, .i t.wlo, .i t.whi, .i t.health, .ls 1]
def refKeeps_frK7 (r : RuleV) : Cn := .blk 30 [.i r.slo, .i r.shi, .i r.ulo, .i r.uhi, .i r.hlo, .i r.hhi, .i r.apart, .i r.blo, .i r.bhi, .ls 2, .i r.n0, .i r.n1, .i r.n2, .i r.n3, .i r.n4, .i r.opn]
def refKeeps_frH8 (t : TreeV) (r : RuleV) (l : List Spt) : List (Nat × Option Cn) := [(1, some (refKeeps_frK3 t)), (2, some (refKeeps_frK4 r)), (3, some (.ro 2 l.length (Lst eS l))), (1004, some (refKeeps_frK6 t)), (1005, some (refKeeps_frK7 r))]
def refKeeps_frK9 (t : TreeV) (r : RuleV) (y : Int) (l : List Spt) (i : Nat) : Cn := .vec 3 1 ((blocksL t r y (ix l i) false).length) (Lst eI (blocksL t r y (ix l i) false))
def refKeeps_frA10 (t : TreeV) (r : RuleV) (y : Int) : SV := .agg [.i (tapsV (openV t r y) (openV t r y).worst), .i (tapsV (openV t r y) (openV t r y).best)]
set_option maxHeartbeats 4000000 in
set_option maxRecDepth 100000 in
theorem refKeeps_fr (t : TreeV) (r : RuleV) (y : Int) (ht : t.holes.length ≤ 1000000) (hr : r.sizes.length ≤ 1000000) (l : List Spt) (h0 : startE t r y = 0) (hs : spotsB l = true) (hn : l.length ≤ 1000) : CallFr Try.prog 48 [(refKeeps_frA1 t), (refKeeps_frA2 r), .i y, .ls 3] [1, 2, 3] [some (.ro 3 t.holes.length (Lst eH t.holes)), some (.ro 2 r.sizes.length (Lst eZ r.sizes)), some (.ro 2 l.length (Lst eS l))] (.tup [.one (.i ((keepsV (openV t r y) l).at_)), .one (.i ((keepsV (openV t r y) l).rule))]) [] := by
 obtain ⟨k1, k2, k3⟩ := startE_0.1 h0
 have hx := open_ok h0
 have hg := girth_bd k1 k3
 have hbt := k2.between
 have hap := k2.apart
 refine callFr_of (fn := Try.f48) (by kernel_rfl) rfl (by kernel_rfl) (by kernel_rfl) fun E => ?_
 refine aw_ent (T := ⟨79, [1, 2, 3], [(0, (refKeeps_frA1 t)), (1, (refKeeps_frA2 r)), (2, .i y), (3, .ls 3)], (refKeeps_frH5 t r l)⟩) (Ent.refl _) ?_
 apply aw_seq
 refine awr [(0, .new 1004), (1, .new 1005)]
  ⟨79, [1, 2, 3], [(2, .i y), (3, .ls 3), (4, .l (.ref 1004 0)), (5, .l (.ref 1005 0))], (refKeeps_frH8 t r l)⟩
  [] trivial ?_
 apply aw_seq
 refine awr [(2, .call [1] (.agg [.i ((girthV t y).low), .i ((girthV t y).high)]) [])]
  ⟨79, [1, 2, 3], [(2, .i y), (3, .ls 3), (4, .l (.ref 1004 0)), (5, .l (.ref 1005 0)), (10, .i ((girthV t y).low))], (refKeeps_frH8 t r l)⟩
  [CallOK Try.prog 26 [(refKeeps_frA1 t), .i y] [1] [some (refKeeps_frK3 t)] (.agg [.i ((girthV t y).low), .i ((girthV t y).high)]) []] (al1 (cfr (refGirth_fr t y (by assumption) (by assumption)) [(1, 1)] (dem_cons rfl (le_ro rfl el_rfl) dem_nil))) ?_
 apply aw_seq
 apply aw_seq
 refine awr []
  ⟨79, [1, 2, 3], [(2, .i y), (3, .ls 3), (4, .l (.ref 1004 0)), (5, .l (.ref 1005 0)), (10, .i ((girthV t y).low)), (11, .i 0)], (refKeeps_frH8 t r l)⟩
  [] trivial ?_
 apply aw_block
 refine aw_loop (ι := Nat) (fun zz => ⟨79, [1, 2, 3], [(2, .i y), (3, .ls 3), (4, .l (.ref 1004 0)), (5, .l (.ref 1005 0)), (10, .i ((girthV t y).low)), (11, .i (zz : Int))], (refKeeps_frH8 t r l)⟩) (fun zz => (zz ≤ l.length) ∧ (keepL (openV t r y) (tapsV (openV t r y) (openV t r y).worst) (gapV (openV t r y)) l zz (l.drop zz) = keepsV (openV t r y) l)) (fun zz => l.length - zz) 0 ⟨(by first | omega | rfl | assumption | (simp; done)), (by rfl)⟩
     (enr [] ⟨rfl, rfl, rfl, rfl, rfl, rfl, trivial⟩ (cro rfl (cro rfl (cro rfl (cbl rfl rfl (cbl rfl rfl trivial)))))) fun zz hp => ?_
 obtain ⟨i, rfl⟩ : ∃ x, x = zz := ⟨_, rfl⟩
 obtain ⟨hiL, hq⟩ := hp
 show AW _ E _ _ ⟨79, [1, 2, 3], [(2, .i y), (3, .ls 3), (4, .l (.ref 1004 0)), (5, .l (.ref 1005 0)), (10, .i ((girthV t y).low)), (11, .i (i : Int))], (refKeeps_frH8 t r l)⟩
 apply aw_seq
 apply aw_seq
 refine awr []
  ⟨79, [1, 2, 3], [(2, .i y), (3, .ls 3), (4, .l (.ref 1004 0)), (5, .l (.ref 1005 0)), (10, .i ((girthV t y).low)), (11, .i (i : Int)), (20, .b (decide ((i : Int) < (l.length : Int))))], (refKeeps_frH8 t r l)⟩
  [] trivial ?_
 refine aw_cond (b := decide ((i : Int) < (l.length : Int))) rfl (fun h1 => ?_) (fun h1 => ?_)
 ·
  have h1p : (i : Int) < (l.length : Int) := dtr h1
  apply aw_skip
  apply aw_seq
  apply aw_block
  apply aw_seq
  apply aw_seq
  refine awd [(2, .idx i), (11, .call [] (.b (within r.blo r.bhi [((ix l i).height)])) [])]
   ⟨79, [1, 2, 3], [(2, .i y), (3, .ls 3), (4, .l (.ref 1004 0)), (5, .l (.ref 1005 0)), (10, .i ((girthV t y).low)), (11, .i (i : Int)), (35, .b (!(within r.blo r.bhi [((ix l i).height)])))], (refKeeps_frH8 t r l)⟩
   [(i : Int) = (i : Int), i < l.length, i < l.length, i < l.length, CallOK Try.prog 63 [.i ((ix l i).height), .i r.blo, .i r.bhi] [] [] (.b (within r.blo r.bhi [((ix l i).height)])) []] (al2 (by omega) (al2 (by omega) (al2 (by omega) (al2 (by omega) (al1 (cfr (refIn_fr ((ix l i).height) r.blo r.bhi) [] dem_nil)))))) ?_
  have hsi := spotsB_at hs (i := i) (by omega)
  obtain ⟨hbe, hbl⟩ := blocksL_by h0 hsi
  have hsa := hsi.1
  refine aw_cond (b := (!(within r.blo r.bhi [((ix l i).height)]))) rfl (fun h2 => ?_) (fun h2 => ?_)
  ·
   apply aw_seq
   have hK : keepsV (openV t r y) l = ⟨i, 1⟩ := by
    rw [← hq, drop_ix (l := l) (i := i) (by omega)]
    exact keepL_f1 (by assumption)
   refine awr []
    ⟨79, [1, 2, 3], [(8, .i (i : Int)), (9, .i 1)], []⟩
    [] trivial ?_
   exact aw_ret (ret_then (ret_block (ret_then (ret_then (ret_block (ret_then ⟨.inr rfl, eok ⟨79, [1, 2, 3], [(8, .i ((keepsV (openV t r y) l).at_)), (9, .i ((keepsV (openV t r y) l).rule))], []⟩
       (enr [] ⟨(slot_i rfl (by first | rfl | omega | assumption | (rw [hK]))), (slot_i rfl (by first | rfl | omega | assumption | (rw [hK]))), trivial⟩ trivial) wr_nil⟩))))))
  ·
   apply aw_skip
   apply aw_seq
   apply aw_seq
   refine awd [(5, .idx i), (7, .call [1, 2] (.ls 10440) [(10440, some (refKeeps_frK9 t r y l i))])]
    ⟨79, [1, 2, 3], [(2, .i y), (3, .ls 3), (4, .l (.ref 1004 0)), (5, .l (.ref 1005 0)), (10, .i ((girthV t y).low)), (11, .i (i : Int)), (46, .b (decide (0 < (((blocksL t r y (ix l i) false).length : Nat) : Int))))], (refKeeps_frH8 t r l)⟩
    [(i : Int) = (i : Int), i < l.length, i < l.length, CallOK Try.prog 41 [(refKeeps_frA1 t), (refKeeps_frA2 r), .i y, .agg [.i ((ix l i).angle), .i ((ix l i).height)], .b false] [1, 2] [some (refKeeps_frK3 t), some (refKeeps_frK4 r)] (.ls 10440) [(10440, some (refKeeps_frK9 t r y l i))]] (al2 (by omega) (al2 (by omega) (al2 (by omega) (al1 (cfr (refBlocks_f t r y (by first | omega | (simp; done) | assumption) (by first | omega | (simp; done) | assumption) (ix l i) (by first | assumption | simp_all [blocksE])) [(1, 1), (2, 2), (4, 10440)] (dem_cons rfl (le_ro rfl el_rfl) (dem_cons rfl (le_ro rfl el_rfl) dem_nil))))))) ?_
   refine aw_cond (b := decide (0 < (((blocksL t r y (ix l i) false).length : Nat) : Int))) rfl (fun h3 => ?_) (fun h3 => ?_)
   ·
    have h3p : 0 < (((blocksL t r y (ix l i) false).length : Nat) : Int) := dtr h3
    apply aw_seq
    have hbb : decide (0 < (((byV (openV t r y) (ix l i) (openV t r y).worst).length : Nat) : Int)) = true := by rw [← hbl]; assumption
    have hK : keepsV (openV t r y) l = ⟨i, 2⟩ := by
     rw [← hq, drop_ix (l := l) (i := i) (by omega)]
     exact keepL_f2 (by assumption) (by assumption)
    refine awr []
     ⟨79, [1, 2, 3], [(8, .i (i : Int)), (9, .i 2)], []⟩
     [] trivial ?_
    exact aw_ret (ret_then (ret_block (ret_then (ret_then (ret_block (ret_then ⟨.inr rfl, eok ⟨79, [1, 2, 3], [(8, .i ((keepsV (openV t r y) l).at_)), (9, .i ((keepsV (openV t r y) l).rule))], []⟩
        (enr [] ⟨(slot_i rfl (by first | rfl | omega | assumption | (rw [hK]))), (slot_i rfl (by first | rfl | omega | assumption | (rw [hK]))), trivial⟩ trivial) wr_nil⟩))))))
   ·
    have h3p : (((blocksL t r y (ix l i) false).length : Nat) : Int) ≤ 0 := dlt h3
    apply aw_skip
    apply aw_seq
    apply aw_seq
    have hbb : decide (0 < (((byV (openV t r y) (ix l i) (openV t r y).worst).length : Nat) : Int)) = false := by rw [← hbl]; assumption
    refine awr []
     ⟨79, [1, 2, 3], [(2, .i y), (3, .ls 3), (4, .l (.ref 1004 0)), (5, .l (.ref 1005 0)), (10, .i ((girthV t y).low)), (11, .i (i : Int)), (12, .i 0)], (refKeeps_frH8 t r l)⟩
     [] trivial ?_
    apply aw_block
    refine aw_loop (ι := Nat) (fun zz => ⟨79, [1, 2, 3], [(2, .i y), (3, .ls 3), (4, .l (.ref 1004 0)), (5, .l (.ref 1005 0)), (10, .i ((girthV t y).low)), (11, .i (i : Int)), (12, .i (zz : Int))], (refKeeps_frH8 t r l)⟩) (fun zz => (zz ≤ i) ∧ (∀ j, j < zz → nearB (ix l i) (gapV (openV t r y)) (ix l j) = false)) (fun zz => i - zz) 0 ⟨(by first | omega | rfl | assumption | (simp; done)), (by intro j hj; omega)⟩
        (enr [] ⟨rfl, rfl, rfl, rfl, rfl, rfl, rfl, trivial⟩ (cro rfl (cro rfl (cro rfl (cbl rfl rfl (cbl rfl rfl trivial)))))) fun zz hp => ?_
    obtain ⟨k, rfl⟩ : ∃ x, x = zz := ⟨_, rfl⟩
    obtain ⟨hkL, hnr⟩ := hp
    show AW _ E _ _ ⟨79, [1, 2, 3], [(2, .i y), (3, .ls 3), (4, .l (.ref 1004 0)), (5, .l (.ref 1005 0)), (10, .i ((girthV t y).low)), (11, .i (i : Int)), (12, .i (k : Int))], (refKeeps_frH8 t r l)⟩
    apply aw_seq
    apply aw_seq
    refine awr []
     ⟨79, [1, 2, 3], [(2, .i y), (3, .ls 3), (4, .l (.ref 1004 0)), (5, .l (.ref 1005 0)), (10, .i ((girthV t y).low)), (11, .i (i : Int)), (12, .i (k : Int)), (50, .b (decide ((k : Int) < (i : Int))))], (refKeeps_frH8 t r l)⟩
     [] trivial ?_
    refine aw_cond (b := decide ((k : Int) < (i : Int))) rfl (fun h4 => ?_) (fun h4 => ?_)
    ·
     have h4p : (k : Int) < (i : Int) := dtr h4
     apply aw_skip
     apply aw_seq
     apply aw_block
     apply aw_seq
     have hsk := spotsB_at hs (i := k) (by omega)
     have hska := hsk.1
     have hm := turn_mul (a := (ix l k).angle) (b := (ix l i).angle) hska hsa (g := (girthV t y).low) (by omega)
     refine awd [(2, .idx k), (7, .idx i), (10, .call [] (.i (turnV ((ix l k).angle) ((ix l i).angle))) [])]
      ⟨79, [1, 2, 3], [(2, .i y), (3, .ls 3), (4, .l (.ref 1004 0)), (5, .l (.ref 1005 0)), (10, .i ((girthV t y).low)), (11, .i (i : Int)), (12, .i (k : Int)), (69, .b (decide (((turnV ((ix l k).angle) ((ix l i).angle)) * (girthV t y).low) < (3600 * r.apart))))], (refKeeps_frH8 t r l)⟩
      [(k : Int) = (k : Int), k < l.length, k < l.length, k < l.length, (i : Int) = (i : Int), i < l.length, i < l.length, i < l.length, CallOK Try.prog 78 [.i ((ix l k).angle), .i ((ix l i).angle)] [] [] (.i (turnV ((ix l k).angle) ((ix l i).angle))) [], -9223372036854775808 ≤ ((turnV ((ix l k).angle) ((ix l i).angle)) * (girthV t y).low) ∧ ((turnV ((ix l k).angle) ((ix l i).angle)) * (girthV t y).low) < 9223372036854775808, -9223372036854775808 ≤ (3600 * r.apart) ∧ (3600 * r.apart) < 9223372036854775808] (al2 (by omega) (al2 (by omega) (al2 (by omega) (al2 (by omega) (al2 (by omega) (al2 (by omega) (al2 (by omega) (al2 (by omega) (al2 (cfr (refTurn_fr ((ix l k).angle) ((ix l i).angle) (by omega) (by omega)) [] dem_nil) (al2 (by omega) (al1 (by omega)))))))))))) ?_
     refine aw_cond (b := decide (((turnV ((ix l k).angle) ((ix l i).angle)) * (girthV t y).low) < (3600 * r.apart))) rfl (fun h5 => ?_) (fun h5 => ?_)
     ·
      have h5p : ((turnV ((ix l k).angle) ((ix l i).angle)) * (girthV t y).low) < (3600 * r.apart) := dtr h5
      apply aw_seq
      have hnn : (l.take i).any (nearB (ix l i) (gapV (openV t r y))) = true := any_take_at (j := k) (by omega) (by omega) (by rw [near_iff hx]; assumption)
      have hK : keepsV (openV t r y) l = ⟨i, 3⟩ := by
       rw [← hq, drop_ix (l := l) (i := i) (by omega)]
       exact keepL_f3 (by assumption) (by assumption) (by assumption)
      refine awr []
       ⟨79, [1, 2, 3], [(8, .i (i : Int)), (9, .i 3)], []⟩
       [] trivial ?_
      exact aw_ret (ret_block (ret_then (ret_then (ret_block (ret_then (ret_block (ret_then (ret_then (ret_block (ret_then ⟨.inr rfl, eok ⟨79, [1, 2, 3], [(8, .i ((keepsV (openV t r y) l).at_)), (9, .i ((keepsV (openV t r y) l).rule))], []⟩
          (enr [] ⟨(slot_i rfl (by first | rfl | omega | assumption | (rw [hK]))), (slot_i rfl (by first | rfl | omega | assumption | (rw [hK]))), trivial⟩ trivial) wr_nil⟩))))))))))
     ·
      have h5p : (3600 * r.apart) ≤ ((turnV ((ix l k).angle) ((ix l i).angle)) * (girthV t y).low) := dlt h5
      apply aw_skip
      refine awr [(1, .num (((k + 1) : Nat) : Int))]
       ⟨79, [1, 2, 3], [(2, .i y), (3, .ls 3), (4, .l (.ref 1004 0)), (5, .l (.ref 1005 0)), (10, .i ((girthV t y).low)), (11, .i (i : Int)), (12, .i (((k + 1) : Nat) : Int))], (refKeeps_frH8 t r l)⟩
       [((k : Int) + 1) = (((k + 1) : Nat) : Int), -9223372036854775808 ≤ (((k + 1) : Nat) : Int) ∧ (((k + 1) : Nat) : Int) < 9223372036854775808] (al2 (by omega) (al1 (by omega))) ?_
      exact ⟨(k + 1), ⟨(by first | omega | rfl | assumption | (simp; done)), (by exact all_snoc hnr (by rw [near_iff hx]; assumption))⟩, (show i - (k + 1) < i - k by first | omega | rfl | assumption),
          (enr [] ⟨rfl, rfl, rfl, rfl, rfl, rfl, rfl, trivial⟩ (cro rfl (cro rfl (cro rfl (cbl rfl rfl (cbl rfl rfl trivial))))))⟩
    ·
     have h4p : (i : Int) ≤ (k : Int) := dlt h4
     refine aw_exit (exit_then (exit_then (exit_in ?_)))
     apply aw_seq
     have hnn : (l.take i).any (nearB (ix l i) (gapV (openV t r y))) = false := any_take_no (fun j hj => hnr j (by omega))
     refine awr [(4, .call [1, 2] ((refKeeps_frA10 t r y)) [])]
      ⟨79, [1, 2, 3], [(2, .i y), (3, .ls 3), (4, .l (.ref 1004 0)), (5, .l (.ref 1005 0)), (10, .i ((girthV t y).low)), (11, .i (i : Int)), (77, .b (decide ((tapsV (openV t r y) (openV t r y).worst) ≤ (i : Int))))], (refKeeps_frH8 t r l)⟩
      [CallOK Try.prog 27 [(refKeeps_frA1 t), (refKeeps_frA2 r), .i y] [1, 2] [some (refKeeps_frK3 t), some (refKeeps_frK4 r)] ((refKeeps_frA10 t r y)) []] (al1 (cfr (refTaps_fr t r y (by first | omega | (simp; done) | assumption) (by first | omega | (simp; done) | assumption) (by assumption)) [(1, 1), (2, 2)] (dem_cons rfl (le_ro rfl el_rfl) (dem_cons rfl (le_ro rfl el_rfl) dem_nil)))) ?_
     refine aw_cond (b := decide ((tapsV (openV t r y) (openV t r y).worst) ≤ (i : Int))) rfl (fun h6 => ?_) (fun h6 => ?_)
     ·
      have h6p : (tapsV (openV t r y) (openV t r y).worst) ≤ (i : Int) := dtr h6
      apply aw_seq
      have hK : keepsV (openV t r y) l = ⟨i, 4⟩ := by
       rw [← hq, drop_ix (l := l) (i := i) (by omega)]
       exact keepL_f4 (by assumption) (by assumption) (by assumption) (by assumption)
      refine awr []
       ⟨79, [1, 2, 3], [(8, .i (i : Int)), (9, .i 4)], []⟩
       [] trivial ?_
      exact aw_ret (ret_block (ret_then (ret_then (ret_block (ret_then ⟨.inr rfl, eok ⟨79, [1, 2, 3], [(8, .i ((keepsV (openV t r y) l).at_)), (9, .i ((keepsV (openV t r y) l).rule))], []⟩
          (enr [] ⟨(slot_i rfl (by first | rfl | omega | assumption | (rw [hK]))), (slot_i rfl (by first | rfl | omega | assumption | (rw [hK]))), trivial⟩ trivial) wr_nil⟩)))))
     ·
      have h6p : (i : Int) < (tapsV (openV t r y) (openV t r y).worst) := dle h6
      apply aw_skip
      refine awr [(1, .num (((i + 1) : Nat) : Int))]
       ⟨79, [1, 2, 3], [(2, .i y), (3, .ls 3), (4, .l (.ref 1004 0)), (5, .l (.ref 1005 0)), (10, .i ((girthV t y).low)), (11, .i (((i + 1) : Nat) : Int))], (refKeeps_frH8 t r l)⟩
       [((i : Int) + 1) = (((i + 1) : Nat) : Int), -9223372036854775808 ≤ (((i + 1) : Nat) : Int) ∧ (((i + 1) : Nat) : Int) < 9223372036854775808] (al2 (by omega) (al1 (by omega))) ?_
      exact ⟨(i + 1), ⟨(by first | omega | rfl | assumption | (simp; done)), (by rw [← hq, drop_ix (l := l) (i := i) (by omega)]; exact (keepL_f5 (by assumption) (by assumption) (by assumption) (by assumption)).symm)⟩, (show l.length - (i + 1) < l.length - i by first | omega | rfl | assumption),
          (enr [] ⟨rfl, rfl, rfl, rfl, rfl, rfl, trivial⟩ (cro rfl (cro rfl (cro rfl (cbl rfl rfl (cbl rfl rfl trivial))))))⟩
 ·
  have h1p : (l.length : Int) ≤ (i : Int) := dlt h1
  refine aw_exit (exit_then (exit_then (exit_in ?_)))
  apply aw_seq
  have hK : keepsV (openV t r y) l = ⟨-1, 0⟩ := by
   rw [← hq, List.drop_eq_nil_of_le (by omega)]
   rfl
  refine awr []
   ⟨79, [1, 2, 3], [(8, .i (-1)), (9, .i 0)], []⟩
   [] trivial ?_
  exact aw_ret ⟨.inr rfl, eok ⟨79, [1, 2, 3], [(8, .i ((keepsV (openV t r y) l).at_)), (9, .i ((keepsV (openV t r y) l).rule))], []⟩
      (enr [] ⟨(slot_i rfl (by first | rfl | omega | assumption | (rw [hK]))), (slot_i rfl (by first | rfl | omega | assumption | (rw [hK]))), trivial⟩ trivial) wr_nil⟩
def refDrill_okA1 (t : TreeV) : SV := .agg [.i t.year, .i t.glo, .i t.ghi, .i t.wlo, .i t.whi, .i t.health, .ls 1]
def refDrill_okK2 (t : TreeV) : Cn := .ro 3 t.holes.length (Lst eH t.holes)
def refDrill_okH3 (t : TreeV) (l : List Spt) : List (Nat × Option Cn) := [(1, some (refDrill_okK2 t)), (3, some (.ro 2 l.length (Lst eS l)))]
def refDrill_okK4 (t : TreeV) : Cn := .blk 26 [.i t.year, .i t.glo, .i t.ghi, .i t.wlo, .i t.whi, .i t.health, .ls 1]
def refDrill_okK5  : Cn := .blk 26 [.i 0, .i 0, .i 0, .i 0, .i 0, .i 0, .v (.slice none 0 0)]
def refDrill_okH6 (t : TreeV) (l : List Spt) : List (Nat × Option Cn) := [(1, some (refDrill_okK2 t)), (3, some (.ro 2 l.length (Lst eS l))), (1003, some (refDrill_okK4 t)), (1006, some refDrill_okK5)]
def refDrill_okK7 (t : TreeV) : Cn := .vec 74 3 t.holes.length (Lst eH t.holes)
def refDrill_okH8 (t : TreeV) (l : List Spt) : List (Nat × Option Cn) := [(1, some (refDrill_okK2 t)), (3, some (.ro 2 l.length (Lst eS l))), (1003, some (refDrill_okK4 t)), (1006, some refDrill_okK5), (1013, some (refDrill_okK7 t))]
def refDrill_okH9 (t : TreeV) (l : List Spt) (o : List Hol) : List (Nat × Option Cn) := [(1, some (refDrill_okK2 t)), (3, some (.ro 2 l.length (Lst eS l))), (1003, some (refDrill_okK4 t)), (1006, some refDrill_okK5), (2001, some (.vec 74 3 o.length (Lst eH o)))]
def refDrill_okK10 (o : List Hol) (y : Int) (l : List Spt) (i : Nat) : Cn := .vec 74 3 (o.length + 1) (Lst eH (o ++ [(⟨y, (ix l i).angle, (ix l i).height⟩ : Hol)]))
def refDrill_okH11 (t : TreeV) (l : List Spt) (o : List Hol) (y : Int) (i : Nat) : List (Nat × Option Cn) := [(1, some (refDrill_okK2 t)), (3, some (.ro 2 l.length (Lst eS l))), (1003, some (refDrill_okK4 t)), (1006, some refDrill_okK5), (1028, some (refDrill_okK10 o y l i))]
def refDrill_okH12 (t : TreeV) (o : List Hol) : List (Nat × Option Cn) := [(1, some (refDrill_okK2 t)), (1003, some (refDrill_okK4 t)), (1006, some refDrill_okK5), (2001, some (.vec 74 3 o.length (Lst eH o)))]
def refDrill_okK13 (t : TreeV) : Cn := .blk 26 [.i t.year, .i t.glo, .i t.ghi, .i t.wlo, .i t.whi, .i t.health, .ls 2001]
def refDrill_okH14 (t : TreeV) (o : List Hol) : List (Nat × Option Cn) := [(1003, some (refDrill_okK13 t)), (1006, some refDrill_okK5), (2001, some (.vec 74 3 o.length (Lst eH o)))]
def refDrill_okH15 (t : TreeV) (o : List Hol) : List (Nat × Option Cn) := [(1006, some (refDrill_okK13 t)), (2001, some (.vec 74 3 o.length (Lst eH o)))]
def refDrill_okK16 (t : TreeV) (y : Int) (l : List Spt) : Cn := .vec 74 3 (((drillV t y l).holes).length) (Lst eH ((drillV t y l).holes))
def refDrill_okK17 (t : TreeV) (y : Int) (l : List Spt) : Cn := .blk 26 [.i ((drillV t y l).year), .i ((drillV t y l).glo), .i ((drillV t y l).ghi), .i ((drillV t y l).wlo), .i ((drillV t y l).whi), .i ((drillV t y l).health), .ls 9]
def refDrill_okH18 (t : TreeV) (y : Int) (l : List Spt) : List (Nat × Option Cn) := [(9, some (refDrill_okK16 t y l)), (8006, some (refDrill_okK17 t y l))]
set_option maxRecDepth 100000 in
theorem refDrill_ok (t : TreeV) (y : Int) (l : List Spt) (ht : t.holes.length ≤ 100000) (hl : l.length ≤ 100000) (hd : drillB t y l = true) : CallFr Try.prog 47 [(refDrill_okA1 t), .i y, .ls 3] [1, 3] [some (.ro 3 t.holes.length (Lst eH t.holes)), some (.ro 2 l.length (Lst eS l))] (.tup [.agg [.i ((drillV t y l).year), .i ((drillV t y l).glo), .i ((drillV t y l).ghi), .i ((drillV t y l).wlo), .i ((drillV t y l).whi), .i ((drillV t y l).health), .ls 9], .one (.v (.bool true))]) [(9, some (.vec 74 3 (((drillV t y l).holes).length) (Lst eH ((drillV t y l).holes))))] := by
 refine callFr_of (fn := Try.f47) (by kernel_rfl) rfl (by kernel_rfl) (by kernel_rfl) fun E => ?_
 refine aw_ent (T := ⟨36, [1, 3], [(0, (refDrill_okA1 t)), (1, .i y), (2, .ls 3)], (refDrill_okH3 t l)⟩) (Ent.refl _) ?_
 apply aw_seq
 refine awr [(0, .new 1003), (1, .new 1006)]
  ⟨36, [1, 3], [(1, .i y), (2, .ls 3), (3, .l (.ref 1003 0)), (6, .l (.ref 1006 0))], (refDrill_okH6 t l)⟩
  [] trivial ?_
 apply aw_seq
 refine awr [(0, .new 1010), (3, .lst 1013 t.holes.length (Lst eH t.holes))]
  ⟨36, [1, 3], [(1, .i y), (2, .ls 3), (3, .l (.ref 1003 0)), (6, .l (.ref 1006 0)), (8, .ls 1013)], (refDrill_okH8 t l)⟩
  [0 + t.holes.length ≤ 1000000000000, (0 + t.holes.length) * 24 ≤ 140737488355328, AppOk 3 0 t.holes.length (exEl 3 []) (Lst eH t.holes) t.holes.length (Lst eH t.holes)] (al2 (by omega) (al2 (by omega) (al1 (app_nil (by first | omega | rfl | assumption))))) ?_
 apply aw_seq
 apply aw_seq
 refine awr []
  ⟨36, [1, 3], [(1, .i y), (2, .ls 3), (3, .l (.ref 1003 0)), (6, .l (.ref 1006 0)), (8, .ls 1013), (9, .i 0)], (refDrill_okH8 t l)⟩
  [] trivial ?_
 apply aw_block
 refine aw_loop (ι := Nat × List Hol) (fun zz => ⟨36, [1, 3], [(1, .i y), (2, .ls 3), (3, .l (.ref 1003 0)), (6, .l (.ref 1006 0)), (8, .ls 2001), (9, .i (zz.1 : Int))], (refDrill_okH9 t l zz.2)⟩) (fun zz => (zz.1 ≤ l.length) ∧ (zz.2.length = t.holes.length + zz.1) ∧ (zz.2 ++ (l.drop zz.1).map (fun s : Spt => (⟨y, s.angle, s.height⟩ : Hol)) = (drillV t y l).holes)) (fun zz => l.length - zz.1) (0, t.holes) ⟨(by (try dsimp only); first | omega | rfl | assumption | (simp; done)), (by (try dsimp only); rfl), (by (try dsimp only); rfl)⟩
     (enr [(2001, 1013)] ⟨rfl, rfl, rfl, rfl, rfl, rfl, trivial⟩ (cro rfl (cro rfl (cbl rfl rfl (cbl rfl rfl (cve rfl trivial)))))) fun zz hp => ?_
 obtain ⟨i, o⟩ := zz
 obtain ⟨hiL, hoL, hq⟩ := hp
 dsimp only at hiL hoL hq
 show AW _ E _ _ ⟨36, [1, 3], [(1, .i y), (2, .ls 3), (3, .l (.ref 1003 0)), (6, .l (.ref 1006 0)), (8, .ls 2001), (9, .i (i : Int))], (refDrill_okH9 t l o)⟩
 apply aw_seq
 apply aw_seq
 refine awr []
  ⟨36, [1, 3], [(1, .i y), (2, .ls 3), (3, .l (.ref 1003 0)), (6, .l (.ref 1006 0)), (8, .ls 2001), (9, .i (i : Int)), (17, .b (decide ((i : Int) < (l.length : Int))))], (refDrill_okH9 t l o)⟩
  [] trivial ?_
 refine aw_cond (b := decide ((i : Int) < (l.length : Int))) rfl (fun h1 => ?_) (fun h1 => ?_)
 ·
  have h1p : (i : Int) < (l.length : Int) := dtr h1
  apply aw_skip
  apply aw_seq
  apply aw_block
  refine awr [(4, .idx i), (7, .new 1027), (8, .lst 1028 (o.length + 1) (Lst eH (o ++ [(⟨y, (ix l i).angle, (ix l i).height⟩ : Hol)])))]
   ⟨36, [1, 3], [(1, .i y), (2, .ls 3), (3, .l (.ref 1003 0)), (6, .l (.ref 1006 0)), (8, .ls 1028), (9, .i (i : Int))], (refDrill_okH11 t l o y i)⟩
   [(i : Int) = (i : Int), i < l.length, i < l.length, o.length + 1 ≤ 1000000000000, (o.length + 1) * 24 ≤ 140737488355328, AppOk 3 o.length 1 (Lst eH o) (exEl 3 [.i y, .i ((ix l i).angle), .i ((ix l i).height)]) (o.length + 1) (Lst eH (o ++ [(⟨y, (ix l i).angle, (ix l i).height⟩ : Hol)]))] (al2 (by omega) (al2 (by omega) (al2 (by omega) (al2 (by omega) (al2 (by omega) (al1 (app_one (by first | omega | rfl | assumption) (by first | omega | rfl | assumption) (fun | 0, _ => rfl | 1, _ => rfl | 2, _ => rfl | (n + 3), h => absurd h (by omega))))))))) ?_
  refine awr [(1, .num (((i + 1) : Nat) : Int))]
   ⟨36, [1, 3], [(1, .i y), (2, .ls 3), (3, .l (.ref 1003 0)), (6, .l (.ref 1006 0)), (8, .ls 1028), (9, .i (((i + 1) : Nat) : Int))], (refDrill_okH11 t l o y i)⟩
   [((i : Int) + 1) = (((i + 1) : Nat) : Int), -9223372036854775808 ≤ (((i + 1) : Nat) : Int) ∧ (((i + 1) : Nat) : Int) < 9223372036854775808] (al2 (by omega) (al1 (by omega))) ?_
  exact ⟨((i + 1), (o ++ [(⟨y, (ix l i).angle, (ix l i).height⟩ : Hol)])), ⟨(by (try dsimp only); first | omega | rfl | assumption | (simp; done)), (by (try dsimp only); simp; omega), (by (try dsimp only); rw [← hq, drop_ix (l := l) (i := i) (by omega)]; simp)⟩, (show l.length - (i + 1) < l.length - i by first | omega | rfl | assumption),
      (enr [(2001, 1028)] ⟨rfl, rfl, rfl, rfl, rfl, rfl, trivial⟩ (cro rfl (cro rfl (cbl rfl rfl (cbl rfl rfl (conts_cons rfl (le_vec (by first | rfl | omega | assumption | (simp; done) | (rw [hz]; rfl) | (rw [hz])) el_rfl) trivial))))))⟩
 ·
  have h1p : (l.length : Int) ≤ (i : Int) := dlt h1
  refine aw_exit (exit_then (exit_then (exit_in ?_)))
  apply aw_seq
  apply aw_seq
  have hz : o = (drillV t y l).holes := by
   rw [List.drop_eq_nil_of_le (by omega)] at hq
   simpa using hq
  refine awr []
   ⟨36, [1, 3], [(3, .l (.ref 1003 0)), (6, .l (.ref 1006 0)), (8, .ls 2001), (31, .b (decide (60 < (o.length : Int))))], (refDrill_okH12 t o)⟩
   [] trivial ?_
  have h2 : (decide (60 < (o.length : Int))) = false := by rw [hz]; unfold drillB at hd; exact decide_eq_false (by have := of_decide_eq_true hd; omega)
  refine aw_cond (b := decide (60 < (o.length : Int))) rfl (fun h => Bool.noConfusion (h2.symm.trans h)) (fun _ => ?_)
  apply aw_skip
  apply aw_seq
  refine awr []
   ⟨36, [1, 3], [(3, .l (.ref 1003 0)), (6, .l (.ref 1006 0))], (refDrill_okH14 t o)⟩
   [] trivial ?_
  apply aw_seq
  refine awr []
   ⟨36, [1, 3], [(6, .l (.ref 1006 0)), (7, .b true)], (refDrill_okH15 t o)⟩
   [] trivial ?_
  exact aw_ret ⟨.inr rfl, eok ⟨36, [1, 3], [(6, .l (.ref 8006 0)), (7, .b true)], (refDrill_okH18 t y l)⟩
      (enr [(8006, 1006), (9, 2001)] ⟨rfl, rfl, trivial⟩ (conts_cons rfl (le_vec (by first | rfl | omega | assumption | (rw [hz]; rfl) | (rw [hz])) (lst_eq (by first | rfl | omega | assumption | (rw [hz]; rfl) | (rw [hz])))) (cbl rfl (by exact (cells_cons (cell_i (by first | rfl | omega | assumption | (rw [hz]; rfl) | (rw [hz]))) (cells_cons (cell_i (by first | rfl | omega | assumption | (rw [hz]; rfl) | (rw [hz]))) (cells_cons (cell_i (by first | rfl | omega | assumption | (rw [hz]; rfl) | (rw [hz]))) (cells_cons (cell_i (by first | rfl | omega | assumption | (rw [hz]; rfl) | (rw [hz]))) (cells_cons (cell_i (by first | rfl | omega | assumption | (rw [hz]; rfl) | (rw [hz]))) (cells_cons (cell_i (by first | rfl | omega | assumption | (rw [hz]; rfl) | (rw [hz]))) (cells_cons rfl rfl)))))))) trivial))) (wr_cons rfl (plain_Lst plain_eH) wr_nil)⟩
def refDrill_noA1 (t : TreeV) : SV := .agg [.i t.year, .i t.glo, .i t.ghi, .i t.wlo, .i t.whi, .i t.health, .ls 1]
def refDrill_noK2 (t : TreeV) : Cn := .ro 3 t.holes.length (Lst eH t.holes)
def refDrill_noH3 (t : TreeV) (l : List Spt) : List (Nat × Option Cn) := [(1, some (refDrill_noK2 t)), (3, some (.ro 2 l.length (Lst eS l)))]
def refDrill_noK4 (t : TreeV) : Cn := .blk 26 [.i t.year, .i t.glo, .i t.ghi, .i t.wlo, .i t.whi, .i t.health, .ls 1]
def refDrill_noK5  : Cn := .blk 26 [.i 0, .i 0, .i 0, .i 0, .i 0, .i 0, .v (.slice none 0 0)]
def refDrill_noH6 (t : TreeV) (l : List Spt) : List (Nat × Option Cn) := [(1, some (refDrill_noK2 t)), (3, some (.ro 2 l.length (Lst eS l))), (1003, some (refDrill_noK4 t)), (1006, some refDrill_noK5)]
def refDrill_noK7 (t : TreeV) : Cn := .vec 74 3 t.holes.length (Lst eH t.holes)
def refDrill_noH8 (t : TreeV) (l : List Spt) : List (Nat × Option Cn) := [(1, some (refDrill_noK2 t)), (3, some (.ro 2 l.length (Lst eS l))), (1003, some (refDrill_noK4 t)), (1006, some refDrill_noK5), (1013, some (refDrill_noK7 t))]
def refDrill_noH9 (t : TreeV) (l : List Spt) (o : List Hol) : List (Nat × Option Cn) := [(1, some (refDrill_noK2 t)), (3, some (.ro 2 l.length (Lst eS l))), (1003, some (refDrill_noK4 t)), (1006, some refDrill_noK5), (2001, some (.vec 74 3 o.length (Lst eH o)))]
def refDrill_noK10 (o : List Hol) (y : Int) (l : List Spt) (i : Nat) : Cn := .vec 74 3 (o.length + 1) (Lst eH (o ++ [(⟨y, (ix l i).angle, (ix l i).height⟩ : Hol)]))
def refDrill_noH11 (t : TreeV) (l : List Spt) (o : List Hol) (y : Int) (i : Nat) : List (Nat × Option Cn) := [(1, some (refDrill_noK2 t)), (3, some (.ro 2 l.length (Lst eS l))), (1003, some (refDrill_noK4 t)), (1006, some refDrill_noK5), (1028, some (refDrill_noK10 o y l i))]
def refDrill_noH12 (t : TreeV) (o : List Hol) : List (Nat × Option Cn) := [(1, some (refDrill_noK2 t)), (1003, some (refDrill_noK4 t)), (1006, some refDrill_noK5), (2001, some (.vec 74 3 o.length (Lst eH o)))]
set_option maxRecDepth 100000 in
theorem refDrill_no (t : TreeV) (y : Int) (l : List Spt) (ht : t.holes.length ≤ 100000) (hl : l.length ≤ 100000) (hd : drillB t y l = false) : CallFr Try.prog 47 [(refDrill_noA1 t), .i y, .ls 3] [1, 3] [some (.ro 3 t.holes.length (Lst eH t.holes)), some (.ro 2 l.length (Lst eS l))] (.tup [.agg [.i 0, .i 0, .i 0, .i 0, .i 0, .i 0, .v (.slice none 0 0)], .one (.v (.bool false))]) [] := by
 refine callFr_of (fn := Try.f47) (by kernel_rfl) rfl (by kernel_rfl) (by kernel_rfl) fun E => ?_
 refine aw_ent (T := ⟨36, [1, 3], [(0, (refDrill_noA1 t)), (1, .i y), (2, .ls 3)], (refDrill_noH3 t l)⟩) (Ent.refl _) ?_
 apply aw_seq
 refine awr [(0, .new 1003), (1, .new 1006)]
  ⟨36, [1, 3], [(1, .i y), (2, .ls 3), (3, .l (.ref 1003 0)), (6, .l (.ref 1006 0))], (refDrill_noH6 t l)⟩
  [] trivial ?_
 apply aw_seq
 refine awr [(0, .new 1010), (3, .lst 1013 t.holes.length (Lst eH t.holes))]
  ⟨36, [1, 3], [(1, .i y), (2, .ls 3), (3, .l (.ref 1003 0)), (6, .l (.ref 1006 0)), (8, .ls 1013)], (refDrill_noH8 t l)⟩
  [0 + t.holes.length ≤ 1000000000000, (0 + t.holes.length) * 24 ≤ 140737488355328, AppOk 3 0 t.holes.length (exEl 3 []) (Lst eH t.holes) t.holes.length (Lst eH t.holes)] (al2 (by omega) (al2 (by omega) (al1 (app_nil (by first | omega | rfl | assumption))))) ?_
 apply aw_seq
 apply aw_seq
 refine awr []
  ⟨36, [1, 3], [(1, .i y), (2, .ls 3), (3, .l (.ref 1003 0)), (6, .l (.ref 1006 0)), (8, .ls 1013), (9, .i 0)], (refDrill_noH8 t l)⟩
  [] trivial ?_
 apply aw_block
 refine aw_loop (ι := Nat × List Hol) (fun zz => ⟨36, [1, 3], [(1, .i y), (2, .ls 3), (3, .l (.ref 1003 0)), (6, .l (.ref 1006 0)), (8, .ls 2001), (9, .i (zz.1 : Int))], (refDrill_noH9 t l zz.2)⟩) (fun zz => (zz.1 ≤ l.length) ∧ (zz.2.length = t.holes.length + zz.1) ∧ (zz.2 ++ (l.drop zz.1).map (fun s : Spt => (⟨y, s.angle, s.height⟩ : Hol)) = (drillV t y l).holes)) (fun zz => l.length - zz.1) (0, t.holes) ⟨(by (try dsimp only); first | omega | rfl | assumption | (simp; done)), (by (try dsimp only); rfl), (by (try dsimp only); rfl)⟩
     (enr [(2001, 1013)] ⟨rfl, rfl, rfl, rfl, rfl, rfl, trivial⟩ (cro rfl (cro rfl (cbl rfl rfl (cbl rfl rfl (cve rfl trivial)))))) fun zz hp => ?_
 obtain ⟨i, o⟩ := zz
 obtain ⟨hiL, hoL, hq⟩ := hp
 dsimp only at hiL hoL hq
 show AW _ E _ _ ⟨36, [1, 3], [(1, .i y), (2, .ls 3), (3, .l (.ref 1003 0)), (6, .l (.ref 1006 0)), (8, .ls 2001), (9, .i (i : Int))], (refDrill_noH9 t l o)⟩
 apply aw_seq
 apply aw_seq
 refine awr []
  ⟨36, [1, 3], [(1, .i y), (2, .ls 3), (3, .l (.ref 1003 0)), (6, .l (.ref 1006 0)), (8, .ls 2001), (9, .i (i : Int)), (17, .b (decide ((i : Int) < (l.length : Int))))], (refDrill_noH9 t l o)⟩
  [] trivial ?_
 refine aw_cond (b := decide ((i : Int) < (l.length : Int))) rfl (fun h1 => ?_) (fun h1 => ?_)
 ·
  have h1p : (i : Int) < (l.length : Int) := dtr h1
  apply aw_skip
  apply aw_seq
  apply aw_block
  refine awr [(4, .idx i), (7, .new 1027), (8, .lst 1028 (o.length + 1) (Lst eH (o ++ [(⟨y, (ix l i).angle, (ix l i).height⟩ : Hol)])))]
   ⟨36, [1, 3], [(1, .i y), (2, .ls 3), (3, .l (.ref 1003 0)), (6, .l (.ref 1006 0)), (8, .ls 1028), (9, .i (i : Int))], (refDrill_noH11 t l o y i)⟩
   [(i : Int) = (i : Int), i < l.length, i < l.length, o.length + 1 ≤ 1000000000000, (o.length + 1) * 24 ≤ 140737488355328, AppOk 3 o.length 1 (Lst eH o) (exEl 3 [.i y, .i ((ix l i).angle), .i ((ix l i).height)]) (o.length + 1) (Lst eH (o ++ [(⟨y, (ix l i).angle, (ix l i).height⟩ : Hol)]))] (al2 (by omega) (al2 (by omega) (al2 (by omega) (al2 (by omega) (al2 (by omega) (al1 (app_one (by first | omega | rfl | assumption) (by first | omega | rfl | assumption) (fun | 0, _ => rfl | 1, _ => rfl | 2, _ => rfl | (n + 3), h => absurd h (by omega))))))))) ?_
  refine awr [(1, .num (((i + 1) : Nat) : Int))]
   ⟨36, [1, 3], [(1, .i y), (2, .ls 3), (3, .l (.ref 1003 0)), (6, .l (.ref 1006 0)), (8, .ls 1028), (9, .i (((i + 1) : Nat) : Int))], (refDrill_noH11 t l o y i)⟩
   [((i : Int) + 1) = (((i + 1) : Nat) : Int), -9223372036854775808 ≤ (((i + 1) : Nat) : Int) ∧ (((i + 1) : Nat) : Int) < 9223372036854775808] (al2 (by omega) (al1 (by omega))) ?_
  exact ⟨((i + 1), (o ++ [(⟨y, (ix l i).angle, (ix l i).height⟩ : Hol)])), ⟨(by (try dsimp only); first | omega | rfl | assumption | (simp; done)), (by (try dsimp only); simp; omega), (by (try dsimp only); rw [← hq, drop_ix (l := l) (i := i) (by omega)]; simp)⟩, (show l.length - (i + 1) < l.length - i by first | omega | rfl | assumption),
      (enr [(2001, 1028)] ⟨rfl, rfl, rfl, rfl, rfl, rfl, trivial⟩ (cro rfl (cro rfl (cbl rfl rfl (cbl rfl rfl (conts_cons rfl (le_vec (by first | rfl | omega | assumption | (simp; done) | (rw [hz]; rfl) | (rw [hz])) el_rfl) trivial))))))⟩
 ·
  have h1p : (l.length : Int) ≤ (i : Int) := dlt h1
  refine aw_exit (exit_then (exit_then (exit_in ?_)))
  apply aw_seq
  apply aw_seq
  have hz : o = (drillV t y l).holes := by
   rw [List.drop_eq_nil_of_le (by omega)] at hq
   simpa using hq
  refine awr []
   ⟨36, [1, 3], [(3, .l (.ref 1003 0)), (6, .l (.ref 1006 0)), (8, .ls 2001), (31, .b (decide (60 < (o.length : Int))))], (refDrill_noH12 t o)⟩
   [] trivial ?_
  have h2 : (decide (60 < (o.length : Int))) = true := by rw [hz]; unfold drillB at hd; exact decide_eq_true (by have := of_decide_eq_false hd; omega)
  refine aw_cond (b := decide (60 < (o.length : Int))) rfl (fun _ => ?_) (fun h => Bool.noConfusion (h2.symm.trans h))
  apply aw_seq
  refine awr []
   ⟨36, [1, 3], [(6, .l (.ref 1006 0)), (7, .b false)], [(1006, some refDrill_noK5)]⟩
   [] trivial ?_
  exact aw_ret (ret_then ⟨.inr rfl, eok ⟨36, [1, 3], [(6, .l (.ref 8006 0)), (7, .b false)], [(8006, some refDrill_noK5)]⟩
      (enr [(8006, 1006)] ⟨rfl, rfl, trivial⟩ (cbl rfl rfl trivial)) wr_nil⟩)
end Go.Proofs.Ytbpblhmigijkaaa
