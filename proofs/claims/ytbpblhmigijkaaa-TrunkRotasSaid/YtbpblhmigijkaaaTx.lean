/- The reference. -/
import Derived.Test.YtbpblhmigijkaaaTxa
namespace Go.Proofs.Ytbpblhmigijkaaa
open Go.RowKit
set_option linter.unusedVariables false
set_option linter.unusedSimpArgs false
set_option maxRecDepth 100000 in
theorem refIn_fr (n lo hi : Int) : CallFr Try.prog 63 [.i n, .i lo, .i hi] [] [] (.b (within lo hi [n])) [] := by
 refine callFr_of (fn := Try.f63) (by kernel_rfl) rfl (by kernel_rfl) (by kernel_rfl) fun E => ?_
 refine aw_ent (T := ⟨15, [], [(0, .i n), (1, .i lo), (2, .i hi)], []⟩) (Ent.refl _) ?_
 apply aw_seq
 refine awr []
  ⟨15, [], [(0, .i n), (1, .i lo), (2, .i hi)], []⟩
  [] trivial ?_
 apply aw_seq
 rcases Bool.eq_false_or_eq_true (decide (lo ≤ n)) with h1 | h1
 ·
  have h1p : lo ≤ n := dtr h1
  refine awr [(3, .dec true)]
   ⟨15, [], [(6, .b (decide (n ≤ hi)))], []⟩
   [decide (lo ≤ n) = true] (al1 h1) ?_
  exact aw_ret ⟨.inr rfl, eok ⟨15, [], [(6, .b (within lo hi [n]))], []⟩
      (enr [] ⟨(slot_b (a := decide (n ≤ hi)) rfl (by first | rfl | omega | assumption | (rw [within1b]; simp [*]))), trivial⟩ trivial) wr_nil⟩
 ·
  have h1p : n < lo := dle h1
  refine awr [(3, .dec false)]
   ⟨15, [], [(6, .b false)], []⟩
   [decide (lo ≤ n) = false] (al1 h1) ?_
  exact aw_ret ⟨.inr rfl, eok ⟨15, [], [(6, .b (within lo hi [n]))], []⟩
      (enr [] ⟨(slot_b (a := false) rfl (by first | rfl | omega | assumption | (rw [within1b]; simp [*]))), trivial⟩ trivial) wr_nil⟩
set_option maxRecDepth 100000 in
theorem refSpan_fr (a b lo hi : Int) : CallFr Try.prog 64 [.agg [.i a, .i b], .i lo, .i hi] [] [] (.b (rangeB a b lo hi)) [] := by
 refine callFr_of (fn := Try.f64) (by kernel_rfl) rfl (by kernel_rfl) (by kernel_rfl) fun E => ?_
 refine aw_ent (T := ⟨20, [], [(0, .agg [.i a, .i b]), (1, .i lo), (2, .i hi)], []⟩) (Ent.refl _) ?_
 apply aw_seq
 refine awr [(0, .new 1003)]
  ⟨20, [], [(1, .i lo), (2, .i hi), (3, .l (.ref 1003 0))], [(1003, some (.blk 23 [.i a, .i b]))]⟩
  [] trivial ?_
 apply aw_seq
 rcases Bool.eq_false_or_eq_true ((within lo hi [a])) with h1 | h1
 ·
  refine awr [(4, .call [] (.b (within lo hi [a])) []), (5, .dec true), (11, .call [] (.b (within a hi [b])) [])]
   ⟨20, [], [(6, .b (within a hi [b]))], []⟩
   [CallOK Try.prog 63 [.i a, .i lo, .i hi] [] [] (.b (within lo hi [a])) [], (within lo hi [a]) = true, CallOK Try.prog 63 [.i b, .i a, .i hi] [] [] (.b (within a hi [b])) []] (al2 (cfr (refIn_fr a lo hi) [] dem_nil) (al2 h1 (al1 (cfr (refIn_fr b a hi) [] dem_nil)))) ?_
  exact aw_ret ⟨.inr rfl, eok ⟨20, [], [(6, .b (rangeB a b lo hi))], []⟩
      (enr [] ⟨(slot_b (a := (within a hi [b])) rfl (by first | rfl | omega | assumption | (rw [rangeB_eq]; simp [*]))), trivial⟩ trivial) wr_nil⟩
 ·
  refine awr [(4, .call [] (.b (within lo hi [a])) []), (5, .dec false)]
   ⟨20, [], [(6, .b false)], []⟩
   [CallOK Try.prog 63 [.i a, .i lo, .i hi] [] [] (.b (within lo hi [a])) [], (within lo hi [a]) = false] (al2 (cfr (refIn_fr a lo hi) [] dem_nil) (al1 h1)) ?_
  exact aw_ret ⟨.inr rfl, eok ⟨20, [], [(6, .b (rangeB a b lo hi))], []⟩
      (enr [] ⟨(slot_b (a := false) rfl (by first | rfl | omega | assumption | (rw [rangeB_eq]; simp [*]))), trivial⟩ trivial) wr_nil⟩
set_option maxRecDepth 100000 in
theorem refOn_fr (l : List Spt) (hl : l.length ≤ 1000000) : CallFr Try.prog 39 [.ls 0] [0] [some (.ro 2 l.length (Lst eS l))] (.b (spotsB l)) [] := by
 refine callFr_of (fn := Try.f39) (by kernel_rfl) rfl (by kernel_rfl) (by kernel_rfl) fun E => ?_
 refine aw_ent (T := ⟨26, [0], [(0, .ls 0)], [(0, some (.ro 2 l.length (Lst eS l)))]⟩) (Ent.refl _) ?_
 apply aw_seq
 refine awr []
  ⟨26, [0], [(0, .ls 0)], [(0, some (.ro 2 l.length (Lst eS l)))]⟩
  [] trivial ?_
 apply aw_seq
 apply aw_seq
 refine awr []
  ⟨26, [0], [(0, .ls 0), (3, .i 0)], [(0, some (.ro 2 l.length (Lst eS l)))]⟩
  [] trivial ?_
 apply aw_block
 refine aw_loop (ι := Nat) (fun zz => ⟨26, [0], [(0, .ls 0), (3, .i (zz : Int))], [(0, some (.ro 2 l.length (Lst eS l)))]⟩) (fun zz => (zz ≤ l.length) ∧ (∀ j, j < zz → spotOut (ix l j) = false)) (fun zz => l.length - zz) 0 ⟨(by first | omega | rfl | assumption | (simp; done)), (by intro j hj; omega)⟩
     (enr [] ⟨rfl, rfl, trivial⟩ (cro rfl trivial)) fun zz hp => ?_
 obtain ⟨i, rfl⟩ : ∃ x, x = zz := ⟨_, rfl⟩
 obtain ⟨hiL, hp⟩ := hp
 show AW _ E _ _ ⟨26, [0], [(0, .ls 0), (3, .i (i : Int))], [(0, some (.ro 2 l.length (Lst eS l)))]⟩
 apply aw_seq
 apply aw_seq
 refine awr []
  ⟨26, [0], [(0, .ls 0), (3, .i (i : Int)), (7, .b (decide ((i : Int) < (l.length : Int))))], [(0, some (.ro 2 l.length (Lst eS l)))]⟩
  [] trivial ?_
 refine aw_cond (b := decide ((i : Int) < (l.length : Int))) rfl (fun h1 => ?_) (fun h1 => ?_)
 ·
  have h1p : (i : Int) < (l.length : Int) := dtr h1
  apply aw_skip
  apply aw_seq
  apply aw_block
  apply aw_seq
  rcases Bool.eq_false_or_eq_true ((!(within 0 3599 [((ix l i).angle)]))) with h2 | h2
  ·
   refine awr [(2, .idx i), (5, .call [] (.b (within 0 3599 [((ix l i).angle)])) []), (7, .dec true)]
    ⟨26, [0], [(0, .ls 0), (3, .i (i : Int)), (25, .b true)], [(0, some (.ro 2 l.length (Lst eS l)))]⟩
    [(i : Int) = (i : Int), i < l.length, i < l.length, i < l.length, CallOK Try.prog 63 [.i ((ix l i).angle), .i 0, .i 3599] [] [] (.b (within 0 3599 [((ix l i).angle)])) [], (!(within 0 3599 [((ix l i).angle)])) = true] (al2 (by omega) (al2 (by omega) (al2 (by omega) (al2 (by omega) (al2 (cfr (refIn_fr ((ix l i).angle) 0 3599) [] dem_nil) (al1 h2)))))) ?_
   refine aw_true rfl ?_
   apply aw_seq
   have hf : spotsB l = false := by
    unfold spotsB
    rw [any_at (i := i) (by omega) (by simp [spotOut, *])]
    rfl
   refine awr []
    ⟨26, [0], [(2, .b false)], []⟩
    [] trivial ?_
   exact aw_ret (ret_block (ret_then (ret_then (ret_block (ret_then ⟨.inr rfl, eok ⟨26, [0], [(2, .b (spotsB l))], []⟩
       (enr [] ⟨(slot_b (a := false) rfl (by first | rfl | omega | assumption | (rw [hf]))), trivial⟩ trivial) wr_nil⟩)))))
  ·
   refine awr [(2, .idx i), (5, .call [] (.b (within 0 3599 [((ix l i).angle)])) []), (7, .dec false), (10, .idx i), (13, .call [] (.b (within 0 5000 [((ix l i).height)])) [])]
    ⟨26, [0], [(0, .ls 0), (3, .i (i : Int)), (25, .b (!(within 0 5000 [((ix l i).height)])))], [(0, some (.ro 2 l.length (Lst eS l)))]⟩
    [(i : Int) = (i : Int), i < l.length, i < l.length, i < l.length, CallOK Try.prog 63 [.i ((ix l i).angle), .i 0, .i 3599] [] [] (.b (within 0 3599 [((ix l i).angle)])) [], (!(within 0 3599 [((ix l i).angle)])) = false, (i : Int) = (i : Int), i < l.length, i < l.length, i < l.length, CallOK Try.prog 63 [.i ((ix l i).height), .i 0, .i 5000] [] [] (.b (within 0 5000 [((ix l i).height)])) []] (al2 (by omega) (al2 (by omega) (al2 (by omega) (al2 (by omega) (al2 (cfr (refIn_fr ((ix l i).angle) 0 3599) [] dem_nil) (al2 h2 (al2 (by omega) (al2 (by omega) (al2 (by omega) (al2 (by omega) (al1 (cfr (refIn_fr ((ix l i).height) 0 5000) [] dem_nil)))))))))))) ?_
   refine aw_cond (b := (!(within 0 5000 [((ix l i).height)]))) rfl (fun h3 => ?_) (fun h3 => ?_)
   ·
    apply aw_seq
    have hf : spotsB l = false := by
     unfold spotsB
     rw [any_at (i := i) (by omega) (by simp [spotOut, *])]
     rfl
    refine awr []
     ⟨26, [0], [(2, .b false)], []⟩
     [] trivial ?_
    exact aw_ret (ret_block (ret_then (ret_then (ret_block (ret_then ⟨.inr rfl, eok ⟨26, [0], [(2, .b (spotsB l))], []⟩
        (enr [] ⟨(slot_b (a := false) rfl (by first | rfl | omega | assumption | (rw [hf]))), trivial⟩ trivial) wr_nil⟩)))))
   ·
    apply aw_skip
    refine awr [(1, .num (((i + 1) : Nat) : Int))]
     ⟨26, [0], [(0, .ls 0), (3, .i (((i + 1) : Nat) : Int))], [(0, some (.ro 2 l.length (Lst eS l)))]⟩
     [((i : Int) + 1) = (((i + 1) : Nat) : Int), -9223372036854775808 ≤ (((i + 1) : Nat) : Int) ∧ (((i + 1) : Nat) : Int) < 9223372036854775808] (al2 (by omega) (al1 (by omega))) ?_
    exact ⟨(i + 1), ⟨(by first | omega | rfl | assumption | (simp; done)), (by exact all_snoc hp (by simp [spotOut, *]))⟩, (show l.length - (i + 1) < l.length - i by first | omega | rfl | assumption),
        (enr [] ⟨rfl, rfl, trivial⟩ (cro rfl trivial))⟩
 ·
  have h1p : (l.length : Int) ≤ (i : Int) := dlt h1
  refine aw_exit (exit_then (exit_then (exit_in ?_)))
  apply aw_seq
  have hf : spotsB l = true := by
   unfold spotsB
   rw [any_no hp (by omega)]
   rfl
  refine awr []
   ⟨26, [0], [(2, .b true)], []⟩
   [] trivial ?_
  exact aw_ret ⟨.inr rfl, eok ⟨26, [0], [(2, .b (spotsB l))], []⟩
      (enr [] ⟨(slot_b (a := true) rfl (by first | rfl | omega | assumption | (rw [hf]))), trivial⟩ trivial) wr_nil⟩
def refTree_frA1 (t : TreeV) : SV := .agg [.i t.year, .i t.glo, .i t.ghi, .i t.wlo, .i t.whi, .i t.health, .ls 1]
def refTree_frK2 (t : TreeV) : Cn := .ro 3 t.holes.length (Lst eH t.holes)
def refTree_frK3 (t : TreeV) : Cn := .blk 26 [.i t.year, .i t.glo, .i t.ghi, .i t.wlo, .i t.whi, .i t.health, .ls 1]
def refTree_frK4 (t : TreeV) (i : Nat) : Cn := .vec 72 2 1 (exEl 2 [.i ((ix t.holes i).angle), .i ((ix t.holes i).height)])
set_option maxRecDepth 100000 in
theorem refTree_fr (t : TreeV) (ht : t.holes.length ≤ 1000000) : CallFr Try.prog 22 [(refTree_frA1 t)] [1] [some (.ro 3 t.holes.length (Lst eH t.holes))] (.b (treeB t)) [] := by
 refine callFr_of (fn := Try.f22) (by kernel_rfl) rfl (by kernel_rfl) (by kernel_rfl) fun E => ?_
 refine aw_ent (T := ⟨58, [1], [(0, (refTree_frA1 t))], [(1, some (refTree_frK2 t))]⟩) (Ent.refl _) ?_
 apply aw_seq
 refine awr [(0, .new 1001)]
  ⟨58, [1], [(1, .l (.ref 1001 0))], [(1, some (refTree_frK2 t)), (1001, some (refTree_frK3 t))]⟩
  [] trivial ?_
 apply aw_seq
 apply aw_seq
 rcases Bool.eq_false_or_eq_true ((!(within 0 9999 [t.year]))) with h1 | h1
 ·
  refine awr [(2, .call [] (.b (within 0 9999 [t.year])) []), (4, .dec true)]
   ⟨58, [1], [(1, .l (.ref 1001 0)), (31, .b true)], [(1, some (refTree_frK2 t)), (1001, some (refTree_frK3 t))]⟩
   [CallOK Try.prog 63 [.i t.year, .i 0, .i 9999] [] [] (.b (within 0 9999 [t.year])) [], (!(within 0 9999 [t.year])) = true] (al2 (cfr (refIn_fr t.year 0 9999) [] dem_nil) (al1 h1)) ?_
  refine aw_true rfl ?_
  apply aw_seq
  refine awr []
   ⟨58, [1], [(2, .b false)], []⟩
   [] trivial ?_
  exact aw_ret (ret_then ⟨.inr rfl, eok ⟨58, [1], [(2, .b (treeB t))], []⟩
      (enr [] ⟨(slot_b (a := false) rfl (by first | rfl | omega | assumption | (simp only [treeB, *] <;> simp_all))), trivial⟩ trivial) wr_nil⟩)
 ·
  rcases Bool.eq_false_or_eq_true ((!(rangeB t.glo t.ghi 1 10000))) with h2 | h2
  ·
   refine awr [(2, .call [] (.b (within 0 9999 [t.year])) []), (4, .dec false), (7, .call [] (.b (rangeB t.glo t.ghi 1 10000)) []), (10, .dec true)]
    ⟨58, [1], [(1, .l (.ref 1001 0)), (31, .b true)], [(1, some (refTree_frK2 t)), (1001, some (refTree_frK3 t))]⟩
    [CallOK Try.prog 63 [.i t.year, .i 0, .i 9999] [] [] (.b (within 0 9999 [t.year])) [], (!(within 0 9999 [t.year])) = false, CallOK Try.prog 64 [.agg [.i t.glo, .i t.ghi], .i 1, .i 10000] [] [] (.b (rangeB t.glo t.ghi 1 10000)) [], (!(rangeB t.glo t.ghi 1 10000)) = true] (al2 (cfr (refIn_fr t.year 0 9999) [] dem_nil) (al2 h1 (al2 (cfr (refSpan_fr t.glo t.ghi 1 10000) [] dem_nil) (al1 h2)))) ?_
   refine aw_true rfl ?_
   apply aw_seq
   refine awr []
    ⟨58, [1], [(2, .b false)], []⟩
    [] trivial ?_
   exact aw_ret (ret_then ⟨.inr rfl, eok ⟨58, [1], [(2, .b (treeB t))], []⟩
       (enr [] ⟨(slot_b (a := false) rfl (by first | rfl | omega | assumption | (simp only [treeB, *] <;> simp_all))), trivial⟩ trivial) wr_nil⟩)
  ·
   rcases Bool.eq_false_or_eq_true ((!(rangeB t.wlo t.whi 0 10000))) with h3 | h3
   ·
    refine awr [(2, .call [] (.b (within 0 9999 [t.year])) []), (4, .dec false), (7, .call [] (.b (rangeB t.glo t.ghi 1 10000)) []), (10, .dec false), (13, .call [] (.b (rangeB t.wlo t.whi 0 10000)) []), (16, .dec true)]
     ⟨58, [1], [(1, .l (.ref 1001 0)), (31, .b true)], [(1, some (refTree_frK2 t)), (1001, some (refTree_frK3 t))]⟩
     [CallOK Try.prog 63 [.i t.year, .i 0, .i 9999] [] [] (.b (within 0 9999 [t.year])) [], (!(within 0 9999 [t.year])) = false, CallOK Try.prog 64 [.agg [.i t.glo, .i t.ghi], .i 1, .i 10000] [] [] (.b (rangeB t.glo t.ghi 1 10000)) [], (!(rangeB t.glo t.ghi 1 10000)) = false, CallOK Try.prog 64 [.agg [.i t.wlo, .i t.whi], .i 0, .i 10000] [] [] (.b (rangeB t.wlo t.whi 0 10000)) [], (!(rangeB t.wlo t.whi 0 10000)) = true] (al2 (cfr (refIn_fr t.year 0 9999) [] dem_nil) (al2 h1 (al2 (cfr (refSpan_fr t.glo t.ghi 1 10000) [] dem_nil) (al2 h2 (al2 (cfr (refSpan_fr t.wlo t.whi 0 10000) [] dem_nil) (al1 h3)))))) ?_
    refine aw_true rfl ?_
    apply aw_seq
    refine awr []
     ⟨58, [1], [(2, .b false)], []⟩
     [] trivial ?_
    exact aw_ret (ret_then ⟨.inr rfl, eok ⟨58, [1], [(2, .b (treeB t))], []⟩
        (enr [] ⟨(slot_b (a := false) rfl (by first | rfl | omega | assumption | (simp only [treeB, *] <;> simp_all))), trivial⟩ trivial) wr_nil⟩)
   ·
    rcases Bool.eq_false_or_eq_true ((!(within 0 4 [t.health]))) with h4 | h4
    ·
     refine awr [(2, .call [] (.b (within 0 9999 [t.year])) []), (4, .dec false), (7, .call [] (.b (rangeB t.glo t.ghi 1 10000)) []), (10, .dec false), (13, .call [] (.b (rangeB t.wlo t.whi 0 10000)) []), (16, .dec false), (19, .call [] (.b (within 0 4 [t.health])) []), (22, .dec true)]
      ⟨58, [1], [(1, .l (.ref 1001 0)), (31, .b true)], [(1, some (refTree_frK2 t)), (1001, some (refTree_frK3 t))]⟩
      [CallOK Try.prog 63 [.i t.year, .i 0, .i 9999] [] [] (.b (within 0 9999 [t.year])) [], (!(within 0 9999 [t.year])) = false, CallOK Try.prog 64 [.agg [.i t.glo, .i t.ghi], .i 1, .i 10000] [] [] (.b (rangeB t.glo t.ghi 1 10000)) [], (!(rangeB t.glo t.ghi 1 10000)) = false, CallOK Try.prog 64 [.agg [.i t.wlo, .i t.whi], .i 0, .i 10000] [] [] (.b (rangeB t.wlo t.whi 0 10000)) [], (!(rangeB t.wlo t.whi 0 10000)) = false, CallOK Try.prog 63 [.i t.health, .i 0, .i 4] [] [] (.b (within 0 4 [t.health])) [], (!(within 0 4 [t.health])) = true] (al2 (cfr (refIn_fr t.year 0 9999) [] dem_nil) (al2 h1 (al2 (cfr (refSpan_fr t.glo t.ghi 1 10000) [] dem_nil) (al2 h2 (al2 (cfr (refSpan_fr t.wlo t.whi 0 10000) [] dem_nil) (al2 h3 (al2 (cfr (refIn_fr t.health 0 4) [] dem_nil) (al1 h4)))))))) ?_
     refine aw_true rfl ?_
     apply aw_seq
     refine awr []
      ⟨58, [1], [(2, .b false)], []⟩
      [] trivial ?_
     exact aw_ret (ret_then ⟨.inr rfl, eok ⟨58, [1], [(2, .b (treeB t))], []⟩
         (enr [] ⟨(slot_b (a := false) rfl (by first | rfl | omega | assumption | (simp only [treeB, *] <;> simp_all))), trivial⟩ trivial) wr_nil⟩)
    ·
     refine awr [(2, .call [] (.b (within 0 9999 [t.year])) []), (4, .dec false), (7, .call [] (.b (rangeB t.glo t.ghi 1 10000)) []), (10, .dec false), (13, .call [] (.b (rangeB t.wlo t.whi 0 10000)) []), (16, .dec false), (19, .call [] (.b (within 0 4 [t.health])) []), (22, .dec false)]
      ⟨58, [1], [(1, .l (.ref 1001 0)), (31, .b (decide (60 < (t.holes.length : Int))))], [(1, some (refTree_frK2 t)), (1001, some (refTree_frK3 t))]⟩
      [CallOK Try.prog 63 [.i t.year, .i 0, .i 9999] [] [] (.b (within 0 9999 [t.year])) [], (!(within 0 9999 [t.year])) = false, CallOK Try.prog 64 [.agg [.i t.glo, .i t.ghi], .i 1, .i 10000] [] [] (.b (rangeB t.glo t.ghi 1 10000)) [], (!(rangeB t.glo t.ghi 1 10000)) = false, CallOK Try.prog 64 [.agg [.i t.wlo, .i t.whi], .i 0, .i 10000] [] [] (.b (rangeB t.wlo t.whi 0 10000)) [], (!(rangeB t.wlo t.whi 0 10000)) = false, CallOK Try.prog 63 [.i t.health, .i 0, .i 4] [] [] (.b (within 0 4 [t.health])) [], (!(within 0 4 [t.health])) = false] (al2 (cfr (refIn_fr t.year 0 9999) [] dem_nil) (al2 h1 (al2 (cfr (refSpan_fr t.glo t.ghi 1 10000) [] dem_nil) (al2 h2 (al2 (cfr (refSpan_fr t.wlo t.whi 0 10000) [] dem_nil) (al2 h3 (al2 (cfr (refIn_fr t.health 0 4) [] dem_nil) (al1 h4)))))))) ?_
     refine aw_cond (b := decide (60 < (t.holes.length : Int))) rfl (fun h5 => ?_) (fun h5 => ?_)
     ·
      have h5p : 60 < (t.holes.length : Int) := dtr h5
      apply aw_seq
      refine awr []
       ⟨58, [1], [(2, .b false)], []⟩
       [] trivial ?_
      exact aw_ret (ret_then ⟨.inr rfl, eok ⟨58, [1], [(2, .b (treeB t))], []⟩
          (enr [] ⟨(slot_b (a := false) rfl (by first | rfl | omega | assumption | (simp only [treeB, *] <;> simp_all))), trivial⟩ trivial) wr_nil⟩)
     ·
      have h5p : (t.holes.length : Int) ≤ 60 := dlt h5
      apply aw_skip
      apply aw_seq
      apply aw_seq
      refine awr []
       ⟨58, [1], [(1, .l (.ref 1001 0)), (3, .i 0)], [(1, some (refTree_frK2 t)), (1001, some (refTree_frK3 t))]⟩
       [] trivial ?_
      apply aw_block
      refine aw_loop (ι := Nat) (fun zz => ⟨58, [1], [(1, .l (.ref 1001 0)), (3, .i (zz : Int))], [(1, some (refTree_frK2 t)), (1001, some (refTree_frK3 t))]⟩) (fun zz => (zz ≤ t.holes.length) ∧ (∀ j, j < zz → holeOut (ix t.holes j) = false)) (fun zz => t.holes.length - zz) 0 ⟨(by first | omega | rfl | assumption | (simp; done)), (by intro j hj; omega)⟩
          (enr [] ⟨rfl, rfl, trivial⟩ (cro rfl (cbl rfl rfl trivial))) fun zz hp => ?_
      obtain ⟨i, rfl⟩ : ∃ x, x = zz := ⟨_, rfl⟩
      obtain ⟨hiL, hp⟩ := hp
      show AW _ E _ _ ⟨58, [1], [(1, .l (.ref 1001 0)), (3, .i (i : Int))], [(1, some (refTree_frK2 t)), (1001, some (refTree_frK3 t))]⟩
      apply aw_seq
      apply aw_seq
      refine awr []
       ⟨58, [1], [(1, .l (.ref 1001 0)), (3, .i (i : Int)), (36, .b (decide ((i : Int) < (t.holes.length : Int))))], [(1, some (refTree_frK2 t)), (1001, some (refTree_frK3 t))]⟩
       [] trivial ?_
      refine aw_cond (b := decide ((i : Int) < (t.holes.length : Int))) rfl (fun h6 => ?_) (fun h6 => ?_)
      ·
       have h6p : (i : Int) < (t.holes.length : Int) := dtr h6
       apply aw_skip
       apply aw_seq
       apply aw_block
       apply aw_seq
       rcases Bool.eq_false_or_eq_true ((!(within 0 9999 [((ix t.holes i).year)]))) with h7 | h7
       ·
        refine awr [(3, .idx i), (6, .call [] (.b (within 0 9999 [((ix t.holes i).year)])) []), (8, .dec true)]
         ⟨58, [1], [(1, .l (.ref 1001 0)), (3, .i (i : Int)), (57, .b true)], [(1, some (refTree_frK2 t)), (1001, some (refTree_frK3 t))]⟩
         [(i : Int) = (i : Int), i < t.holes.length, i < t.holes.length, i < t.holes.length, CallOK Try.prog 63 [.i ((ix t.holes i).year), .i 0, .i 9999] [] [] (.b (within 0 9999 [((ix t.holes i).year)])) [], (!(within 0 9999 [((ix t.holes i).year)])) = true] (al2 (by omega) (al2 (by omega) (al2 (by omega) (al2 (by omega) (al2 (cfr (refIn_fr ((ix t.holes i).year) 0 9999) [] dem_nil) (al1 h7)))))) ?_
        refine aw_true rfl ?_
        apply aw_seq
        have hf : t.holes.any holeOut = true := any_at (i := i) (by omega) (by simp [holeOut, *])
        clear hp
        refine awr []
         ⟨58, [1], [(2, .b false)], []⟩
         [] trivial ?_
        exact aw_ret (ret_block (ret_then (ret_then (ret_block (ret_then ⟨.inr rfl, eok ⟨58, [1], [(2, .b (treeB t))], []⟩
            (enr [] ⟨(slot_b (a := false) rfl (by first | rfl | omega | assumption | (simp only [treeB, *] <;> simp_all))), trivial⟩ trivial) wr_nil⟩)))))
       ·
        refine awr [(3, .idx i), (6, .call [] (.b (within 0 9999 [((ix t.holes i).year)])) []), (8, .dec false), (12, .idx i), (15, .new 1054), (16, .call [1054] (.b (spotsB ([(⟨(ix t.holes i).angle, (ix t.holes i).height⟩ : Spt)]))) [])]
         ⟨58, [1], [(1, .l (.ref 1001 0)), (3, .i (i : Int)), (57, .b (!(spotsB ([(⟨(ix t.holes i).angle, (ix t.holes i).height⟩ : Spt)]))))], [(1, some (refTree_frK2 t)), (1001, some (refTree_frK3 t))]⟩
         [(i : Int) = (i : Int), i < t.holes.length, i < t.holes.length, i < t.holes.length, CallOK Try.prog 63 [.i ((ix t.holes i).year), .i 0, .i 9999] [] [] (.b (within 0 9999 [((ix t.holes i).year)])) [], (!(within 0 9999 [((ix t.holes i).year)])) = false, (i : Int) = (i : Int), i < t.holes.length, i < t.holes.length, i < t.holes.length, CallOK Try.prog 39 [.ls 1054] [1054] [some (refTree_frK4 t i)] (.b (spotsB ([(⟨(ix t.holes i).angle, (ix t.holes i).height⟩ : Spt)]))) []] (al2 (by omega) (al2 (by omega) (al2 (by omega) (al2 (by omega) (al2 (cfr (refIn_fr ((ix t.holes i).year) 0 9999) [] dem_nil) (al2 h7 (al2 (by omega) (al2 (by omega) (al2 (by omega) (al2 (by omega) (al1 (cfr (refOn_fr ([(⟨(ix t.holes i).angle, (ix t.holes i).height⟩ : Spt)]) (by first | omega | (simp; done) | decide)) [(0, 1054)] (dem_cons rfl (le_vec_ro (by first | omega | rfl | assumption) (fun | 0, _ => (fun | 0, _ => rfl | 1, _ => rfl | (_n + 2), h => absurd h (by omega)) | (_n + 1), h => absurd h (by omega))) dem_nil))))))))))))) ?_
        refine aw_cond (b := (!(spotsB ([(⟨(ix t.holes i).angle, (ix t.holes i).height⟩ : Spt)])))) rfl (fun h8 => ?_) (fun h8 => ?_)
        ·
         apply aw_seq
         have hf : t.holes.any holeOut = true := any_at (i := i) (by omega) (by simp [holeOut, *])
         clear hp
         refine awr []
          ⟨58, [1], [(2, .b false)], []⟩
          [] trivial ?_
         exact aw_ret (ret_block (ret_then (ret_then (ret_block (ret_then ⟨.inr rfl, eok ⟨58, [1], [(2, .b (treeB t))], []⟩
             (enr [] ⟨(slot_b (a := false) rfl (by first | rfl | omega | assumption | (simp only [treeB, *] <;> simp_all))), trivial⟩ trivial) wr_nil⟩)))))
        ·
         apply aw_skip
         refine awr [(1, .num (((i + 1) : Nat) : Int))]
          ⟨58, [1], [(1, .l (.ref 1001 0)), (3, .i (((i + 1) : Nat) : Int))], [(1, some (refTree_frK2 t)), (1001, some (refTree_frK3 t))]⟩
          [((i : Int) + 1) = (((i + 1) : Nat) : Int), -9223372036854775808 ≤ (((i + 1) : Nat) : Int) ∧ (((i + 1) : Nat) : Int) < 9223372036854775808] (al2 (by omega) (al1 (by omega))) ?_
         exact ⟨(i + 1), ⟨(by first | omega | rfl | assumption | (simp; done)), (by exact all_snoc hp (by simp [holeOut, *]))⟩, (show t.holes.length - (i + 1) < t.holes.length - i by first | omega | rfl | assumption),
             (enr [] ⟨rfl, rfl, trivial⟩ (cro rfl (cbl rfl rfl trivial)))⟩
      ·
       have h6p : (t.holes.length : Int) ≤ (i : Int) := dlt h6
       refine aw_exit (exit_then (exit_then (exit_in ?_)))
       apply aw_seq
       have hf : t.holes.any holeOut = false := any_no hp (by omega)
       clear hp
       refine awr []
        ⟨58, [1], [(2, .b true)], []⟩
        [] trivial ?_
       exact aw_ret ⟨.inr rfl, eok ⟨58, [1], [(2, .b (treeB t))], []⟩
           (enr [] ⟨(slot_b (a := true) rfl (by first | rfl | omega | assumption | (simp only [treeB, *] <;> simp_all))), trivial⟩ trivial) wr_nil⟩
def refRules_frA1 (r : RuleV) : SV := .agg [.i r.slo, .i r.shi, .i r.ulo, .i r.uhi, .i r.hlo, .i r.hhi, .i r.apart, .i r.blo, .i r.bhi, .ls 2, .i r.n0, .i r.n1, .i r.n2, .i r.n3, .i r.n4, .i r.opn]
def refRules_frK2 (r : RuleV) : Cn := .ro 2 r.sizes.length (Lst eZ r.sizes)
def refRules_frK3 (r : RuleV) : Cn := .blk 30 [.i r.slo, .i r.shi, .i r.ulo, .i r.uhi, .i r.hlo, .i r.hhi, .i r.apart, .i r.blo, .i r.bhi, .ls 2, .i r.n0, .i r.n1, .i r.n2, .i r.n3, .i r.n4, .i r.opn]
def refRules_frH4 (r : RuleV) : List (Nat × Option Cn) := [(2, some (refRules_frK2 r)), (1001, some (refRules_frK3 r))]
set_option maxRecDepth 100000 in
theorem refRules_fr (r : RuleV) (hr : r.sizes.length ≤ 1000000) : CallFr Try.prog 23 [(refRules_frA1 r)] [2] [some (.ro 2 r.sizes.length (Lst eZ r.sizes))] (.b (ruleB r)) [] := by
 refine callFr_of (fn := Try.f23) (by kernel_rfl) rfl (by kernel_rfl) (by kernel_rfl) fun E => ?_
 refine aw_ent (T := ⟨114, [2], [(0, (refRules_frA1 r))], [(2, some (refRules_frK2 r))]⟩) (Ent.refl _) ?_
 apply aw_seq
 refine awr [(0, .new 1001)]
  ⟨114, [2], [(1, .l (.ref 1001 0))], (refRules_frH4 r)⟩
  [] trivial ?_
 apply aw_seq
 apply aw_seq
 rcases Bool.eq_false_or_eq_true ((!(rangeB r.slo r.shi 0 5000))) with h1 | h1
 ·
  refine awr [(2, .call [] (.b (rangeB r.slo r.shi 0 5000)) []), (4, .dec true)]
   ⟨114, [2], [(1, .l (.ref 1001 0)), (44, .b true)], (refRules_frH4 r)⟩
   [CallOK Try.prog 64 [.agg [.i r.slo, .i r.shi], .i 0, .i 5000] [] [] (.b (rangeB r.slo r.shi 0 5000)) [], (!(rangeB r.slo r.shi 0 5000)) = true] (al2 (cfr (refSpan_fr r.slo r.shi 0 5000) [] dem_nil) (al1 h1)) ?_
  refine aw_true rfl ?_
  apply aw_seq
  refine awr []
   ⟨114, [2], [(2, .b false)], []⟩
   [] trivial ?_
  exact aw_ret (ret_then ⟨.inr rfl, eok ⟨114, [2], [(2, .b (ruleB r))], []⟩
      (enr [] ⟨(slot_b (a := false) rfl (by first | rfl | omega | assumption | (simp_all [ruleB]))), trivial⟩ trivial) wr_nil⟩)
 ·
  rcases Bool.eq_false_or_eq_true ((!(rangeB r.ulo r.uhi 0 5000))) with h2 | h2
  ·
   refine awr [(2, .call [] (.b (rangeB r.slo r.shi 0 5000)) []), (4, .dec false), (7, .call [] (.b (rangeB r.ulo r.uhi 0 5000)) []), (10, .dec true)]
    ⟨114, [2], [(1, .l (.ref 1001 0)), (44, .b true)], (refRules_frH4 r)⟩
    [CallOK Try.prog 64 [.agg [.i r.slo, .i r.shi], .i 0, .i 5000] [] [] (.b (rangeB r.slo r.shi 0 5000)) [], (!(rangeB r.slo r.shi 0 5000)) = false, CallOK Try.prog 64 [.agg [.i r.ulo, .i r.uhi], .i 0, .i 5000] [] [] (.b (rangeB r.ulo r.uhi 0 5000)) [], (!(rangeB r.ulo r.uhi 0 5000)) = true] (al2 (cfr (refSpan_fr r.slo r.shi 0 5000) [] dem_nil) (al2 h1 (al2 (cfr (refSpan_fr r.ulo r.uhi 0 5000) [] dem_nil) (al1 h2)))) ?_
   refine aw_true rfl ?_
   apply aw_seq
   refine awr []
    ⟨114, [2], [(2, .b false)], []⟩
    [] trivial ?_
   exact aw_ret (ret_then ⟨.inr rfl, eok ⟨114, [2], [(2, .b (ruleB r))], []⟩
       (enr [] ⟨(slot_b (a := false) rfl (by first | rfl | omega | assumption | (simp_all [ruleB]))), trivial⟩ trivial) wr_nil⟩)
  ·
   rcases Bool.eq_false_or_eq_true ((!(rangeB r.hlo r.hhi 0 100))) with h3 | h3
   ·
    refine awr [(2, .call [] (.b (rangeB r.slo r.shi 0 5000)) []), (4, .dec false), (7, .call [] (.b (rangeB r.ulo r.uhi 0 5000)) []), (10, .dec false), (13, .call [] (.b (rangeB r.hlo r.hhi 0 100)) []), (16, .dec true)]
     ⟨114, [2], [(1, .l (.ref 1001 0)), (44, .b true)], (refRules_frH4 r)⟩
     [CallOK Try.prog 64 [.agg [.i r.slo, .i r.shi], .i 0, .i 5000] [] [] (.b (rangeB r.slo r.shi 0 5000)) [], (!(rangeB r.slo r.shi 0 5000)) = false, CallOK Try.prog 64 [.agg [.i r.ulo, .i r.uhi], .i 0, .i 5000] [] [] (.b (rangeB r.ulo r.uhi 0 5000)) [], (!(rangeB r.ulo r.uhi 0 5000)) = false, CallOK Try.prog 64 [.agg [.i r.hlo, .i r.hhi], .i 0, .i 100] [] [] (.b (rangeB r.hlo r.hhi 0 100)) [], (!(rangeB r.hlo r.hhi 0 100)) = true] (al2 (cfr (refSpan_fr r.slo r.shi 0 5000) [] dem_nil) (al2 h1 (al2 (cfr (refSpan_fr r.ulo r.uhi 0 5000) [] dem_nil) (al2 h2 (al2 (cfr (refSpan_fr r.hlo r.hhi 0 100) [] dem_nil) (al1 h3)))))) ?_
    refine aw_true rfl ?_
    apply aw_seq
    refine awr []
     ⟨114, [2], [(2, .b false)], []⟩
     [] trivial ?_
    exact aw_ret (ret_then ⟨.inr rfl, eok ⟨114, [2], [(2, .b (ruleB r))], []⟩
        (enr [] ⟨(slot_b (a := false) rfl (by first | rfl | omega | assumption | (simp_all [ruleB]))), trivial⟩ trivial) wr_nil⟩)
   ·
    rcases Bool.eq_false_or_eq_true ((!(within 1 5000 [r.apart]))) with h4 | h4
    ·
     refine awr [(2, .call [] (.b (rangeB r.slo r.shi 0 5000)) []), (4, .dec false), (7, .call [] (.b (rangeB r.ulo r.uhi 0 5000)) []), (10, .dec false), (13, .call [] (.b (rangeB r.hlo r.hhi 0 100)) []), (16, .dec false), (19, .call [] (.b (within 1 5000 [r.apart])) []), (22, .dec true)]
      ⟨114, [2], [(1, .l (.ref 1001 0)), (44, .b true)], (refRules_frH4 r)⟩
      [CallOK Try.prog 64 [.agg [.i r.slo, .i r.shi], .i 0, .i 5000] [] [] (.b (rangeB r.slo r.shi 0 5000)) [], (!(rangeB r.slo r.shi 0 5000)) = false, CallOK Try.prog 64 [.agg [.i r.ulo, .i r.uhi], .i 0, .i 5000] [] [] (.b (rangeB r.ulo r.uhi 0 5000)) [], (!(rangeB r.ulo r.uhi 0 5000)) = false, CallOK Try.prog 64 [.agg [.i r.hlo, .i r.hhi], .i 0, .i 100] [] [] (.b (rangeB r.hlo r.hhi 0 100)) [], (!(rangeB r.hlo r.hhi 0 100)) = false, CallOK Try.prog 63 [.i r.apart, .i 1, .i 5000] [] [] (.b (within 1 5000 [r.apart])) [], (!(within 1 5000 [r.apart])) = true] (al2 (cfr (refSpan_fr r.slo r.shi 0 5000) [] dem_nil) (al2 h1 (al2 (cfr (refSpan_fr r.ulo r.uhi 0 5000) [] dem_nil) (al2 h2 (al2 (cfr (refSpan_fr r.hlo r.hhi 0 100) [] dem_nil) (al2 h3 (al2 (cfr (refIn_fr r.apart 1 5000) [] dem_nil) (al1 h4)))))))) ?_
     refine aw_true rfl ?_
     apply aw_seq
     refine awr []
      ⟨114, [2], [(2, .b false)], []⟩
      [] trivial ?_
     exact aw_ret (ret_then ⟨.inr rfl, eok ⟨114, [2], [(2, .b (ruleB r))], []⟩
         (enr [] ⟨(slot_b (a := false) rfl (by first | rfl | omega | assumption | (simp_all [ruleB]))), trivial⟩ trivial) wr_nil⟩)
    ·
     rcases Bool.eq_false_or_eq_true ((!(rangeB r.blo r.bhi 0 5000))) with h5 | h5
     ·
      refine awr [(2, .call [] (.b (rangeB r.slo r.shi 0 5000)) []), (4, .dec false), (7, .call [] (.b (rangeB r.ulo r.uhi 0 5000)) []), (10, .dec false), (13, .call [] (.b (rangeB r.hlo r.hhi 0 100)) []), (16, .dec false), (19, .call [] (.b (within 1 5000 [r.apart])) []), (22, .dec false), (25, .call [] (.b (rangeB r.blo r.bhi 0 5000)) []), (28, .dec true)]
       ⟨114, [2], [(1, .l (.ref 1001 0)), (44, .b true)], (refRules_frH4 r)⟩
       [CallOK Try.prog 64 [.agg [.i r.slo, .i r.shi], .i 0, .i 5000] [] [] (.b (rangeB r.slo r.shi 0 5000)) [], (!(rangeB r.slo r.shi 0 5000)) = false, CallOK Try.prog 64 [.agg [.i r.ulo, .i r.uhi], .i 0, .i 5000] [] [] (.b (rangeB r.ulo r.uhi 0 5000)) [], (!(rangeB r.ulo r.uhi 0 5000)) = false, CallOK Try.prog 64 [.agg [.i r.hlo, .i r.hhi], .i 0, .i 100] [] [] (.b (rangeB r.hlo r.hhi 0 100)) [], (!(rangeB r.hlo r.hhi 0 100)) = false, CallOK Try.prog 63 [.i r.apart, .i 1, .i 5000] [] [] (.b (within 1 5000 [r.apart])) [], (!(within 1 5000 [r.apart])) = false, CallOK Try.prog 64 [.agg [.i r.blo, .i r.bhi], .i 0, .i 5000] [] [] (.b (rangeB r.blo r.bhi 0 5000)) [], (!(rangeB r.blo r.bhi 0 5000)) = true] (al2 (cfr (refSpan_fr r.slo r.shi 0 5000) [] dem_nil) (al2 h1 (al2 (cfr (refSpan_fr r.ulo r.uhi 0 5000) [] dem_nil) (al2 h2 (al2 (cfr (refSpan_fr r.hlo r.hhi 0 100) [] dem_nil) (al2 h3 (al2 (cfr (refIn_fr r.apart 1 5000) [] dem_nil) (al2 h4 (al2 (cfr (refSpan_fr r.blo r.bhi 0 5000) [] dem_nil) (al1 h5)))))))))) ?_
      refine aw_true rfl ?_
      apply aw_seq
      refine awr []
       ⟨114, [2], [(2, .b false)], []⟩
       [] trivial ?_
      exact aw_ret (ret_then ⟨.inr rfl, eok ⟨114, [2], [(2, .b (ruleB r))], []⟩
          (enr [] ⟨(slot_b (a := false) rfl (by first | rfl | omega | assumption | (simp_all [ruleB]))), trivial⟩ trivial) wr_nil⟩)
     ·
      rcases Bool.eq_false_or_eq_true (decide (10 < (r.sizes.length : Int))) with h6 | h6
      ·
       have h6p : 10 < (r.sizes.length : Int) := dtr h6
       refine awr [(2, .call [] (.b (rangeB r.slo r.shi 0 5000)) []), (4, .dec false), (7, .call [] (.b (rangeB r.ulo r.uhi 0 5000)) []), (10, .dec false), (13, .call [] (.b (rangeB r.hlo r.hhi 0 100)) []), (16, .dec false), (19, .call [] (.b (within 1 5000 [r.apart])) []), (22, .dec false), (25, .call [] (.b (rangeB r.blo r.bhi 0 5000)) []), (28, .dec false), (34, .dec true)]
        ⟨114, [2], [(1, .l (.ref 1001 0)), (44, .b true)], (refRules_frH4 r)⟩
        [CallOK Try.prog 64 [.agg [.i r.slo, .i r.shi], .i 0, .i 5000] [] [] (.b (rangeB r.slo r.shi 0 5000)) [], (!(rangeB r.slo r.shi 0 5000)) = false, CallOK Try.prog 64 [.agg [.i r.ulo, .i r.uhi], .i 0, .i 5000] [] [] (.b (rangeB r.ulo r.uhi 0 5000)) [], (!(rangeB r.ulo r.uhi 0 5000)) = false, CallOK Try.prog 64 [.agg [.i r.hlo, .i r.hhi], .i 0, .i 100] [] [] (.b (rangeB r.hlo r.hhi 0 100)) [], (!(rangeB r.hlo r.hhi 0 100)) = false, CallOK Try.prog 63 [.i r.apart, .i 1, .i 5000] [] [] (.b (within 1 5000 [r.apart])) [], (!(within 1 5000 [r.apart])) = false, CallOK Try.prog 64 [.agg [.i r.blo, .i r.bhi], .i 0, .i 5000] [] [] (.b (rangeB r.blo r.bhi 0 5000)) [], (!(rangeB r.blo r.bhi 0 5000)) = false, decide (10 < (r.sizes.length : Int)) = true] (al2 (cfr (refSpan_fr r.slo r.shi 0 5000) [] dem_nil) (al2 h1 (al2 (cfr (refSpan_fr r.ulo r.uhi 0 5000) [] dem_nil) (al2 h2 (al2 (cfr (refSpan_fr r.hlo r.hhi 0 100) [] dem_nil) (al2 h3 (al2 (cfr (refIn_fr r.apart 1 5000) [] dem_nil) (al2 h4 (al2 (cfr (refSpan_fr r.blo r.bhi 0 5000) [] dem_nil) (al2 h5 (al1 h6))))))))))) ?_
       refine aw_true rfl ?_
       apply aw_seq
       refine awr []
        ⟨114, [2], [(2, .b false)], []⟩
        [] trivial ?_
       exact aw_ret (ret_then ⟨.inr rfl, eok ⟨114, [2], [(2, .b (ruleB r))], []⟩
           (enr [] ⟨(slot_b (a := false) rfl (by first | rfl | omega | assumption | (simp_all [ruleB]))), trivial⟩ trivial) wr_nil⟩)
      ·
       have h6p : (r.sizes.length : Int) ≤ 10 := dlt h6
       refine awr [(2, .call [] (.b (rangeB r.slo r.shi 0 5000)) []), (4, .dec false), (7, .call [] (.b (rangeB r.ulo r.uhi 0 5000)) []), (10, .dec false), (13, .call [] (.b (rangeB r.hlo r.hhi 0 100)) []), (16, .dec false), (19, .call [] (.b (within 1 5000 [r.apart])) []), (22, .dec false), (25, .call [] (.b (rangeB r.blo r.bhi 0 5000)) []), (28, .dec false), (34, .dec false), (37, .call [] (.b (within 0 60 [r.opn])) [])]
        ⟨114, [2], [(1, .l (.ref 1001 0)), (44, .b (!(within 0 60 [r.opn])))], (refRules_frH4 r)⟩
        [CallOK Try.prog 64 [.agg [.i r.slo, .i r.shi], .i 0, .i 5000] [] [] (.b (rangeB r.slo r.shi 0 5000)) [], (!(rangeB r.slo r.shi 0 5000)) = false, CallOK Try.prog 64 [.agg [.i r.ulo, .i r.uhi], .i 0, .i 5000] [] [] (.b (rangeB r.ulo r.uhi 0 5000)) [], (!(rangeB r.ulo r.uhi 0 5000)) = false, CallOK Try.prog 64 [.agg [.i r.hlo, .i r.hhi], .i 0, .i 100] [] [] (.b (rangeB r.hlo r.hhi 0 100)) [], (!(rangeB r.hlo r.hhi 0 100)) = false, CallOK Try.prog 63 [.i r.apart, .i 1, .i 5000] [] [] (.b (within 1 5000 [r.apart])) [], (!(within 1 5000 [r.apart])) = false, CallOK Try.prog 64 [.agg [.i r.blo, .i r.bhi], .i 0, .i 5000] [] [] (.b (rangeB r.blo r.bhi 0 5000)) [], (!(rangeB r.blo r.bhi 0 5000)) = false, decide (10 < (r.sizes.length : Int)) = false, CallOK Try.prog 63 [.i r.opn, .i 0, .i 60] [] [] (.b (within 0 60 [r.opn])) []] (al2 (cfr (refSpan_fr r.slo r.shi 0 5000) [] dem_nil) (al2 h1 (al2 (cfr (refSpan_fr r.ulo r.uhi 0 5000) [] dem_nil) (al2 h2 (al2 (cfr (refSpan_fr r.hlo r.hhi 0 100) [] dem_nil) (al2 h3 (al2 (cfr (refIn_fr r.apart 1 5000) [] dem_nil) (al2 h4 (al2 (cfr (refSpan_fr r.blo r.bhi 0 5000) [] dem_nil) (al2 h5 (al2 h6 (al1 (cfr (refIn_fr r.opn 0 60) [] dem_nil))))))))))))) ?_
       refine aw_cond (b := (!(within 0 60 [r.opn]))) rfl (fun h7 => ?_) (fun h7 => ?_)
       ·
        apply aw_seq
        refine awr []
         ⟨114, [2], [(2, .b false)], []⟩
         [] trivial ?_
        exact aw_ret (ret_then ⟨.inr rfl, eok ⟨114, [2], [(2, .b (ruleB r))], []⟩
            (enr [] ⟨(slot_b (a := false) rfl (by first | rfl | omega | assumption | (simp_all [ruleB]))), trivial⟩ trivial) wr_nil⟩)
       ·
        apply aw_skip
        apply aw_seq
        apply aw_seq
        refine awr []
         ⟨114, [2], [(1, .l (.ref 1001 0)), (3, .i 0)], (refRules_frH4 r)⟩
         [] trivial ?_
        apply aw_block
        refine aw_loop (ι := Nat) (fun zz => ⟨114, [2], [(1, .l (.ref 1001 0)), (3, .i (zz : Int))], (refRules_frH4 r)⟩) (fun zz => (zz ≤ 5) ∧ (∀ j : Nat, j < zz → within 0 20 [healV r (j : Int)] = true)) (fun zz => 5 - zz) 0 ⟨(by first | omega | rfl | assumption | (simp; done)), (by intro j hj; omega)⟩
            (enr [] ⟨rfl, rfl, trivial⟩ (cro rfl (cbl rfl rfl trivial))) fun zz hp => ?_
        obtain ⟨i, rfl⟩ : ∃ x, x = zz := ⟨_, rfl⟩
        obtain ⟨hi5, hh⟩ := hp
        show AW _ E _ _ ⟨114, [2], [(1, .l (.ref 1001 0)), (3, .i (i : Int))], (refRules_frH4 r)⟩
        apply aw_seq
        apply aw_seq
        refine awr []
         ⟨114, [2], [(1, .l (.ref 1001 0)), (3, .i (i : Int)), (46, .b (decide ((i : Int) < 5)))], (refRules_frH4 r)⟩
         [] trivial ?_
        refine aw_cond (b := decide ((i : Int) < 5)) rfl (fun h8 => ?_) (fun h8 => ?_)
        ·
         have h8p : (i : Int) < 5 := dtr h8
         apply aw_skip
         apply aw_seq
         apply aw_block
         apply aw_seq
         refine awr [(2, .act [1001] (.l (.ref 1001 (10 + i * 1))) []), (3, .act [1001] (.i (healV r (i : Int))) []), (4, .call [] (.b (within 0 20 [(healV r (i : Int))])) [])]
          ⟨114, [2], [(1, .l (.ref 1001 0)), (3, .i (i : Int)), (54, .b (!(within 0 20 [(healV r (i : Int))])))], (refRules_frH4 r)⟩
          [ActOK Try.prog (.indexAddr 28 (.tmp 50) (.tmp 49)) 0 [.l (.ref 1001 10), .i (i : Int)] [1001] [some (refRules_frK3 r)] (.l (.ref 1001 (10 + i * 1))) [], ActOK Try.prog (.load 3 (.tmp 51)) 3 [.l (.ref 1001 (10 + i * 1))] [1001] [some (refRules_frK3 r)] (.i (healV r (i : Int))) [], CallOK Try.prog 63 [.i (healV r (i : Int)), .i 0, .i 20] [] [] (.b (within 0 20 [(healV r (i : Int))])) []] (al2 (act_idxAt2 (k := i) (n := 5) (e := 3) (m := 1) (by kernel_rfl) (by kernel_rfl) rfl (by omega) (by omega) (by omega)) (al2 (act_loadAt (by kernel_rfl) rfl (by rcases (show i = 0 ∨ i = 1 ∨ i = 2 ∨ i = 3 ∨ i = 4 by omega) with e | e | e | e | e <;> rw [e] <;> rfl)) (al1 (cfr (refIn_fr (healV r (i : Int)) 0 20) [] dem_nil)))) ?_
         refine aw_cond (b := (!(within 0 20 [(healV r (i : Int))]))) rfl (fun h9 => ?_) (fun h9 => ?_)
         ·
          apply aw_seq
          have hf : within 0 20 [r.n0, r.n1, r.n2, r.n3, r.n4] = false := heal_not (i := i) (by omega) (by simpa using (by assumption : (!(within 0 20 [healV r (i : Int)])) = true))
          refine awr []
           ⟨114, [2], [(2, .b false)], []⟩
           [] trivial ?_
          exact aw_ret (ret_block (ret_then (ret_then (ret_block (ret_then ⟨.inr rfl, eok ⟨114, [2], [(2, .b (ruleB r))], []⟩
              (enr [] ⟨(slot_b (a := false) rfl (by first | rfl | omega | assumption | (simp_all [ruleB]))), trivial⟩ trivial) wr_nil⟩)))))
         ·
          apply aw_skip
          refine awr [(1, .num (((i + 1) : Nat) : Int))]
           ⟨114, [2], [(1, .l (.ref 1001 0)), (3, .i (((i + 1) : Nat) : Int))], (refRules_frH4 r)⟩
           [((i : Int) + 1) = (((i + 1) : Nat) : Int), -9223372036854775808 ≤ (((i + 1) : Nat) : Int) ∧ (((i + 1) : Nat) : Int) < 9223372036854775808] (al2 (by omega) (al1 (by omega))) ?_
          exact ⟨(i + 1), ⟨(by first | omega | rfl | assumption | (simp; done)), (by exact heal_snoc hh (by simpa using (by assumption : (!(within 0 20 [healV r (i : Int)])) = false)))⟩, (show 5 - (i + 1) < 5 - i by first | omega | rfl | assumption),
              (enr [] ⟨rfl, rfl, trivial⟩ (cro rfl (cbl rfl rfl trivial)))⟩
        ·
         have h8p : 5 ≤ (i : Int) := dlt h8
         refine aw_exit (exit_then (exit_then (exit_in ?_)))
         apply aw_seq
         apply aw_seq
         have hH : within 0 20 [r.n0, r.n1, r.n2, r.n3, r.n4] = true := heal_all (fun j hj => hh j (by omega))
         refine awr []
          ⟨114, [2], [(1, .l (.ref 1001 0)), (4, .i 0)], (refRules_frH4 r)⟩
          [] trivial ?_
         apply aw_block
         refine aw_loop (ι := Nat) (fun zz => ⟨114, [2], [(1, .l (.ref 1001 0)), (4, .i (zz : Int))], (refRules_frH4 r)⟩) (fun zz => (zz ≤ r.sizes.length) ∧ (0 ≤ preG r.sizes zz ∧ 0 ≤ preT r.sizes zz ∧ preG r.sizes zz ≤ 10000) ∧ (sizesB (preG r.sizes zz) (preT r.sizes zz) (r.sizes.drop zz) = sizesB 0 0 r.sizes)) (fun zz => r.sizes.length - zz) 0 ⟨(by first | omega | rfl | assumption | (simp; done)), (by simp [preG, preT]), (by rfl)⟩
             (enr [] ⟨rfl, rfl, trivial⟩ (cro rfl (cbl rfl rfl trivial))) fun zz hp => ?_
         obtain ⟨k, rfl⟩ : ∃ x, x = zz := ⟨_, rfl⟩
         obtain ⟨hkL, hb, hs⟩ := hp
         show AW _ E _ _ ⟨114, [2], [(1, .l (.ref 1001 0)), (4, .i (k : Int))], (refRules_frH4 r)⟩
         apply aw_seq
         apply aw_seq
         refine awr []
          ⟨114, [2], [(1, .l (.ref 1001 0)), (4, .i (k : Int)), (59, .b (decide ((k : Int) < (r.sizes.length : Int))))], (refRules_frH4 r)⟩
          [] trivial ?_
         refine aw_cond (b := decide ((k : Int) < (r.sizes.length : Int))) rfl (fun h10 => ?_) (fun h10 => ?_)
         ·
          have h10p : (k : Int) < (r.sizes.length : Int) := dtr h10
          apply aw_skip
          apply aw_seq
          apply aw_block
          apply aw_seq
          apply aw_seq
          rcases Bool.eq_false_or_eq_true ((!(within 1 10000 [((ix r.sizes k).girth)]))) with h11 | h11
          ·
           refine awr [(3, .idx k), (6, .call [] (.b (within 1 10000 [((ix r.sizes k).girth)])) []), (8, .dec true)]
            ⟨114, [2], [(1, .l (.ref 1001 0)), (4, .i (k : Int)), (79, .b true)], (refRules_frH4 r)⟩
            [(k : Int) = (k : Int), k < r.sizes.length, k < r.sizes.length, k < r.sizes.length, CallOK Try.prog 63 [.i ((ix r.sizes k).girth), .i 1, .i 10000] [] [] (.b (within 1 10000 [((ix r.sizes k).girth)])) [], (!(within 1 10000 [((ix r.sizes k).girth)])) = true] (al2 (by omega) (al2 (by omega) (al2 (by omega) (al2 (by omega) (al2 (cfr (refIn_fr ((ix r.sizes k).girth) 1 10000) [] dem_nil) (al1 h11)))))) ?_
           refine aw_true rfl ?_
           apply aw_seq
           have hf : sizesB 0 0 r.sizes = false := by
            rw [← hs]
            exact sz_bad1 (by omega) hb (by first | exact .inl (by simpa using (by assumption : (!(within 1 10000 [_])) = true)) | exact .inr (by simpa using (by assumption : (!(within 0 20 [_])) = true)))
           refine awr []
            ⟨114, [2], [(2, .b false)], []⟩
            [] trivial ?_
           exact aw_ret (ret_then (ret_block (ret_then (ret_then (ret_block (ret_then ⟨.inr rfl, eok ⟨114, [2], [(2, .b (ruleB r))], []⟩
               (enr [] ⟨(slot_b (a := false) rfl (by first | rfl | omega | assumption | (simp_all [ruleB]))), trivial⟩ trivial) wr_nil⟩))))))
          ·
           refine awr [(3, .idx k), (6, .call [] (.b (within 1 10000 [((ix r.sizes k).girth)])) []), (8, .dec false), (12, .idx k), (15, .call [] (.b (within 0 20 [((ix r.sizes k).taps)])) [])]
            ⟨114, [2], [(1, .l (.ref 1001 0)), (4, .i (k : Int)), (79, .b (!(within 0 20 [((ix r.sizes k).taps)])))], (refRules_frH4 r)⟩
            [(k : Int) = (k : Int), k < r.sizes.length, k < r.sizes.length, k < r.sizes.length, CallOK Try.prog 63 [.i ((ix r.sizes k).girth), .i 1, .i 10000] [] [] (.b (within 1 10000 [((ix r.sizes k).girth)])) [], (!(within 1 10000 [((ix r.sizes k).girth)])) = false, (k : Int) = (k : Int), k < r.sizes.length, k < r.sizes.length, k < r.sizes.length, CallOK Try.prog 63 [.i ((ix r.sizes k).taps), .i 0, .i 20] [] [] (.b (within 0 20 [((ix r.sizes k).taps)])) []] (al2 (by omega) (al2 (by omega) (al2 (by omega) (al2 (by omega) (al2 (cfr (refIn_fr ((ix r.sizes k).girth) 1 10000) [] dem_nil) (al2 h11 (al2 (by omega) (al2 (by omega) (al2 (by omega) (al2 (by omega) (al1 (cfr (refIn_fr ((ix r.sizes k).taps) 0 20) [] dem_nil)))))))))))) ?_
           refine aw_cond (b := (!(within 0 20 [((ix r.sizes k).taps)]))) rfl (fun h12 => ?_) (fun h12 => ?_)
           ·
            apply aw_seq
            have hf : sizesB 0 0 r.sizes = false := by
             rw [← hs]
             exact sz_bad1 (by omega) hb (by first | exact .inl (by simpa using (by assumption : (!(within 1 10000 [_])) = true)) | exact .inr (by simpa using (by assumption : (!(within 0 20 [_])) = true)))
            refine awr []
             ⟨114, [2], [(2, .b false)], []⟩
             [] trivial ?_
            exact aw_ret (ret_then (ret_block (ret_then (ret_then (ret_block (ret_then ⟨.inr rfl, eok ⟨114, [2], [(2, .b (ruleB r))], []⟩
                (enr [] ⟨(slot_b (a := false) rfl (by first | rfl | omega | assumption | (simp_all [ruleB]))), trivial⟩ trivial) wr_nil⟩))))))
           ·
            apply aw_skip
            apply aw_seq
            rcases Bool.eq_false_or_eq_true (decide (0 < (k : Int))) with h13 | h13
            ·
             have h13p : 0 < (k : Int) := dtr h13
             rcases Bool.eq_false_or_eq_true (decide ((ix r.sizes k).girth ≤ (ix r.sizes (((k : Int) - 1).toNat)).girth)) with h14 | h14
             ·
              have h14p : (ix r.sizes k).girth ≤ (ix r.sizes (((k : Int) - 1).toNat)).girth := dtr h14
              refine awd [(2, .dec true), (6, .idx k), (13, .idx (((k : Int) - 1).toNat)), (17, .dec true)]
               ⟨114, [2], [(1, .l (.ref 1001 0)), (4, .i (k : Int)), (113, .b true)], (refRules_frH4 r)⟩
               [decide (0 < (k : Int)) = true, (k : Int) = (k : Int), k < r.sizes.length, k < r.sizes.length, k < r.sizes.length, -9223372036854775808 ≤ ((k : Int) - 1) ∧ ((k : Int) - 1) < 9223372036854775808, ((k : Int) - 1) = ((((k : Int) - 1).toNat : Nat) : Int), ((k : Int) - 1).toNat < r.sizes.length, ((k : Int) - 1).toNat < r.sizes.length, ((k : Int) - 1).toNat < r.sizes.length, decide ((ix r.sizes k).girth ≤ (ix r.sizes (((k : Int) - 1).toNat)).girth) = true] (al2 h13 (al2 (by omega) (al2 (by omega) (al2 (by omega) (al2 (by omega) (al2 (by omega) (al2 (by omega) (al2 (by omega) (al2 (by omega) (al2 (by omega) (al1 h14))))))))))) ?_
              refine aw_true rfl ?_
              apply aw_seq
              have hf : sizesB 0 0 r.sizes = false := by
               rw [← hs]
               exact sz_bad2 (by omega) (by omega) (by (rw [← ix_sub (by omega)]; omega))
              refine awr []
               ⟨114, [2], [(2, .b false)], []⟩
               [] trivial ?_
              exact aw_ret (ret_block (ret_then (ret_then (ret_block (ret_then ⟨.inr rfl, eok ⟨114, [2], [(2, .b (ruleB r))], []⟩
                  (enr [] ⟨(slot_b (a := false) rfl (by first | rfl | omega | assumption | (simp_all [ruleB]))), trivial⟩ trivial) wr_nil⟩)))))
             ·
              have h14p : (ix r.sizes (((k : Int) - 1).toNat)).girth < (ix r.sizes k).girth := dle h14
              refine awd [(2, .dec true), (6, .idx k), (13, .idx (((k : Int) - 1).toNat)), (17, .dec false), (21, .idx k), (28, .idx (((k : Int) - 1).toNat))]
               ⟨114, [2], [(1, .l (.ref 1001 0)), (4, .i (k : Int)), (113, .b (decide ((ix r.sizes k).taps < (ix r.sizes (((k : Int) - 1).toNat)).taps)))], (refRules_frH4 r)⟩
               [decide (0 < (k : Int)) = true, (k : Int) = (k : Int), k < r.sizes.length, k < r.sizes.length, k < r.sizes.length, -9223372036854775808 ≤ ((k : Int) - 1) ∧ ((k : Int) - 1) < 9223372036854775808, ((k : Int) - 1) = ((((k : Int) - 1).toNat : Nat) : Int), ((k : Int) - 1).toNat < r.sizes.length, ((k : Int) - 1).toNat < r.sizes.length, ((k : Int) - 1).toNat < r.sizes.length, decide ((ix r.sizes k).girth ≤ (ix r.sizes (((k : Int) - 1).toNat)).girth) = false, (k : Int) = (k : Int), k < r.sizes.length, k < r.sizes.length, k < r.sizes.length, -9223372036854775808 ≤ ((k : Int) - 1) ∧ ((k : Int) - 1) < 9223372036854775808, ((k : Int) - 1) = ((((k : Int) - 1).toNat : Nat) : Int), ((k : Int) - 1).toNat < r.sizes.length, ((k : Int) - 1).toNat < r.sizes.length, ((k : Int) - 1).toNat < r.sizes.length] (al2 h13 (al2 (by omega) (al2 (by omega) (al2 (by omega) (al2 (by omega) (al2 (by omega) (al2 (by omega) (al2 (by omega) (al2 (by omega) (al2 (by omega) (al2 h14 (al2 (by omega) (al2 (by omega) (al2 (by omega) (al2 (by omega) (al2 (by omega) (al2 (by omega) (al2 (by omega) (al2 (by omega) (al1 (by omega))))))))))))))))))))) ?_
              refine aw_cond (b := decide ((ix r.sizes k).taps < (ix r.sizes (((k : Int) - 1).toNat)).taps)) rfl (fun h15 => ?_) (fun h15 => ?_)
              ·
               have h15p : (ix r.sizes k).taps < (ix r.sizes (((k : Int) - 1).toNat)).taps := dtr h15
               apply aw_seq
               have hf : sizesB 0 0 r.sizes = false := by
                rw [← hs]
                exact sz_bad2 (by omega) (by omega) (by (rw [← ix_sub (by omega)]; omega))
               refine awr []
                ⟨114, [2], [(2, .b false)], []⟩
                [] trivial ?_
               exact aw_ret (ret_block (ret_then (ret_then (ret_block (ret_then ⟨.inr rfl, eok ⟨114, [2], [(2, .b (ruleB r))], []⟩
                   (enr [] ⟨(slot_b (a := false) rfl (by first | rfl | omega | assumption | (simp_all [ruleB]))), trivial⟩ trivial) wr_nil⟩)))))
              ·
               have h15p : (ix r.sizes (((k : Int) - 1).toNat)).taps ≤ (ix r.sizes k).taps := dlt h15
               apply aw_skip
               refine awr [(1, .num (((k + 1) : Nat) : Int))]
                ⟨114, [2], [(1, .l (.ref 1001 0)), (4, .i (((k + 1) : Nat) : Int))], (refRules_frH4 r)⟩
                [((k : Int) + 1) = (((k + 1) : Nat) : Int), -9223372036854775808 ≤ (((k + 1) : Nat) : Int) ∧ (((k + 1) : Nat) : Int) < 9223372036854775808] (al2 (by omega) (al1 (by omega))) ?_
               have hG := sz_good (l := r.sizes) (k := k) (by omega) hb (by assumption) (by assumption) (by (intro h0; simp only [preG, preT, if_neg (Nat.pos_iff_ne_zero.1 h0)]; rw [← ix_sub h0]; omega))
               exact ⟨(k + 1), ⟨(by first | omega | rfl | assumption | (simp; done)), (by exact hG.2), (by rw [← hs]; exact hG.1.symm)⟩, (show r.sizes.length - (k + 1) < r.sizes.length - k by first | omega | rfl | assumption),
                   (enr [] ⟨rfl, rfl, trivial⟩ (cro rfl (cbl rfl rfl trivial)))⟩
            ·
             have h13p : (k : Int) ≤ 0 := dlt h13
             refine awd [(2, .dec false)]
              ⟨114, [2], [(1, .l (.ref 1001 0)), (4, .i (k : Int)), (113, .b false)], (refRules_frH4 r)⟩
              [decide (0 < (k : Int)) = false] (al1 h13) ?_
             refine aw_false rfl ?_
             apply aw_skip
             refine awr [(1, .num (((k + 1) : Nat) : Int))]
              ⟨114, [2], [(1, .l (.ref 1001 0)), (4, .i (((k + 1) : Nat) : Int))], (refRules_frH4 r)⟩
              [((k : Int) + 1) = (((k + 1) : Nat) : Int), -9223372036854775808 ≤ (((k + 1) : Nat) : Int) ∧ (((k + 1) : Nat) : Int) < 9223372036854775808] (al2 (by omega) (al1 (by omega))) ?_
             have hG := sz_good (l := r.sizes) (k := k) (by omega) hb (by assumption) (by assumption) (by (intro h0; simp only [preG, preT, if_neg (Nat.pos_iff_ne_zero.1 h0)]; rw [← ix_sub h0]; omega))
             exact ⟨(k + 1), ⟨(by first | omega | rfl | assumption | (simp; done)), (by exact hG.2), (by rw [← hs]; exact hG.1.symm)⟩, (show r.sizes.length - (k + 1) < r.sizes.length - k by first | omega | rfl | assumption),
                 (enr [] ⟨rfl, rfl, trivial⟩ (cro rfl (cbl rfl rfl trivial)))⟩
         ·
          have h10p : (r.sizes.length : Int) ≤ (k : Int) := dlt h10
          refine aw_exit (exit_then (exit_then (exit_in ?_)))
          apply aw_seq
          have hf : sizesB 0 0 r.sizes = true := by
           rw [← hs, List.drop_eq_nil_of_le (by omega)]
           rfl
          refine awr []
           ⟨114, [2], [(2, .b true)], []⟩
           [] trivial ?_
          exact aw_ret ⟨.inr rfl, eok ⟨114, [2], [(2, .b (ruleB r))], []⟩
              (enr [] ⟨(slot_b (a := true) rfl (by first | rfl | omega | assumption | (simp_all [ruleB]))), trivial⟩ trivial) wr_nil⟩
def refStart_frA1 (t : TreeV) : SV := .agg [.i t.year, .i t.glo, .i t.ghi, .i t.wlo, .i t.whi, .i t.health, .ls 1]
def refStart_frA2 (r : RuleV) : SV := .agg [.i r.slo, .i r.shi, .i r.ulo, .i r.uhi, .i r.hlo, .i r.hhi, .i r.apart, .i r.blo, .i r.bhi, .ls 2, .i r.n0, .i r.n1, .i r.n2, .i r.n3, .i r.n4, .i r.opn]
def refStart_frK3 (t : TreeV) : Cn := .ro 3 t.holes.length (Lst eH t.holes)
def refStart_frK4 (r : RuleV) : Cn := .ro 2 r.sizes.length (Lst eZ r.sizes)
def refStart_frK5 (t : TreeV) : Cn := .blk 26 [.i t.year, .i t.glo, .i t.ghi, .i t.wlo, .i t.whi, .i t.health, .ls 1]
def refStart_frK6 (r : RuleV) : Cn := .blk 30 [.i r.slo, .i r.shi, .i r.ulo, .i r.uhi, .i r.hlo, .i r.hhi, .i r.apart, .i r.blo, .i r.bhi, .ls 2, .i r.n0, .i r.n1, .i r.n2, .i r.n3, .i r.n4, .i r.opn]
def refStart_frH7 (t : TreeV) (r : RuleV) : List (Nat × Option Cn) := [(1, some (refStart_frK3 t)), (2, some (refStart_frK4 r)), (1003, some (refStart_frK5 t)), (1004, some (refStart_frK6 r))]
def refStart_frH8 (t : TreeV) : List (Nat × Option Cn) := [(1, some (refStart_frK3 t)), (1003, some (refStart_frK5 t))]
set_option maxRecDepth 100000 in
theorem refStart_fr (t : TreeV) (r : RuleV) (y : Int) (ht : t.holes.length ≤ 1000000) (hr : r.sizes.length ≤ 1000000) : CallFr Try.prog 24 [(refStart_frA1 t), (refStart_frA2 r), .i y] [1, 2] [some (.ro 3 t.holes.length (Lst eH t.holes)), some (.ro 2 r.sizes.length (Lst eZ r.sizes))] (.i (startE t r y)) [] := by
 refine callFr_of (fn := Try.f24) (by kernel_rfl) rfl (by kernel_rfl) (by kernel_rfl) fun E => ?_
 refine aw_ent (T := ⟨20, [1, 2], [(0, (refStart_frA1 t)), (1, (refStart_frA2 r)), (2, .i y)], [(1, some (refStart_frK3 t)), (2, some (refStart_frK4 r))]⟩) (Ent.refl _) ?_
 apply aw_seq
 refine awr [(0, .new 1003), (1, .new 1004)]
  ⟨20, [1, 2], [(2, .i y), (3, .l (.ref 1003 0)), (4, .l (.ref 1004 0))], (refStart_frH7 t r)⟩
  [] trivial ?_
 apply aw_seq
 apply aw_seq
 rcases Bool.eq_false_or_eq_true ((!(treeB t))) with h1 | h1
 ·
  refine awr [(1, .call [1] (.b (treeB t)) []), (3, .dec true)]
   ⟨20, [1, 2], [(2, .i y), (3, .l (.ref 1003 0)), (14, .b true)], (refStart_frH8 t)⟩
   [CallOK Try.prog 22 [(refStart_frA1 t)] [1] [some (refStart_frK3 t)] (.b (treeB t)) [], (!(treeB t)) = true] (al2 (cfr (refTree_fr t (by first | omega | (simp; done) | assumption)) [(1, 1)] (dem_cons rfl (le_ro rfl el_rfl) dem_nil)) (al1 h1)) ?_
  refine aw_true rfl ?_
  apply aw_seq
  refine awr []
   ⟨20, [1, 2], [(6, .i 2)], []⟩
   [] trivial ?_
  exact aw_ret (ret_then ⟨.inr rfl, eok ⟨20, [1, 2], [(6, .i (startE t r y))], []⟩
      (enr [] ⟨(slot_i rfl (by first | rfl | omega | assumption | (simp_all [startE, treeE, ruleE, yearE]))), trivial⟩ trivial) wr_nil⟩)
 ·
  refine awr [(1, .call [1] (.b (treeB t)) []), (3, .dec false), (5, .call [2] (.b (ruleB r)) [])]
   ⟨20, [1, 2], [(2, .i y), (3, .l (.ref 1003 0)), (14, .b (!(ruleB r)))], (refStart_frH8 t)⟩
   [CallOK Try.prog 22 [(refStart_frA1 t)] [1] [some (refStart_frK3 t)] (.b (treeB t)) [], (!(treeB t)) = false, CallOK Try.prog 23 [(refStart_frA2 r)] [2] [some (refStart_frK4 r)] (.b (ruleB r)) []] (al2 (cfr (refTree_fr t (by first | omega | (simp; done) | assumption)) [(1, 1)] (dem_cons rfl (le_ro rfl el_rfl) dem_nil)) (al2 h1 (al1 (cfr (refRules_fr r (by first | omega | (simp; done) | assumption)) [(2, 2)] (dem_cons rfl (le_ro rfl el_rfl) dem_nil))))) ?_
  refine aw_cond (b := (!(ruleB r))) rfl (fun h2 => ?_) (fun h2 => ?_)
  ·
   apply aw_seq
   refine awr []
    ⟨20, [1, 2], [(6, .i 2)], []⟩
    [] trivial ?_
   exact aw_ret (ret_then ⟨.inr rfl, eok ⟨20, [1, 2], [(6, .i (startE t r y))], []⟩
       (enr [] ⟨(slot_i rfl (by first | rfl | omega | assumption | (simp_all [startE, treeE, ruleE, yearE]))), trivial⟩ trivial) wr_nil⟩)
  ·
   apply aw_skip
   apply aw_seq
   apply aw_seq
   refine awr [(3, .call [] (.b (within t.year 9999 [y])) [])]
    ⟨20, [1, 2], [(19, .b (!(within t.year 9999 [y])))], []⟩
    [CallOK Try.prog 63 [.i y, .i t.year, .i 9999] [] [] (.b (within t.year 9999 [y])) []] (al1 (cfr (refIn_fr y t.year 9999) [] dem_nil)) ?_
   refine aw_cond (b := (!(within t.year 9999 [y]))) rfl (fun h3 => ?_) (fun h3 => ?_)
   ·
    apply aw_seq
    refine awr []
     ⟨20, [1, 2], [(6, .i 3)], []⟩
     [] trivial ?_
    exact aw_ret (ret_then ⟨.inr rfl, eok ⟨20, [1, 2], [(6, .i (startE t r y))], []⟩
        (enr [] ⟨(slot_i rfl (by first | rfl | omega | assumption | (simp_all [startE, treeE, ruleE, yearE]))), trivial⟩ trivial) wr_nil⟩)
   ·
    apply aw_skip
    apply aw_seq
    refine awr []
     ⟨20, [1, 2], [(6, .i 0)], []⟩
     [] trivial ?_
    exact aw_ret ⟨.inr rfl, eok ⟨20, [1, 2], [(6, .i (startE t r y))], []⟩
        (enr [] ⟨(slot_i rfl (by first | rfl | omega | assumption | (simp_all [startE, treeE, ruleE, yearE]))), trivial⟩ trivial) wr_nil⟩
def refGirth_frA1 (t : TreeV) : SV := .agg [.i t.year, .i t.glo, .i t.ghi, .i t.wlo, .i t.whi, .i t.health, .ls 1]
def refGirth_frK2 (t : TreeV) : Cn := .ro 3 t.holes.length (Lst eH t.holes)
def refGirth_frK3 (t : TreeV) : Cn := .blk 26 [.i t.year, .i t.glo, .i t.ghi, .i t.wlo, .i t.whi, .i t.health, .ls 1]
def refGirth_frH4 (t : TreeV) : List (Nat × Option Cn) := [(1, some (refGirth_frK2 t)), (1002, some (refGirth_frK3 t)), (1004, some (.blk 23 [.i 0, .i 0]))]
def refGirth_frK5 (t : TreeV) (y : Int) : Cn := .blk 23 [.i (min 10000 (t.glo + ((y - t.year) * t.wlo))), .i (min 10000 (t.ghi + ((y - t.year) * t.whi)))]
def refGirth_frK6 (t : TreeV) (y : Int) : Cn := .blk 23 [.i ((girthV t y).low), .i ((girthV t y).high)]
set_option maxRecDepth 100000 in
theorem refGirth_fr (t : TreeV) (y : Int) (ht : TreeOk t) (hy : t.year ≤ y ∧ y ≤ 9999) : CallFr Try.prog 26 [(refGirth_frA1 t), .i y] [1] [some (.ro 3 t.holes.length (Lst eH t.holes))] (.agg [.i ((girthV t y).low), .i ((girthV t y).high)]) [] := by
 have h1 := ht.girth
 have h2 := ht.grow
 have h3 := ht.year
 have m1 := mul_bd (a := y - t.year) (A := 9999) (b := t.wlo) (B := 10000) (by omega) (by omega)
 have m2 := mul_bd (a := y - t.year) (A := 9999) (b := t.whi) (B := 10000) (by omega) (by omega)
 refine callFr_of (fn := Try.f26) (by kernel_rfl) rfl (by kernel_rfl) (by kernel_rfl) fun E => ?_
 refine aw_ent (T := ⟨31, [1], [(0, (refGirth_frA1 t)), (1, .i y)], [(1, some (refGirth_frK2 t))]⟩) (Ent.refl _) ?_
 apply aw_seq
 refine awr [(0, .new 1002), (1, .new 1004)]
  ⟨31, [1], [(1, .i y), (2, .l (.ref 1002 0)), (4, .l (.ref 1004 0))], (refGirth_frH4 t)⟩
  [] trivial ?_
 apply aw_seq
 refine awr []
  ⟨31, [1], [(2, .l (.ref 1002 0)), (4, .l (.ref 1004 0)), (5, .i (y - t.year))], (refGirth_frH4 t)⟩
  [-9223372036854775808 ≤ (y - t.year) ∧ (y - t.year) < 9223372036854775808] (al1 (by omega)) ?_
 apply aw_seq
 refine awr []
  ⟨31, [1], [(4, .l (.ref 1004 0))], [(1004, some (refGirth_frK5 t y))]⟩
  [-9223372036854775808 ≤ ((y - t.year) * t.wlo) ∧ ((y - t.year) * t.wlo) < 9223372036854775808, -9223372036854775808 ≤ (t.glo + ((y - t.year) * t.wlo)) ∧ (t.glo + ((y - t.year) * t.wlo)) < 9223372036854775808, -9223372036854775808 ≤ ((y - t.year) * t.whi) ∧ ((y - t.year) * t.whi) < 9223372036854775808, -9223372036854775808 ≤ (t.ghi + ((y - t.year) * t.whi)) ∧ (t.ghi + ((y - t.year) * t.whi)) < 9223372036854775808] (al2 (by omega) (al2 (by omega) (al2 (by omega) (al1 (by omega))))) ?_
 exact aw_ret ⟨.inr rfl, eok ⟨31, [1], [(4, .l (.ref 8004 0))], [(8004, some (refGirth_frK6 t y))]⟩
     (enr [(8004, 1004)] ⟨rfl, trivial⟩ (cbl rfl (by exact (cells_cons (cell_i (by first | rfl | omega | assumption | (simp only [girthV, endV]; rw [Int.mul_comm]))) (cells_cons (cell_i (by first | rfl | omega | assumption | (simp only [girthV, endV]; rw [Int.mul_comm]))) rfl))) trivial)) wr_nil⟩
def refTaps_frA1 (t : TreeV) : SV := .agg [.i t.year, .i t.glo, .i t.ghi, .i t.wlo, .i t.whi, .i t.health, .ls 1]
def refTaps_frA2 (r : RuleV) : SV := .agg [.i r.slo, .i r.shi, .i r.ulo, .i r.uhi, .i r.hlo, .i r.hhi, .i r.apart, .i r.blo, .i r.bhi, .ls 2, .i r.n0, .i r.n1, .i r.n2, .i r.n3, .i r.n4, .i r.opn]
def refTaps_frA3 (t : TreeV) (r : RuleV) (y : Int) : SV := .agg [.i (tapsV (openV t r y) (openV t r y).worst), .i (tapsV (openV t r y) (openV t r y).best)]
def refTaps_frK4 (t : TreeV) : Cn := .ro 3 t.holes.length (Lst eH t.holes)
def refTaps_frK5 (r : RuleV) : Cn := .ro 2 r.sizes.length (Lst eZ r.sizes)
def refTaps_frK6 (t : TreeV) : Cn := .blk 26 [.i t.year, .i t.glo, .i t.ghi, .i t.wlo, .i t.whi, .i t.health, .ls 1]
def refTaps_frK7 (r : RuleV) : Cn := .blk 30 [.i r.slo, .i r.shi, .i r.ulo, .i r.uhi, .i r.hlo, .i r.hhi, .i r.apart, .i r.blo, .i r.bhi, .ls 2, .i r.n0, .i r.n1, .i r.n2, .i r.n3, .i r.n4, .i r.opn]
def refTaps_frH8 (t : TreeV) (r : RuleV) : List (Nat × Option Cn) := [(1, some (refTaps_frK4 t)), (2, some (refTaps_frK5 r)), (1003, some (refTaps_frK6 t)), (1004, some (refTaps_frK7 r)), (1006, some (.blk 23 [.i 0, .i 0]))]
def refTaps_frK9 (t : TreeV) (y : Int) : Cn := .blk 23 [.i ((girthV t y).low), .i ((girthV t y).high)]
def refTaps_frH10 (t : TreeV) (r : RuleV) (y : Int) : List (Nat × Option Cn) := [(1, some (refTaps_frK4 t)), (2, some (refTaps_frK5 r)), (1003, some (refTaps_frK6 t)), (1004, some (refTaps_frK7 r)), (1006, some (.blk 23 [.i 0, .i 0])), (1007, some (refTaps_frK9 t y))]
def refTaps_frH11 (r : RuleV) : List (Nat × Option Cn) := [(2, some (refTaps_frK5 r)), (1004, some (refTaps_frK7 r)), (1006, some (.blk 23 [.i 0, .i 0]))]
def refTaps_frK12 (lo : Int) (r : RuleV) (t : TreeV) (ma : Int) (hi : Int) (mu : Int) : Cn := .blk 23 [.i (min (min lo (healV r t.health)) (max 0 (r.opn - ma))), .i (min (min hi (healV r t.health)) (max 0 (r.opn - mu)))]
def refTaps_frK13 (t : TreeV) (r : RuleV) (y : Int) : Cn := .blk 23 [.i (tapsV (openV t r y) (openV t r y).worst), .i (tapsV (openV t r y) (openV t r y).best)]
set_option maxRecDepth 100000 in
theorem refTaps_fr (t : TreeV) (r : RuleV) (y : Int) (ht : t.holes.length ≤ 1000000) (hr : r.sizes.length ≤ 1000000) (h0 : startE t r y = 0) : CallFr Try.prog 27 [(refTaps_frA1 t), (refTaps_frA2 r), .i y] [1, 2] [some (.ro 3 t.holes.length (Lst eH t.holes)), some (.ro 2 r.sizes.length (Lst eZ r.sizes))] ((refTaps_frA3 t r y)) [] := by
 obtain ⟨k1, k2, k3⟩ := startE_0.1 h0
 have h1 := k1.len
 have h2 := k2.len
 have h3 := k2.opn
 have h4 := k1.health
 have h5 := k1.year
 have h6 := k1.hole
 refine callFr_of (fn := Try.f27) (by kernel_rfl) rfl (by kernel_rfl) (by kernel_rfl) fun E => ?_
 refine aw_ent (T := ⟨112, [1, 2], [(0, (refTaps_frA1 t)), (1, (refTaps_frA2 r)), (2, .i y)], [(1, some (refTaps_frK4 t)), (2, some (refTaps_frK5 r))]⟩) (Ent.refl _) ?_
 apply aw_seq
 refine awr [(0, .new 1003), (1, .new 1004), (2, .new 1006)]
  ⟨112, [1, 2], [(2, .i y), (3, .l (.ref 1003 0)), (4, .l (.ref 1004 0)), (6, .l (.ref 1006 0))], (refTaps_frH8 t r)⟩
  [] trivial ?_
 apply aw_seq
 refine awr [(2, .call [1] (.agg [.i ((girthV t y).low), .i ((girthV t y).high)]) []), (3, .new 1007)]
  ⟨112, [1, 2], [(2, .i y), (3, .l (.ref 1003 0)), (4, .l (.ref 1004 0)), (6, .l (.ref 1006 0)), (7, .l (.ref 1007 0)), (8, .i 0), (9, .i 0)], (refTaps_frH10 t r y)⟩
  [CallOK Try.prog 26 [(refTaps_frA1 t), .i y] [1] [some (refTaps_frK4 t)] (.agg [.i ((girthV t y).low), .i ((girthV t y).high)]) []] (al1 (cfr (refGirth_fr t y (by assumption) (by assumption)) [(1, 1)] (dem_cons rfl (le_ro rfl el_rfl) dem_nil))) ?_
 apply aw_seq
 apply aw_seq
 refine awr []
  ⟨112, [1, 2], [(2, .i y), (3, .l (.ref 1003 0)), (4, .l (.ref 1004 0)), (6, .l (.ref 1006 0)), (7, .l (.ref 1007 0)), (8, .i 0), (9, .i 0), (10, .i 0)], (refTaps_frH10 t r y)⟩
  [] trivial ?_
 apply aw_block
 refine aw_loop (ι := Nat × Int × Int) (fun zz => ⟨112, [1, 2], [(2, .i y), (3, .l (.ref 1003 0)), (4, .l (.ref 1004 0)), (6, .l (.ref 1006 0)), (7, .l (.ref 1007 0)), (8, .i zz.2.1), (9, .i zz.2.2), (10, .i (zz.1 : Int))], (refTaps_frH10 t r y)⟩) (fun zz => (zz.1 ≤ r.sizes.length) ∧ (sizeV (girthV t y).low zz.2.1 (r.sizes.drop zz.1) = sizeV (girthV t y).low 0 r.sizes) ∧ (sizeV (girthV t y).high zz.2.2 (r.sizes.drop zz.1) = sizeV (girthV t y).high 0 r.sizes)) (fun zz => r.sizes.length - zz.1) (0, 0, 0) ⟨(by (try dsimp only); first | omega | rfl | assumption | (simp; done)), (by (try dsimp only); first | omega | rfl | assumption | (simp; done)), (by (try dsimp only); first | omega | rfl | assumption | (simp; done))⟩
     (enr [] ⟨rfl, rfl, rfl, rfl, rfl, rfl, rfl, rfl, trivial⟩ (cro rfl (cro rfl (cbl rfl rfl (cbl rfl rfl (cbl rfl rfl (cbl rfl rfl trivial))))))) fun zz hp => ?_
 obtain ⟨i, lo, hi⟩ := zz
 obtain ⟨hiL, hs, hS⟩ := hp
 dsimp only at hiL hs hS
 show AW _ E _ _ ⟨112, [1, 2], [(2, .i y), (3, .l (.ref 1003 0)), (4, .l (.ref 1004 0)), (6, .l (.ref 1006 0)), (7, .l (.ref 1007 0)), (8, .i lo), (9, .i hi), (10, .i (i : Int))], (refTaps_frH10 t r y)⟩
 apply aw_seq
 apply aw_seq
 refine awr []
  ⟨112, [1, 2], [(2, .i y), (3, .l (.ref 1003 0)), (4, .l (.ref 1004 0)), (6, .l (.ref 1006 0)), (7, .l (.ref 1007 0)), (8, .i lo), (9, .i hi), (10, .i (i : Int)), (22, .b (decide ((i : Int) < (r.sizes.length : Int))))], (refTaps_frH10 t r y)⟩
  [] trivial ?_
 refine aw_cond (b := decide ((i : Int) < (r.sizes.length : Int))) rfl (fun h1 => ?_) (fun h1 => ?_)
 ·
  have h1p : (i : Int) < (r.sizes.length : Int) := dtr h1
  apply aw_skip
  apply aw_seq
  apply aw_block
  apply aw_seq
  apply aw_seq
  refine awd [(3, .idx i)]
   ⟨112, [1, 2], [(2, .i y), (3, .l (.ref 1003 0)), (4, .l (.ref 1004 0)), (6, .l (.ref 1006 0)), (7, .l (.ref 1007 0)), (8, .i lo), (9, .i hi), (10, .i (i : Int)), (33, .b (decide ((ix r.sizes i).girth ≤ (girthV t y).low)))], (refTaps_frH10 t r y)⟩
   [(i : Int) = (i : Int), i < r.sizes.length, i < r.sizes.length, i < r.sizes.length] (al2 (by omega) (al2 (by omega) (al2 (by omega) (al1 (by omega))))) ?_
  refine aw_cond (b := decide ((ix r.sizes i).girth ≤ (girthV t y).low)) rfl (fun h2 => ?_) (fun h2 => ?_)
  ·
   have h2p : (ix r.sizes i).girth ≤ (girthV t y).low := dtr h2
   refine awr [(3, .idx i)]
    ⟨112, [1, 2], [(2, .i y), (3, .l (.ref 1003 0)), (4, .l (.ref 1004 0)), (6, .l (.ref 1006 0)), (7, .l (.ref 1007 0)), (8, .i ((ix r.sizes i).taps)), (9, .i hi), (10, .i (i : Int))], (refTaps_frH10 t r y)⟩
    [(i : Int) = (i : Int), i < r.sizes.length, i < r.sizes.length, i < r.sizes.length] (al2 (by omega) (al2 (by omega) (al2 (by omega) (al1 (by omega))))) ?_
   apply aw_seq
   refine awd [(3, .idx i)]
    ⟨112, [1, 2], [(2, .i y), (3, .l (.ref 1003 0)), (4, .l (.ref 1004 0)), (6, .l (.ref 1006 0)), (7, .l (.ref 1007 0)), (8, .i ((ix r.sizes i).taps)), (9, .i hi), (10, .i (i : Int)), (48, .b (decide ((ix r.sizes i).girth ≤ (girthV t y).high)))], (refTaps_frH10 t r y)⟩
    [(i : Int) = (i : Int), i < r.sizes.length, i < r.sizes.length, i < r.sizes.length] (al2 (by omega) (al2 (by omega) (al2 (by omega) (al1 (by omega))))) ?_
   refine aw_cond (b := decide ((ix r.sizes i).girth ≤ (girthV t y).high)) rfl (fun h3 => ?_) (fun h3 => ?_)
   ·
    have h3p : (ix r.sizes i).girth ≤ (girthV t y).high := dtr h3
    refine awr [(3, .idx i)]
     ⟨112, [1, 2], [(2, .i y), (3, .l (.ref 1003 0)), (4, .l (.ref 1004 0)), (6, .l (.ref 1006 0)), (7, .l (.ref 1007 0)), (8, .i ((ix r.sizes i).taps)), (9, .i ((ix r.sizes i).taps)), (10, .i (i : Int))], (refTaps_frH10 t r y)⟩
     [(i : Int) = (i : Int), i < r.sizes.length, i < r.sizes.length, i < r.sizes.length] (al2 (by omega) (al2 (by omega) (al2 (by omega) (al1 (by omega))))) ?_
    refine awr [(1, .num (((i + 1) : Nat) : Int))]
     ⟨112, [1, 2], [(2, .i y), (3, .l (.ref 1003 0)), (4, .l (.ref 1004 0)), (6, .l (.ref 1006 0)), (7, .l (.ref 1007 0)), (8, .i ((ix r.sizes i).taps)), (9, .i ((ix r.sizes i).taps)), (10, .i (((i + 1) : Nat) : Int))], (refTaps_frH10 t r y)⟩
     [((i : Int) + 1) = (((i + 1) : Nat) : Int), -9223372036854775808 ≤ (((i + 1) : Nat) : Int) ∧ (((i + 1) : Nat) : Int) < 9223372036854775808] (al2 (by omega) (al1 (by omega))) ?_
    exact ⟨((i + 1), (ix r.sizes i).taps, (ix r.sizes i).taps), ⟨(by (try dsimp only); first | omega | rfl | assumption | (simp; done)), (by (try dsimp only); rw [← hs, drop_ix (l := r.sizes) (i := i) (by omega)]; simp only [sizeV]; first | rw [if_pos (by omega)] | rw [if_neg (by omega)]), (by (try dsimp only); rw [← hS, drop_ix (l := r.sizes) (i := i) (by omega)]; simp only [sizeV]; first | rw [if_pos (by omega)] | rw [if_neg (by omega)])⟩, (show r.sizes.length - (i + 1) < r.sizes.length - i by first | omega | rfl | assumption),
        (enr [] ⟨rfl, rfl, rfl, rfl, rfl, rfl, rfl, rfl, trivial⟩ (cro rfl (cro rfl (cbl rfl rfl (cbl rfl rfl (cbl rfl rfl (cbl rfl rfl trivial)))))))⟩
   ·
    have h3p : (girthV t y).high < (ix r.sizes i).girth := dle h3
    apply aw_skip
    refine awr [(1, .num (((i + 1) : Nat) : Int))]
     ⟨112, [1, 2], [(2, .i y), (3, .l (.ref 1003 0)), (4, .l (.ref 1004 0)), (6, .l (.ref 1006 0)), (7, .l (.ref 1007 0)), (8, .i ((ix r.sizes i).taps)), (9, .i hi), (10, .i (((i + 1) : Nat) : Int))], (refTaps_frH10 t r y)⟩
     [((i : Int) + 1) = (((i + 1) : Nat) : Int), -9223372036854775808 ≤ (((i + 1) : Nat) : Int) ∧ (((i + 1) : Nat) : Int) < 9223372036854775808] (al2 (by omega) (al1 (by omega))) ?_
    exact ⟨((i + 1), (ix r.sizes i).taps, hi), ⟨(by (try dsimp only); first | omega | rfl | assumption | (simp; done)), (by (try dsimp only); rw [← hs, drop_ix (l := r.sizes) (i := i) (by omega)]; simp only [sizeV]; first | rw [if_pos (by omega)] | rw [if_neg (by omega)]), (by (try dsimp only); rw [← hS, drop_ix (l := r.sizes) (i := i) (by omega)]; simp only [sizeV]; first | rw [if_pos (by omega)] | rw [if_neg (by omega)])⟩, (show r.sizes.length - (i + 1) < r.sizes.length - i by first | omega | rfl | assumption),
        (enr [] ⟨rfl, rfl, rfl, rfl, rfl, rfl, rfl, rfl, trivial⟩ (cro rfl (cro rfl (cbl rfl rfl (cbl rfl rfl (cbl rfl rfl (cbl rfl rfl trivial)))))))⟩
  ·
   have h2p : (girthV t y).low < (ix r.sizes i).girth := dle h2
   apply aw_skip
   apply aw_seq
   refine awd [(3, .idx i)]
    ⟨112, [1, 2], [(2, .i y), (3, .l (.ref 1003 0)), (4, .l (.ref 1004 0)), (6, .l (.ref 1006 0)), (7, .l (.ref 1007 0)), (8, .i lo), (9, .i hi), (10, .i (i : Int)), (48, .b (decide ((ix r.sizes i).girth ≤ (girthV t y).high)))], (refTaps_frH10 t r y)⟩
    [(i : Int) = (i : Int), i < r.sizes.length, i < r.sizes.length, i < r.sizes.length] (al2 (by omega) (al2 (by omega) (al2 (by omega) (al1 (by omega))))) ?_
   refine aw_cond (b := decide ((ix r.sizes i).girth ≤ (girthV t y).high)) rfl (fun h4 => ?_) (fun h4 => ?_)
   ·
    have h4p : (ix r.sizes i).girth ≤ (girthV t y).high := dtr h4
    refine awr [(3, .idx i)]
     ⟨112, [1, 2], [(2, .i y), (3, .l (.ref 1003 0)), (4, .l (.ref 1004 0)), (6, .l (.ref 1006 0)), (7, .l (.ref 1007 0)), (8, .i lo), (9, .i ((ix r.sizes i).taps)), (10, .i (i : Int))], (refTaps_frH10 t r y)⟩
     [(i : Int) = (i : Int), i < r.sizes.length, i < r.sizes.length, i < r.sizes.length] (al2 (by omega) (al2 (by omega) (al2 (by omega) (al1 (by omega))))) ?_
    refine awr [(1, .num (((i + 1) : Nat) : Int))]
     ⟨112, [1, 2], [(2, .i y), (3, .l (.ref 1003 0)), (4, .l (.ref 1004 0)), (6, .l (.ref 1006 0)), (7, .l (.ref 1007 0)), (8, .i lo), (9, .i ((ix r.sizes i).taps)), (10, .i (((i + 1) : Nat) : Int))], (refTaps_frH10 t r y)⟩
     [((i : Int) + 1) = (((i + 1) : Nat) : Int), -9223372036854775808 ≤ (((i + 1) : Nat) : Int) ∧ (((i + 1) : Nat) : Int) < 9223372036854775808] (al2 (by omega) (al1 (by omega))) ?_
    exact ⟨((i + 1), lo, (ix r.sizes i).taps), ⟨(by (try dsimp only); first | omega | rfl | assumption | (simp; done)), (by (try dsimp only); rw [← hs, drop_ix (l := r.sizes) (i := i) (by omega)]; simp only [sizeV]; first | rw [if_pos (by omega)] | rw [if_neg (by omega)]), (by (try dsimp only); rw [← hS, drop_ix (l := r.sizes) (i := i) (by omega)]; simp only [sizeV]; first | rw [if_pos (by omega)] | rw [if_neg (by omega)])⟩, (show r.sizes.length - (i + 1) < r.sizes.length - i by first | omega | rfl | assumption),
        (enr [] ⟨rfl, rfl, rfl, rfl, rfl, rfl, rfl, rfl, trivial⟩ (cro rfl (cro rfl (cbl rfl rfl (cbl rfl rfl (cbl rfl rfl (cbl rfl rfl trivial)))))))⟩
   ·
    have h4p : (girthV t y).high < (ix r.sizes i).girth := dle h4
    apply aw_skip
    refine awr [(1, .num (((i + 1) : Nat) : Int))]
     ⟨112, [1, 2], [(2, .i y), (3, .l (.ref 1003 0)), (4, .l (.ref 1004 0)), (6, .l (.ref 1006 0)), (7, .l (.ref 1007 0)), (8, .i lo), (9, .i hi), (10, .i (((i + 1) : Nat) : Int))], (refTaps_frH10 t r y)⟩
     [((i : Int) + 1) = (((i + 1) : Nat) : Int), -9223372036854775808 ≤ (((i + 1) : Nat) : Int) ∧ (((i + 1) : Nat) : Int) < 9223372036854775808] (al2 (by omega) (al1 (by omega))) ?_
    exact ⟨((i + 1), lo, hi), ⟨(by (try dsimp only); first | omega | rfl | assumption | (simp; done)), (by (try dsimp only); rw [← hs, drop_ix (l := r.sizes) (i := i) (by omega)]; simp only [sizeV]; first | rw [if_pos (by omega)] | rw [if_neg (by omega)]), (by (try dsimp only); rw [← hS, drop_ix (l := r.sizes) (i := i) (by omega)]; simp only [sizeV]; first | rw [if_pos (by omega)] | rw [if_neg (by omega)])⟩, (show r.sizes.length - (i + 1) < r.sizes.length - i by first | omega | rfl | assumption),
        (enr [] ⟨rfl, rfl, rfl, rfl, rfl, rfl, rfl, rfl, trivial⟩ (cro rfl (cro rfl (cbl rfl rfl (cbl rfl rfl (cbl rfl rfl (cbl rfl rfl trivial)))))))⟩
 ·
  have h1p : (r.sizes.length : Int) ≤ (i : Int) := dlt h1
  refine aw_exit (exit_then (exit_then (exit_in ?_)))
  apply aw_seq
  have z1 : lo = sizeV (girthV t y).low 0 r.sizes := by
   rw [← hs, List.drop_eq_nil_of_le (by omega)]
   rfl
  have z2 : hi = sizeV (girthV t y).high 0 r.sizes := by
   rw [← hS, List.drop_eq_nil_of_le (by omega)]
   rfl
  refine awr []
   ⟨112, [1, 2], [(2, .i y), (3, .l (.ref 1003 0)), (4, .l (.ref 1004 0)), (6, .l (.ref 1006 0)), (8, .i lo), (9, .i hi), (11, .i 0), (12, .i 0)], (refTaps_frH8 t r)⟩
   [] trivial ?_
  apply aw_seq
  apply aw_seq
  refine awr []
   ⟨112, [1, 2], [(2, .i y), (3, .l (.ref 1003 0)), (4, .l (.ref 1004 0)), (6, .l (.ref 1006 0)), (8, .i lo), (9, .i hi), (11, .i 0), (12, .i 0), (13, .i 0)], (refTaps_frH8 t r)⟩
   [] trivial ?_
  apply aw_block
  refine aw_loop (ι := Nat × Int × Int) (fun zz => ⟨112, [1, 2], [(2, .i y), (3, .l (.ref 1003 0)), (4, .l (.ref 1004 0)), (6, .l (.ref 1006 0)), (8, .i lo), (9, .i hi), (11, .i zz.2.1), (12, .i zz.2.2), (13, .i (zz.1 : Int))], (refTaps_frH8 t r)⟩) (fun zz => (zz.1 ≤ t.holes.length) ∧ (0 ≤ zz.2.1 ∧ zz.2.1 ≤ zz.1 ∧ 0 ≤ zz.2.2 ∧ zz.2.2 ≤ zz.1) ∧ (openN y (openV t r y).worst (r.opn - zz.2.1) (t.holes.drop zz.1) = openN y (openV t r y).worst r.opn t.holes) ∧ (openN y (openV t r y).best (r.opn - zz.2.2) (t.holes.drop zz.1) = openN y (openV t r y).best r.opn t.holes)) (fun zz => t.holes.length - zz.1) (0, 0, 0) ⟨(by (try dsimp only); first | omega | rfl | assumption | (simp; done)), (by (try dsimp only); first | omega | rfl | assumption | (simp; done)), (by (try dsimp only); rw [Int.sub_zero]; rfl), (by (try dsimp only); rw [Int.sub_zero]; rfl)⟩
      (enr [] ⟨rfl, rfl, rfl, rfl, rfl, rfl, rfl, rfl, rfl, trivial⟩ (cro rfl (cro rfl (cbl rfl rfl (cbl rfl rfl (cbl rfl rfl trivial)))))) fun zz hp => ?_
  obtain ⟨j, ma, mu⟩ := zz
  obtain ⟨hjL, hm, hw, hW⟩ := hp
  dsimp only at hjL hm hw hW
  show AW _ E _ _ ⟨112, [1, 2], [(2, .i y), (3, .l (.ref 1003 0)), (4, .l (.ref 1004 0)), (6, .l (.ref 1006 0)), (8, .i lo), (9, .i hi), (11, .i ma), (12, .i mu), (13, .i (j : Int))], (refTaps_frH8 t r)⟩
  apply aw_seq
  apply aw_seq
  refine awr []
   ⟨112, [1, 2], [(2, .i y), (3, .l (.ref 1003 0)), (4, .l (.ref 1004 0)), (6, .l (.ref 1006 0)), (8, .i lo), (9, .i hi), (11, .i ma), (12, .i mu), (13, .i (j : Int)), (59, .b (decide ((j : Int) < (t.holes.length : Int))))], (refTaps_frH8 t r)⟩
   [] trivial ?_
  refine aw_cond (b := decide ((j : Int) < (t.holes.length : Int))) rfl (fun h5 => ?_) (fun h5 => ?_)
  ·
   have h5p : (j : Int) < (t.holes.length : Int) := dtr h5
   apply aw_skip
   apply aw_seq
   apply aw_block
   apply aw_seq
   apply aw_seq
   have q := h6 _ (ix_mem (l := t.holes) (i := j) (by omega))
   have q1 := q.1
   refine awd [(4, .idx j)]
    ⟨112, [1, 2], [(2, .i y), (3, .l (.ref 1003 0)), (4, .l (.ref 1004 0)), (6, .l (.ref 1006 0)), (8, .i lo), (9, .i hi), (11, .i ma), (12, .i mu), (13, .i (j : Int)), (73, .b (decide ((y - (ix t.holes j).year) < r.hhi)))], (refTaps_frH8 t r)⟩
    [(j : Int) = (j : Int), j < t.holes.length, j < t.holes.length, j < t.holes.length, -9223372036854775808 ≤ (y - (ix t.holes j).year) ∧ (y - (ix t.holes j).year) < 9223372036854775808] (al2 (by omega) (al2 (by omega) (al2 (by omega) (al2 (by omega) (al1 (by omega)))))) ?_
   refine aw_cond (b := decide ((y - (ix t.holes j).year) < r.hhi)) rfl (fun h6 => ?_) (fun h6 => ?_)
   ·
    have h6p : (y - (ix t.holes j).year) < r.hhi := dtr h6
    refine awr []
     ⟨112, [1, 2], [(2, .i y), (3, .l (.ref 1003 0)), (4, .l (.ref 1004 0)), (6, .l (.ref 1006 0)), (8, .i lo), (9, .i hi), (11, .i (ma + 1)), (12, .i mu), (13, .i (j : Int))], (refTaps_frH8 t r)⟩
     [-9223372036854775808 ≤ (ma + 1) ∧ (ma + 1) < 9223372036854775808] (al1 (by omega)) ?_
    apply aw_seq
    refine awd [(4, .idx j)]
     ⟨112, [1, 2], [(2, .i y), (3, .l (.ref 1003 0)), (4, .l (.ref 1004 0)), (6, .l (.ref 1006 0)), (8, .i lo), (9, .i hi), (11, .i (ma + 1)), (12, .i mu), (13, .i (j : Int)), (87, .b (decide ((y - (ix t.holes j).year) < r.hlo)))], (refTaps_frH8 t r)⟩
     [(j : Int) = (j : Int), j < t.holes.length, j < t.holes.length, j < t.holes.length, -9223372036854775808 ≤ (y - (ix t.holes j).year) ∧ (y - (ix t.holes j).year) < 9223372036854775808] (al2 (by omega) (al2 (by omega) (al2 (by omega) (al2 (by omega) (al1 (by omega)))))) ?_
    refine aw_cond (b := decide ((y - (ix t.holes j).year) < r.hlo)) rfl (fun h7 => ?_) (fun h7 => ?_)
    ·
     have h7p : (y - (ix t.holes j).year) < r.hlo := dtr h7
     refine awr []
      ⟨112, [1, 2], [(2, .i y), (3, .l (.ref 1003 0)), (4, .l (.ref 1004 0)), (6, .l (.ref 1006 0)), (8, .i lo), (9, .i hi), (11, .i (ma + 1)), (12, .i (mu + 1)), (13, .i (j : Int))], (refTaps_frH8 t r)⟩
      [-9223372036854775808 ≤ (mu + 1) ∧ (mu + 1) < 9223372036854775808] (al1 (by omega)) ?_
     refine awr [(1, .num (((j + 1) : Nat) : Int))]
      ⟨112, [1, 2], [(2, .i y), (3, .l (.ref 1003 0)), (4, .l (.ref 1004 0)), (6, .l (.ref 1006 0)), (8, .i lo), (9, .i hi), (11, .i (ma + 1)), (12, .i (mu + 1)), (13, .i (((j + 1) : Nat) : Int))], (refTaps_frH8 t r)⟩
      [((j : Int) + 1) = (((j + 1) : Nat) : Int), -9223372036854775808 ≤ (((j + 1) : Nat) : Int) ∧ (((j + 1) : Nat) : Int) < 9223372036854775808] (al2 (by omega) (al1 (by omega))) ?_
     exact ⟨((j + 1), (ma + 1), (mu + 1)), ⟨(by (try dsimp only); first | omega | rfl | assumption | (simp; done)), (by (try dsimp only); first | omega | rfl | assumption | (simp; done)), (by (try dsimp only); rw [← hw]; exact open_step (by omega) (by first | exact .inl ⟨by assumption, by omega⟩ | exact .inr ⟨by assumption, rfl⟩)), (by (try dsimp only); rw [← hW]; exact open_step (by omega) (by first | exact .inl ⟨by assumption, by omega⟩ | exact .inr ⟨by assumption, rfl⟩))⟩, (show t.holes.length - (j + 1) < t.holes.length - j by first | omega | rfl | assumption),
         (enr [] ⟨rfl, rfl, rfl, rfl, rfl, rfl, rfl, rfl, rfl, trivial⟩ (cro rfl (cro rfl (cbl rfl rfl (cbl rfl rfl (cbl rfl rfl trivial))))))⟩
    ·
     have h7p : r.hlo ≤ (y - (ix t.holes j).year) := dlt h7
     apply aw_skip
     refine awr [(1, .num (((j + 1) : Nat) : Int))]
      ⟨112, [1, 2], [(2, .i y), (3, .l (.ref 1003 0)), (4, .l (.ref 1004 0)), (6, .l (.ref 1006 0)), (8, .i lo), (9, .i hi), (11, .i (ma + 1)), (12, .i mu), (13, .i (((j + 1) : Nat) : Int))], (refTaps_frH8 t r)⟩
      [((j : Int) + 1) = (((j + 1) : Nat) : Int), -9223372036854775808 ≤ (((j + 1) : Nat) : Int) ∧ (((j + 1) : Nat) : Int) < 9223372036854775808] (al2 (by omega) (al1 (by omega))) ?_
     exact ⟨((j + 1), (ma + 1), mu), ⟨(by (try dsimp only); first | omega | rfl | assumption | (simp; done)), (by (try dsimp only); first | omega | rfl | assumption | (simp; done)), (by (try dsimp only); rw [← hw]; exact open_step (by omega) (by first | exact .inl ⟨by assumption, by omega⟩ | exact .inr ⟨by assumption, rfl⟩)), (by (try dsimp only); rw [← hW]; exact open_step (by omega) (by first | exact .inl ⟨by assumption, by omega⟩ | exact .inr ⟨by assumption, rfl⟩))⟩, (show t.holes.length - (j + 1) < t.holes.length - j by first | omega | rfl | assumption),
         (enr [] ⟨rfl, rfl, rfl, rfl, rfl, rfl, rfl, rfl, rfl, trivial⟩ (cro rfl (cro rfl (cbl rfl rfl (cbl rfl rfl (cbl rfl rfl trivial))))))⟩
   ·
    have h6p : r.hhi ≤ (y - (ix t.holes j).year) := dlt h6
    apply aw_skip
    apply aw_seq
    refine awd [(4, .idx j)]
     ⟨112, [1, 2], [(2, .i y), (3, .l (.ref 1003 0)), (4, .l (.ref 1004 0)), (6, .l (.ref 1006 0)), (8, .i lo), (9, .i hi), (11, .i ma), (12, .i mu), (13, .i (j : Int)), (87, .b (decide ((y - (ix t.holes j).year) < r.hlo)))], (refTaps_frH8 t r)⟩
     [(j : Int) = (j : Int), j < t.holes.length, j < t.holes.length, j < t.holes.length, -9223372036854775808 ≤ (y - (ix t.holes j).year) ∧ (y - (ix t.holes j).year) < 9223372036854775808] (al2 (by omega) (al2 (by omega) (al2 (by omega) (al2 (by omega) (al1 (by omega)))))) ?_
    refine aw_cond (b := decide ((y - (ix t.holes j).year) < r.hlo)) rfl (fun h8 => ?_) (fun h8 => ?_)
    ·
     have h8p : (y - (ix t.holes j).year) < r.hlo := dtr h8
     refine awr []
      ⟨112, [1, 2], [(2, .i y), (3, .l (.ref 1003 0)), (4, .l (.ref 1004 0)), (6, .l (.ref 1006 0)), (8, .i lo), (9, .i hi), (11, .i ma), (12, .i (mu + 1)), (13, .i (j : Int))], (refTaps_frH8 t r)⟩
      [-9223372036854775808 ≤ (mu + 1) ∧ (mu + 1) < 9223372036854775808] (al1 (by omega)) ?_
     refine awr [(1, .num (((j + 1) : Nat) : Int))]
      ⟨112, [1, 2], [(2, .i y), (3, .l (.ref 1003 0)), (4, .l (.ref 1004 0)), (6, .l (.ref 1006 0)), (8, .i lo), (9, .i hi), (11, .i ma), (12, .i (mu + 1)), (13, .i (((j + 1) : Nat) : Int))], (refTaps_frH8 t r)⟩
      [((j : Int) + 1) = (((j + 1) : Nat) : Int), -9223372036854775808 ≤ (((j + 1) : Nat) : Int) ∧ (((j + 1) : Nat) : Int) < 9223372036854775808] (al2 (by omega) (al1 (by omega))) ?_
     exact ⟨((j + 1), ma, (mu + 1)), ⟨(by (try dsimp only); first | omega | rfl | assumption | (simp; done)), (by (try dsimp only); first | omega | rfl | assumption | (simp; done)), (by (try dsimp only); rw [← hw]; exact open_step (by omega) (by first | exact .inl ⟨by assumption, by omega⟩ | exact .inr ⟨by assumption, rfl⟩)), (by (try dsimp only); rw [← hW]; exact open_step (by omega) (by first | exact .inl ⟨by assumption, by omega⟩ | exact .inr ⟨by assumption, rfl⟩))⟩, (show t.holes.length - (j + 1) < t.holes.length - j by first | omega | rfl | assumption),
         (enr [] ⟨rfl, rfl, rfl, rfl, rfl, rfl, rfl, rfl, rfl, trivial⟩ (cro rfl (cro rfl (cbl rfl rfl (cbl rfl rfl (cbl rfl rfl trivial))))))⟩
    ·
     have h8p : r.hlo ≤ (y - (ix t.holes j).year) := dlt h8
     apply aw_skip
     refine awr [(1, .num (((j + 1) : Nat) : Int))]
      ⟨112, [1, 2], [(2, .i y), (3, .l (.ref 1003 0)), (4, .l (.ref 1004 0)), (6, .l (.ref 1006 0)), (8, .i lo), (9, .i hi), (11, .i ma), (12, .i mu), (13, .i (((j + 1) : Nat) : Int))], (refTaps_frH8 t r)⟩
      [((j : Int) + 1) = (((j + 1) : Nat) : Int), -9223372036854775808 ≤ (((j + 1) : Nat) : Int) ∧ (((j + 1) : Nat) : Int) < 9223372036854775808] (al2 (by omega) (al1 (by omega))) ?_
     exact ⟨((j + 1), ma, mu), ⟨(by (try dsimp only); first | omega | rfl | assumption | (simp; done)), (by (try dsimp only); first | omega | rfl | assumption | (simp; done)), (by (try dsimp only); rw [← hw]; exact open_step (by omega) (by first | exact .inl ⟨by assumption, by omega⟩ | exact .inr ⟨by assumption, rfl⟩)), (by (try dsimp only); rw [← hW]; exact open_step (by omega) (by first | exact .inl ⟨by assumption, by omega⟩ | exact .inr ⟨by assumption, rfl⟩))⟩, (show t.holes.length - (j + 1) < t.holes.length - j by first | omega | rfl | assumption),
         (enr [] ⟨rfl, rfl, rfl, rfl, rfl, rfl, rfl, rfl, rfl, trivial⟩ (cro rfl (cro rfl (cbl rfl rfl (cbl rfl rfl (cbl rfl rfl trivial))))))⟩
  ·
   have h5p : (t.holes.length : Int) ≤ (j : Int) := dlt h5
   refine aw_exit (exit_then (exit_then (exit_in ?_)))
   apply aw_seq
   have z3 : r.opn - ma = openN y (openV t r y).worst r.opn t.holes := by
    rw [← hw, List.drop_eq_nil_of_le (by omega)]
    rfl
   have z4 : r.opn - mu = openN y (openV t r y).best r.opn t.holes := by
    rw [← hW, List.drop_eq_nil_of_le (by omega)]
    rfl
   refine awr [(3, .act [1004] (.l (.ref 1004 (10 + t.health.toNat * 1))) []), (4, .act [1004] (.i (healV r t.health)) [])]
    ⟨112, [1, 2], [(4, .l (.ref 1004 0)), (6, .l (.ref 1006 0)), (8, .i lo), (9, .i hi), (11, .i ma), (12, .i mu), (14, .i (healV r t.health))], (refTaps_frH11 r)⟩
    [ActOK Try.prog (.indexAddr 28 (.tmp 92) (.tmp 91)) 0 [.l (.ref 1004 10), .i t.health] [1004] [some (refTaps_frK7 r)] (.l (.ref 1004 (10 + t.health.toNat * 1))) [], ActOK Try.prog (.load 3 (.tmp 93)) 3 [.l (.ref 1004 (10 + t.health.toNat * 1))] [1004] [some (refTaps_frK7 r)] (.i (healV r t.health)) []] (al2 (act_idxAt2 (k := t.health.toNat) (n := 5) (e := 3) (m := 1) (by kernel_rfl) (by kernel_rfl) rfl (by omega) (by omega) (by omega)) (al1 (act_loadAt (by kernel_rfl) rfl (by rcases (show t.health = 0 ∨ t.health = 1 ∨ t.health = 2 ∨ t.health = 3 ∨ t.health = 4 by omega) with e | e | e | e | e <;> rw [e] <;> rfl)))) ?_
   apply aw_seq
   refine awr []
    ⟨112, [1, 2], [(6, .l (.ref 1006 0))], [(1006, some (refTaps_frK12 lo r t ma hi mu))]⟩
    [-9223372036854775808 ≤ (r.opn - ma) ∧ (r.opn - ma) < 9223372036854775808, -9223372036854775808 ≤ (r.opn - mu) ∧ (r.opn - mu) < 9223372036854775808] (al2 (by omega) (al1 (by omega))) ?_
   exact aw_ret ⟨.inr rfl, eok ⟨112, [1, 2], [(6, .l (.ref 8006 0))], [(8006, some (refTaps_frK13 t r y))]⟩
       (enr [(8006, 1006)] ⟨rfl, trivial⟩ (cbl rfl (by exact (cells_cons (cell_i (by first | rfl | omega | assumption | (rw [z1, z3]; rfl) | (rw [z2, z4]; rfl))) (cells_cons (cell_i (by first | rfl | omega | assumption | (rw [z1, z3]; rfl) | (rw [z2, z4]; rfl))) rfl))) trivial)) wr_nil⟩
end Go.Proofs.Ytbpblhmigijkaaa
