/- The reference and the laws own functions. -/
import Derived.Test.YtbpblhmigijkaaaTk
import Derived.Test.YtbpblhmigijkaaaTq
namespace Go.Proofs.Ytbpblhmigijkaaa
open Go.RowKit
set_option linter.unusedVariables false
set_option linter.unusedSimpArgs false
set_option maxRecDepth 100000 in
theorem refIn_fr (n lo hi : Int) : CallFr Try.prog 63 [.i n, .i lo, .i hi] [] [] (.b (within lo hi [n])) [] := by
 refine callFr_of (fn := Try.f63) (by kernel_rfl) rfl (by kernel_rfl) (by kernel_rfl) fun E => ?_
 refine aw_ent (T := ⟨15, [], [(0, .i n), (1, .i lo), (2, .i hi)], []⟩) (Ent.refl _) ?_
 refine aw_seq ?_
 refine aw_r []
  ⟨15, [], [(0, .i n), (1, .i lo), (2, .i hi)], []⟩
  [] (by kernel_rfl) trivial ?_
 refine aw_seq ?_
 rcases Bool.eq_false_or_eq_true (decide (lo ≤ n)) with h1 | h1
 ·
  have h1p : lo ≤ n := dtr h1
  refine aw_r [(3, .dec true)]
   ⟨15, [], [(6, .b (decide (n ≤ hi)))], []⟩
   [decide (lo ≤ n) = true] (by kernel_rfl) (al1 h1) ?_
  exact aw_ret ⟨.inr rfl, end_ok ⟨15, [], [(6, .b (within lo hi [n]))], []⟩
      (Ent.ren [] rfl rfl (by kernel_rfl) ⟨(slot_b (a := decide (n ≤ hi)) rfl (by first | rfl | omega | assumption | (rw [within1b]; simp [*]))), trivial⟩ trivial (by kernel_rfl)) rfl (by kernel_rfl) wr_nil (by kernel_rfl)⟩
 ·
  have h1p : n < lo := dle h1
  refine aw_r [(3, .dec false)]
   ⟨15, [], [(6, .b false)], []⟩
   [decide (lo ≤ n) = false] (by kernel_rfl) (al1 h1) ?_
  exact aw_ret ⟨.inr rfl, end_ok ⟨15, [], [(6, .b (within lo hi [n]))], []⟩
      (Ent.ren [] rfl rfl (by kernel_rfl) ⟨(slot_b (a := false) rfl (by first | rfl | omega | assumption | (rw [within1b]; simp [*]))), trivial⟩ trivial (by kernel_rfl)) rfl (by kernel_rfl) wr_nil (by kernel_rfl)⟩
set_option maxRecDepth 100000 in
theorem refSpan_fr (a b lo hi : Int) : CallFr Try.prog 64 [.agg [.i a, .i b], .i lo, .i hi] [] [] (.b (rangeB a b lo hi)) [] := by
 refine callFr_of (fn := Try.f64) (by kernel_rfl) rfl (by kernel_rfl) (by kernel_rfl) fun E => ?_
 refine aw_ent (T := ⟨20, [], [(0, .agg [.i a, .i b]), (1, .i lo), (2, .i hi)], []⟩) (Ent.refl _) ?_
 refine aw_seq ?_
 refine aw_r [(0, .new 1003)]
  ⟨20, [], [(1, .i lo), (2, .i hi), (3, .l (.ref 1003 0))], [(1003, some (.blk 23 [.i a, .i b]))]⟩
  [] (by kernel_rfl) trivial ?_
 refine aw_seq ?_
 rcases Bool.eq_false_or_eq_true ((within lo hi [a])) with h1 | h1
 ·
  refine aw_r [(4, .call [] (.b (within lo hi [a])) []), (5, .dec true), (11, .call [] (.b (within a hi [b])) [])]
   ⟨20, [], [(6, .b (within a hi [b]))], []⟩
   [CallOK Try.prog 63 [.i a, .i lo, .i hi] [] [] (.b (within lo hi [a])) [], (within lo hi [a]) = true, CallOK Try.prog 63 [.i b, .i a, .i hi] [] [] (.b (within a hi [b])) []] (by kernel_rfl) (al2 (CallFr.to (refIn_fr a lo hi) [] (by kernel_rfl) (by kernel_rfl) (by kernel_rfl) (by kernel_rfl) (by kernel_rfl) dem_nil) (al2 h1 (al1 (CallFr.to (refIn_fr b a hi) [] (by kernel_rfl) (by kernel_rfl) (by kernel_rfl) (by kernel_rfl) (by kernel_rfl) dem_nil)))) ?_
  exact aw_ret ⟨.inr rfl, end_ok ⟨20, [], [(6, .b (rangeB a b lo hi))], []⟩
      (Ent.ren [] rfl rfl (by kernel_rfl) ⟨(slot_b (a := (within a hi [b])) rfl (by first | rfl | omega | assumption | (rw [rangeB_eq]; simp [*]))), trivial⟩ trivial (by kernel_rfl)) rfl (by kernel_rfl) wr_nil (by kernel_rfl)⟩
 ·
  refine aw_r [(4, .call [] (.b (within lo hi [a])) []), (5, .dec false)]
   ⟨20, [], [(6, .b false)], []⟩
   [CallOK Try.prog 63 [.i a, .i lo, .i hi] [] [] (.b (within lo hi [a])) [], (within lo hi [a]) = false] (by kernel_rfl) (al2 (CallFr.to (refIn_fr a lo hi) [] (by kernel_rfl) (by kernel_rfl) (by kernel_rfl) (by kernel_rfl) (by kernel_rfl) dem_nil) (al1 h1)) ?_
  exact aw_ret ⟨.inr rfl, end_ok ⟨20, [], [(6, .b (rangeB a b lo hi))], []⟩
      (Ent.ren [] rfl rfl (by kernel_rfl) ⟨(slot_b (a := false) rfl (by first | rfl | omega | assumption | (rw [rangeB_eq]; simp [*]))), trivial⟩ trivial (by kernel_rfl)) rfl (by kernel_rfl) wr_nil (by kernel_rfl)⟩
set_option maxRecDepth 100000 in
theorem refOn_fr (l : List Spt) (hl : l.length ≤ 1000000) : CallFr Try.prog 39 [.ls 0] [0] [some (.ro 2 l.length (Lst eS l))] (.b (spotsB l)) [] := by
 refine callFr_of (fn := Try.f39) (by kernel_rfl) rfl (by kernel_rfl) (by kernel_rfl) fun E => ?_
 refine aw_ent (T := ⟨26, [0], [(0, .ls 0)], [(0, some (.ro 2 l.length (Lst eS l)))]⟩) (Ent.refl _) ?_
 refine aw_seq ?_
 refine aw_r []
  ⟨26, [0], [(0, .ls 0)], [(0, some (.ro 2 l.length (Lst eS l)))]⟩
  [] (by kernel_rfl) trivial ?_
 refine aw_seq ?_
 refine aw_seq ?_
 refine aw_r []
  ⟨26, [0], [(0, .ls 0), (3, .i 0)], [(0, some (.ro 2 l.length (Lst eS l)))]⟩
  [] (by kernel_rfl) trivial ?_
 refine aw_block ?_
 refine aw_loop (ι := Nat) (fun zz => ⟨26, [0], [(0, .ls 0), (3, .i ((zz : Nat) : Int))], [(0, some (.ro 2 l.length (Lst eS l)))]⟩) (fun zz => (zz ≤ l.length) ∧ (∀ j, j < zz → spotOut (ix l j) = false)) (fun zz => l.length - zz) 0 ⟨(by first | omega | rfl | assumption | (simp; done)), (by intro j hj; omega)⟩
     (Ent.ren [] rfl rfl (by kernel_rfl) ⟨rfl, rfl, trivial⟩ (cro rfl trivial) (by kernel_rfl)) fun zz hp => ?_
 obtain ⟨i, rfl⟩ : ∃ x, x = zz := ⟨_, rfl⟩
 obtain ⟨hiL, hp⟩ := hp
 show AW _ E _ _ ⟨26, [0], [(0, .ls 0), (3, .i ((i : Nat) : Int))], [(0, some (.ro 2 l.length (Lst eS l)))]⟩
 refine aw_seq ?_
 refine aw_seq ?_
 refine aw_r []
  ⟨26, [0], [(0, .ls 0), (3, .i ((i : Nat) : Int)), (7, .b (decide (((i : Nat) : Int) < ((l.length : Nat) : Int))))], [(0, some (.ro 2 l.length (Lst eS l)))]⟩
  [] (by kernel_rfl) trivial ?_
 refine aw_cond (b := decide (((i : Nat) : Int) < ((l.length : Nat) : Int))) rfl (fun h1 => ?_) (fun h1 => ?_)
 ·
  have h1p : ((i : Nat) : Int) < ((l.length : Nat) : Int) := dtr h1
  refine aw_skip ?_
  refine aw_seq ?_
  refine aw_block ?_
  refine aw_seq ?_
  rcases Bool.eq_false_or_eq_true ((!(within 0 3599 [((ix l i).angle)]))) with h2 | h2
  ·
   refine aw_r [(2, .idx i), (5, .call [] (.b (within 0 3599 [((ix l i).angle)])) []), (7, .dec true)]
    ⟨26, [0], [(0, .ls 0), (3, .i ((i : Nat) : Int)), (25, .b true)], [(0, some (.ro 2 l.length (Lst eS l)))]⟩
    [((i : Nat) : Int) = ((i : Nat) : Int), i < l.length, i < l.length, i < l.length, CallOK Try.prog 63 [.i ((ix l i).angle), .i 0, .i 3599] [] [] (.b (within 0 3599 [((ix l i).angle)])) [], (!(within 0 3599 [((ix l i).angle)])) = true] (by kernel_rfl) (al2 (by omega) (al2 (by omega) (al2 (by omega) (al2 (by omega) (al2 (CallFr.to (refIn_fr ((ix l i).angle) 0 3599) [] (by kernel_rfl) (by kernel_rfl) (by kernel_rfl) (by kernel_rfl) (by kernel_rfl) dem_nil) (al1 h2)))))) ?_
   refine aw_true rfl ?_
   refine aw_seq ?_
   have hf : spotsB l = false := by
    unfold spotsB
    rw [any_at (i := i) (by omega) (by simp [spotOut, *])]
    rfl
   refine aw_r []
    ⟨26, [0], [(2, .b false)], []⟩
    [] (by kernel_rfl) trivial ?_
   exact aw_ret (ret_block (ret_then (ret_then (ret_block (ret_then ⟨.inr rfl, end_ok ⟨26, [0], [(2, .b (spotsB l))], []⟩
       (Ent.ren [] rfl rfl (by kernel_rfl) ⟨(slot_b (a := false) rfl (by first | rfl | omega | assumption | (rw [hf]))), trivial⟩ trivial (by kernel_rfl)) rfl (by kernel_rfl) wr_nil (by kernel_rfl)⟩)))))
  ·
   refine aw_r [(2, .idx i), (5, .call [] (.b (within 0 3599 [((ix l i).angle)])) []), (7, .dec false), (10, .idx i), (13, .call [] (.b (within 0 5000 [((ix l i).height)])) [])]
    ⟨26, [0], [(0, .ls 0), (3, .i ((i : Nat) : Int)), (25, .b (!(within 0 5000 [((ix l i).height)])))], [(0, some (.ro 2 l.length (Lst eS l)))]⟩
    [((i : Nat) : Int) = ((i : Nat) : Int), i < l.length, i < l.length, i < l.length, CallOK Try.prog 63 [.i ((ix l i).angle), .i 0, .i 3599] [] [] (.b (within 0 3599 [((ix l i).angle)])) [], (!(within 0 3599 [((ix l i).angle)])) = false, ((i : Nat) : Int) = ((i : Nat) : Int), i < l.length, i < l.length, i < l.length, CallOK Try.prog 63 [.i ((ix l i).height), .i 0, .i 5000] [] [] (.b (within 0 5000 [((ix l i).height)])) []] (by kernel_rfl) (al2 (by omega) (al2 (by omega) (al2 (by omega) (al2 (by omega) (al2 (CallFr.to (refIn_fr ((ix l i).angle) 0 3599) [] (by kernel_rfl) (by kernel_rfl) (by kernel_rfl) (by kernel_rfl) (by kernel_rfl) dem_nil) (al2 h2 (al2 (by omega) (al2 (by omega) (al2 (by omega) (al2 (by omega) (al1 (CallFr.to (refIn_fr ((ix l i).height) 0 5000) [] (by kernel_rfl) (by kernel_rfl) (by kernel_rfl) (by kernel_rfl) (by kernel_rfl) dem_nil)))))))))))) ?_
   refine aw_cond (b := (!(within 0 5000 [((ix l i).height)]))) rfl (fun h3 => ?_) (fun h3 => ?_)
   ·
    refine aw_seq ?_
    have hf : spotsB l = false := by
     unfold spotsB
     rw [any_at (i := i) (by omega) (by simp [spotOut, *])]
     rfl
    refine aw_r []
     ⟨26, [0], [(2, .b false)], []⟩
     [] (by kernel_rfl) trivial ?_
    exact aw_ret (ret_block (ret_then (ret_then (ret_block (ret_then ⟨.inr rfl, end_ok ⟨26, [0], [(2, .b (spotsB l))], []⟩
        (Ent.ren [] rfl rfl (by kernel_rfl) ⟨(slot_b (a := false) rfl (by first | rfl | omega | assumption | (rw [hf]))), trivial⟩ trivial (by kernel_rfl)) rfl (by kernel_rfl) wr_nil (by kernel_rfl)⟩)))))
   ·
    refine aw_skip ?_
    refine aw_r [(1, .num (((i + 1) : Nat) : Int))]
     ⟨26, [0], [(0, .ls 0), (3, .i (((i + 1) : Nat) : Int))], [(0, some (.ro 2 l.length (Lst eS l)))]⟩
     [(((i : Nat) : Int) + 1) = (((i + 1) : Nat) : Int), -9223372036854775808 ≤ (((i + 1) : Nat) : Int) ∧ (((i + 1) : Nat) : Int) < 9223372036854775808] (by kernel_rfl) (al2 (by omega) (al1 (by omega))) ?_
    exact ⟨(i + 1), ⟨(by first | omega | rfl | assumption | (simp; done)), (by exact all_snoc hp (by simp [spotOut, *]))⟩, (show l.length - (i + 1) < l.length - i by first | omega | rfl | assumption),
        (Ent.ren [] rfl rfl (by kernel_rfl) ⟨rfl, rfl, trivial⟩ (cro rfl trivial) (by kernel_rfl))⟩
 ·
  have h1p : ((l.length : Nat) : Int) ≤ ((i : Nat) : Int) := dlt h1
  refine aw_exit (exit_then (exit_then (exit_in ?_)))
  refine aw_seq ?_
  have hf : spotsB l = true := by
   unfold spotsB
   rw [any_no hp (by omega)]
   rfl
  refine aw_r []
   ⟨26, [0], [(2, .b true)], []⟩
   [] (by kernel_rfl) trivial ?_
  exact aw_ret ⟨.inr rfl, end_ok ⟨26, [0], [(2, .b (spotsB l))], []⟩
      (Ent.ren [] rfl rfl (by kernel_rfl) ⟨(slot_b (a := true) rfl (by first | rfl | omega | assumption | (rw [hf]))), trivial⟩ trivial (by kernel_rfl)) rfl (by kernel_rfl) wr_nil (by kernel_rfl)⟩
def refTree_frK1 (t : TreeV) : Cn := .ro 3 t.holes.length (Lst eH t.holes)
def refTree_frK2 (t : TreeV) : Cn := .blk 26 [.i t.year, .i t.glo, .i t.ghi, .i t.wlo, .i t.whi, .i t.health, .ls 1]
def refTree_frK3 (t : TreeV) (i : Nat) : Cn := .vec 72 2 1 (exEl 2 [.i ((ix t.holes i).angle), .i ((ix t.holes i).height)])
set_option maxRecDepth 100000 in
theorem refTree_fr (t : TreeV) (ht : t.holes.length ≤ 1000000) : CallFr Try.prog 22 [.agg [.i t.year, .i t.glo, .i t.ghi, .i t.wlo, .i t.whi, .i t.health, .ls 1]] [1] [some (.ro 3 t.holes.length (Lst eH t.holes))] (.b (treeB t)) [] := by
 refine callFr_of (fn := Try.f22) (by kernel_rfl) rfl (by kernel_rfl) (by kernel_rfl) fun E => ?_
 refine aw_ent (T := ⟨58, [1], [(0, .agg [.i t.year, .i t.glo, .i t.ghi, .i t.wlo, .i t.whi, .i t.health, .ls 1])], [(1, some (refTree_frK1 t))]⟩) (Ent.refl _) ?_
 refine aw_seq ?_
 refine aw_r [(0, .new 1001)]
  ⟨58, [1], [(1, .l (.ref 1001 0))], [(1, some (refTree_frK1 t)), (1001, some (refTree_frK2 t))]⟩
  [] (by kernel_rfl) trivial ?_
 refine aw_seq ?_
 refine aw_seq ?_
 rcases Bool.eq_false_or_eq_true ((!(within 0 9999 [t.year]))) with h1 | h1
 ·
  refine aw_r [(2, .call [] (.b (within 0 9999 [t.year])) []), (4, .dec true)]
   ⟨58, [1], [(1, .l (.ref 1001 0)), (31, .b true)], [(1, some (refTree_frK1 t)), (1001, some (refTree_frK2 t))]⟩
   [CallOK Try.prog 63 [.i t.year, .i 0, .i 9999] [] [] (.b (within 0 9999 [t.year])) [], (!(within 0 9999 [t.year])) = true] (by kernel_rfl) (al2 (CallFr.to (refIn_fr t.year 0 9999) [] (by kernel_rfl) (by kernel_rfl) (by kernel_rfl) (by kernel_rfl) (by kernel_rfl) dem_nil) (al1 h1)) ?_
  refine aw_true rfl ?_
  refine aw_seq ?_
  refine aw_r []
   ⟨58, [1], [(2, .b false)], []⟩
   [] (by kernel_rfl) trivial ?_
  exact aw_ret (ret_then ⟨.inr rfl, end_ok ⟨58, [1], [(2, .b (treeB t))], []⟩
      (Ent.ren [] rfl rfl (by kernel_rfl) ⟨(slot_b (a := false) rfl (by first | rfl | omega | assumption | (simp only [treeB, *] <;> simp_all))), trivial⟩ trivial (by kernel_rfl)) rfl (by kernel_rfl) wr_nil (by kernel_rfl)⟩)
 ·
  rcases Bool.eq_false_or_eq_true ((!(rangeB t.glo t.ghi 1 10000))) with h2 | h2
  ·
   refine aw_r [(2, .call [] (.b (within 0 9999 [t.year])) []), (4, .dec false), (7, .call [] (.b (rangeB t.glo t.ghi 1 10000)) []), (10, .dec true)]
    ⟨58, [1], [(1, .l (.ref 1001 0)), (31, .b true)], [(1, some (refTree_frK1 t)), (1001, some (refTree_frK2 t))]⟩
    [CallOK Try.prog 63 [.i t.year, .i 0, .i 9999] [] [] (.b (within 0 9999 [t.year])) [], (!(within 0 9999 [t.year])) = false, CallOK Try.prog 64 [.agg [.i t.glo, .i t.ghi], .i 1, .i 10000] [] [] (.b (rangeB t.glo t.ghi 1 10000)) [], (!(rangeB t.glo t.ghi 1 10000)) = true] (by kernel_rfl) (al2 (CallFr.to (refIn_fr t.year 0 9999) [] (by kernel_rfl) (by kernel_rfl) (by kernel_rfl) (by kernel_rfl) (by kernel_rfl) dem_nil) (al2 h1 (al2 (CallFr.to (refSpan_fr t.glo t.ghi 1 10000) [] (by kernel_rfl) (by kernel_rfl) (by kernel_rfl) (by kernel_rfl) (by kernel_rfl) dem_nil) (al1 h2)))) ?_
   refine aw_true rfl ?_
   refine aw_seq ?_
   refine aw_r []
    ⟨58, [1], [(2, .b false)], []⟩
    [] (by kernel_rfl) trivial ?_
   exact aw_ret (ret_then ⟨.inr rfl, end_ok ⟨58, [1], [(2, .b (treeB t))], []⟩
       (Ent.ren [] rfl rfl (by kernel_rfl) ⟨(slot_b (a := false) rfl (by first | rfl | omega | assumption | (simp only [treeB, *] <;> simp_all))), trivial⟩ trivial (by kernel_rfl)) rfl (by kernel_rfl) wr_nil (by kernel_rfl)⟩)
  ·
   rcases Bool.eq_false_or_eq_true ((!(rangeB t.wlo t.whi 0 10000))) with h3 | h3
   ·
    refine aw_r [(2, .call [] (.b (within 0 9999 [t.year])) []), (4, .dec false), (7, .call [] (.b (rangeB t.glo t.ghi 1 10000)) []), (10, .dec false), (13, .call [] (.b (rangeB t.wlo t.whi 0 10000)) []), (16, .dec true)]
     ⟨58, [1], [(1, .l (.ref 1001 0)), (31, .b true)], [(1, some (refTree_frK1 t)), (1001, some (refTree_frK2 t))]⟩
     [CallOK Try.prog 63 [.i t.year, .i 0, .i 9999] [] [] (.b (within 0 9999 [t.year])) [], (!(within 0 9999 [t.year])) = false, CallOK Try.prog 64 [.agg [.i t.glo, .i t.ghi], .i 1, .i 10000] [] [] (.b (rangeB t.glo t.ghi 1 10000)) [], (!(rangeB t.glo t.ghi 1 10000)) = false, CallOK Try.prog 64 [.agg [.i t.wlo, .i t.whi], .i 0, .i 10000] [] [] (.b (rangeB t.wlo t.whi 0 10000)) [], (!(rangeB t.wlo t.whi 0 10000)) = true] (by kernel_rfl) (al2 (CallFr.to (refIn_fr t.year 0 9999) [] (by kernel_rfl) (by kernel_rfl) (by kernel_rfl) (by kernel_rfl) (by kernel_rfl) dem_nil) (al2 h1 (al2 (CallFr.to (refSpan_fr t.glo t.ghi 1 10000) [] (by kernel_rfl) (by kernel_rfl) (by kernel_rfl) (by kernel_rfl) (by kernel_rfl) dem_nil) (al2 h2 (al2 (CallFr.to (refSpan_fr t.wlo t.whi 0 10000) [] (by kernel_rfl) (by kernel_rfl) (by kernel_rfl) (by kernel_rfl) (by kernel_rfl) dem_nil) (al1 h3)))))) ?_
    refine aw_true rfl ?_
    refine aw_seq ?_
    refine aw_r []
     ⟨58, [1], [(2, .b false)], []⟩
     [] (by kernel_rfl) trivial ?_
    exact aw_ret (ret_then ⟨.inr rfl, end_ok ⟨58, [1], [(2, .b (treeB t))], []⟩
        (Ent.ren [] rfl rfl (by kernel_rfl) ⟨(slot_b (a := false) rfl (by first | rfl | omega | assumption | (simp only [treeB, *] <;> simp_all))), trivial⟩ trivial (by kernel_rfl)) rfl (by kernel_rfl) wr_nil (by kernel_rfl)⟩)
   ·
    rcases Bool.eq_false_or_eq_true ((!(within 0 4 [t.health]))) with h4 | h4
    ·
     refine aw_r [(2, .call [] (.b (within 0 9999 [t.year])) []), (4, .dec false), (7, .call [] (.b (rangeB t.glo t.ghi 1 10000)) []), (10, .dec false), (13, .call [] (.b (rangeB t.wlo t.whi 0 10000)) []), (16, .dec false), (19, .call [] (.b (within 0 4 [t.health])) []), (22, .dec true)]
      ⟨58, [1], [(1, .l (.ref 1001 0)), (31, .b true)], [(1, some (refTree_frK1 t)), (1001, some (refTree_frK2 t))]⟩
      [CallOK Try.prog 63 [.i t.year, .i 0, .i 9999] [] [] (.b (within 0 9999 [t.year])) [], (!(within 0 9999 [t.year])) = false, CallOK Try.prog 64 [.agg [.i t.glo, .i t.ghi], .i 1, .i 10000] [] [] (.b (rangeB t.glo t.ghi 1 10000)) [], (!(rangeB t.glo t.ghi 1 10000)) = false, CallOK Try.prog 64 [.agg [.i t.wlo, .i t.whi], .i 0, .i 10000] [] [] (.b (rangeB t.wlo t.whi 0 10000)) [], (!(rangeB t.wlo t.whi 0 10000)) = false, CallOK Try.prog 63 [.i t.health, .i 0, .i 4] [] [] (.b (within 0 4 [t.health])) [], (!(within 0 4 [t.health])) = true] (by kernel_rfl) (al2 (CallFr.to (refIn_fr t.year 0 9999) [] (by kernel_rfl) (by kernel_rfl) (by kernel_rfl) (by kernel_rfl) (by kernel_rfl) dem_nil) (al2 h1 (al2 (CallFr.to (refSpan_fr t.glo t.ghi 1 10000) [] (by kernel_rfl) (by kernel_rfl) (by kernel_rfl) (by kernel_rfl) (by kernel_rfl) dem_nil) (al2 h2 (al2 (CallFr.to (refSpan_fr t.wlo t.whi 0 10000) [] (by kernel_rfl) (by kernel_rfl) (by kernel_rfl) (by kernel_rfl) (by kernel_rfl) dem_nil) (al2 h3 (al2 (CallFr.to (refIn_fr t.health 0 4) [] (by kernel_rfl) (by kernel_rfl) (by kernel_rfl) (by kernel_rfl) (by kernel_rfl) dem_nil) (al1 h4)))))))) ?_
     refine aw_true rfl ?_
     refine aw_seq ?_
     refine aw_r []
      ⟨58, [1], [(2, .b false)], []⟩
      [] (by kernel_rfl) trivial ?_
     exact aw_ret (ret_then ⟨.inr rfl, end_ok ⟨58, [1], [(2, .b (treeB t))], []⟩
         (Ent.ren [] rfl rfl (by kernel_rfl) ⟨(slot_b (a := false) rfl (by first | rfl | omega | assumption | (simp only [treeB, *] <;> simp_all))), trivial⟩ trivial (by kernel_rfl)) rfl (by kernel_rfl) wr_nil (by kernel_rfl)⟩)
    ·
     refine aw_r [(2, .call [] (.b (within 0 9999 [t.year])) []), (4, .dec false), (7, .call [] (.b (rangeB t.glo t.ghi 1 10000)) []), (10, .dec false), (13, .call [] (.b (rangeB t.wlo t.whi 0 10000)) []), (16, .dec false), (19, .call [] (.b (within 0 4 [t.health])) []), (22, .dec false)]
      ⟨58, [1], [(1, .l (.ref 1001 0)), (31, .b (decide (60 < ((t.holes.length : Nat) : Int))))], [(1, some (refTree_frK1 t)), (1001, some (refTree_frK2 t))]⟩
      [CallOK Try.prog 63 [.i t.year, .i 0, .i 9999] [] [] (.b (within 0 9999 [t.year])) [], (!(within 0 9999 [t.year])) = false, CallOK Try.prog 64 [.agg [.i t.glo, .i t.ghi], .i 1, .i 10000] [] [] (.b (rangeB t.glo t.ghi 1 10000)) [], (!(rangeB t.glo t.ghi 1 10000)) = false, CallOK Try.prog 64 [.agg [.i t.wlo, .i t.whi], .i 0, .i 10000] [] [] (.b (rangeB t.wlo t.whi 0 10000)) [], (!(rangeB t.wlo t.whi 0 10000)) = false, CallOK Try.prog 63 [.i t.health, .i 0, .i 4] [] [] (.b (within 0 4 [t.health])) [], (!(within 0 4 [t.health])) = false] (by kernel_rfl) (al2 (CallFr.to (refIn_fr t.year 0 9999) [] (by kernel_rfl) (by kernel_rfl) (by kernel_rfl) (by kernel_rfl) (by kernel_rfl) dem_nil) (al2 h1 (al2 (CallFr.to (refSpan_fr t.glo t.ghi 1 10000) [] (by kernel_rfl) (by kernel_rfl) (by kernel_rfl) (by kernel_rfl) (by kernel_rfl) dem_nil) (al2 h2 (al2 (CallFr.to (refSpan_fr t.wlo t.whi 0 10000) [] (by kernel_rfl) (by kernel_rfl) (by kernel_rfl) (by kernel_rfl) (by kernel_rfl) dem_nil) (al2 h3 (al2 (CallFr.to (refIn_fr t.health 0 4) [] (by kernel_rfl) (by kernel_rfl) (by kernel_rfl) (by kernel_rfl) (by kernel_rfl) dem_nil) (al1 h4)))))))) ?_
     refine aw_cond (b := decide (60 < ((t.holes.length : Nat) : Int))) rfl (fun h5 => ?_) (fun h5 => ?_)
     ·
      have h5p : 60 < ((t.holes.length : Nat) : Int) := dtr h5
      refine aw_seq ?_
      refine aw_r []
       ⟨58, [1], [(2, .b false)], []⟩
       [] (by kernel_rfl) trivial ?_
      exact aw_ret (ret_then ⟨.inr rfl, end_ok ⟨58, [1], [(2, .b (treeB t))], []⟩
          (Ent.ren [] rfl rfl (by kernel_rfl) ⟨(slot_b (a := false) rfl (by first | rfl | omega | assumption | (simp only [treeB, *] <;> simp_all))), trivial⟩ trivial (by kernel_rfl)) rfl (by kernel_rfl) wr_nil (by kernel_rfl)⟩)
     ·
      have h5p : ((t.holes.length : Nat) : Int) ≤ 60 := dlt h5
      refine aw_skip ?_
      refine aw_seq ?_
      refine aw_seq ?_
      refine aw_r []
       ⟨58, [1], [(1, .l (.ref 1001 0)), (3, .i 0)], [(1, some (refTree_frK1 t)), (1001, some (refTree_frK2 t))]⟩
       [] (by kernel_rfl) trivial ?_
      refine aw_block ?_
      refine aw_loop (ι := Nat) (fun zz => ⟨58, [1], [(1, .l (.ref 1001 0)), (3, .i ((zz : Nat) : Int))], [(1, some (refTree_frK1 t)), (1001, some (refTree_frK2 t))]⟩) (fun zz => (zz ≤ t.holes.length) ∧ (∀ j, j < zz → holeOut (ix t.holes j) = false)) (fun zz => t.holes.length - zz) 0 ⟨(by first | omega | rfl | assumption | (simp; done)), (by intro j hj; omega)⟩
          (Ent.ren [] rfl rfl (by kernel_rfl) ⟨rfl, rfl, trivial⟩ (cro rfl (cbl rfl rfl trivial)) (by kernel_rfl)) fun zz hp => ?_
      obtain ⟨i, rfl⟩ : ∃ x, x = zz := ⟨_, rfl⟩
      obtain ⟨hiL, hp⟩ := hp
      show AW _ E _ _ ⟨58, [1], [(1, .l (.ref 1001 0)), (3, .i ((i : Nat) : Int))], [(1, some (refTree_frK1 t)), (1001, some (refTree_frK2 t))]⟩
      refine aw_seq ?_
      refine aw_seq ?_
      refine aw_r []
       ⟨58, [1], [(1, .l (.ref 1001 0)), (3, .i ((i : Nat) : Int)), (36, .b (decide (((i : Nat) : Int) < ((t.holes.length : Nat) : Int))))], [(1, some (refTree_frK1 t)), (1001, some (refTree_frK2 t))]⟩
       [] (by kernel_rfl) trivial ?_
      refine aw_cond (b := decide (((i : Nat) : Int) < ((t.holes.length : Nat) : Int))) rfl (fun h6 => ?_) (fun h6 => ?_)
      ·
       have h6p : ((i : Nat) : Int) < ((t.holes.length : Nat) : Int) := dtr h6
       refine aw_skip ?_
       refine aw_seq ?_
       refine aw_block ?_
       refine aw_seq ?_
       rcases Bool.eq_false_or_eq_true ((!(within 0 9999 [((ix t.holes i).year)]))) with h7 | h7
       ·
        refine aw_r [(3, .idx i), (6, .call [] (.b (within 0 9999 [((ix t.holes i).year)])) []), (8, .dec true)]
         ⟨58, [1], [(1, .l (.ref 1001 0)), (3, .i ((i : Nat) : Int)), (57, .b true)], [(1, some (refTree_frK1 t)), (1001, some (refTree_frK2 t))]⟩
         [((i : Nat) : Int) = ((i : Nat) : Int), i < t.holes.length, i < t.holes.length, i < t.holes.length, CallOK Try.prog 63 [.i ((ix t.holes i).year), .i 0, .i 9999] [] [] (.b (within 0 9999 [((ix t.holes i).year)])) [], (!(within 0 9999 [((ix t.holes i).year)])) = true] (by kernel_rfl) (al2 (by omega) (al2 (by omega) (al2 (by omega) (al2 (by omega) (al2 (CallFr.to (refIn_fr ((ix t.holes i).year) 0 9999) [] (by kernel_rfl) (by kernel_rfl) (by kernel_rfl) (by kernel_rfl) (by kernel_rfl) dem_nil) (al1 h7)))))) ?_
        refine aw_true rfl ?_
        refine aw_seq ?_
        have hf : t.holes.any holeOut = true := any_at (i := i) (by omega) (by simp [holeOut, *])
        clear hp
        refine aw_r []
         ⟨58, [1], [(2, .b false)], []⟩
         [] (by kernel_rfl) trivial ?_
        exact aw_ret (ret_block (ret_then (ret_then (ret_block (ret_then ⟨.inr rfl, end_ok ⟨58, [1], [(2, .b (treeB t))], []⟩
            (Ent.ren [] rfl rfl (by kernel_rfl) ⟨(slot_b (a := false) rfl (by first | rfl | omega | assumption | (simp only [treeB, *] <;> simp_all))), trivial⟩ trivial (by kernel_rfl)) rfl (by kernel_rfl) wr_nil (by kernel_rfl)⟩)))))
       ·
        refine aw_r [(3, .idx i), (6, .call [] (.b (within 0 9999 [((ix t.holes i).year)])) []), (8, .dec false), (12, .idx i), (15, .new 1054), (16, .call [1054] (.b (spotsB ([(⟨(ix t.holes i).angle, (ix t.holes i).height⟩ : Spt)]))) [])]
         ⟨58, [1], [(1, .l (.ref 1001 0)), (3, .i ((i : Nat) : Int)), (57, .b (!(spotsB ([(⟨(ix t.holes i).angle, (ix t.holes i).height⟩ : Spt)]))))], [(1, some (refTree_frK1 t)), (1001, some (refTree_frK2 t))]⟩
         [((i : Nat) : Int) = ((i : Nat) : Int), i < t.holes.length, i < t.holes.length, i < t.holes.length, CallOK Try.prog 63 [.i ((ix t.holes i).year), .i 0, .i 9999] [] [] (.b (within 0 9999 [((ix t.holes i).year)])) [], (!(within 0 9999 [((ix t.holes i).year)])) = false, ((i : Nat) : Int) = ((i : Nat) : Int), i < t.holes.length, i < t.holes.length, i < t.holes.length, CallOK Try.prog 39 [.ls 1054] [1054] [some (refTree_frK3 t i)] (.b (spotsB ([(⟨(ix t.holes i).angle, (ix t.holes i).height⟩ : Spt)]))) []] (by kernel_rfl) (al2 (by omega) (al2 (by omega) (al2 (by omega) (al2 (by omega) (al2 (CallFr.to (refIn_fr ((ix t.holes i).year) 0 9999) [] (by kernel_rfl) (by kernel_rfl) (by kernel_rfl) (by kernel_rfl) (by kernel_rfl) dem_nil) (al2 h7 (al2 (by omega) (al2 (by omega) (al2 (by omega) (al2 (by omega) (al1 (CallFr.to (refOn_fr ([(⟨(ix t.holes i).angle, (ix t.holes i).height⟩ : Spt)]) (by first | omega | (simp; done) | decide)) [(0, 1054)] (by kernel_rfl) (by kernel_rfl) (by kernel_rfl) (by kernel_rfl) (by kernel_rfl) (dem_cons rfl (le_vec_ro (by first | omega | rfl | assumption) (fun | 0, _ => (fun | 0, _ => rfl | 1, _ => rfl | (_n + 2), h => absurd h (by omega)) | (_n + 1), h => absurd h (by omega))) dem_nil))))))))))))) ?_
        refine aw_cond (b := (!(spotsB ([(⟨(ix t.holes i).angle, (ix t.holes i).height⟩ : Spt)])))) rfl (fun h8 => ?_) (fun h8 => ?_)
        ·
         refine aw_seq ?_
         have hf : t.holes.any holeOut = true := any_at (i := i) (by omega) (by simp [holeOut, *])
         clear hp
         refine aw_r []
          ⟨58, [1], [(2, .b false)], []⟩
          [] (by kernel_rfl) trivial ?_
         exact aw_ret (ret_block (ret_then (ret_then (ret_block (ret_then ⟨.inr rfl, end_ok ⟨58, [1], [(2, .b (treeB t))], []⟩
             (Ent.ren [] rfl rfl (by kernel_rfl) ⟨(slot_b (a := false) rfl (by first | rfl | omega | assumption | (simp only [treeB, *] <;> simp_all))), trivial⟩ trivial (by kernel_rfl)) rfl (by kernel_rfl) wr_nil (by kernel_rfl)⟩)))))
        ·
         refine aw_skip ?_
         refine aw_r [(1, .num (((i + 1) : Nat) : Int))]
          ⟨58, [1], [(1, .l (.ref 1001 0)), (3, .i (((i + 1) : Nat) : Int))], [(1, some (refTree_frK1 t)), (1001, some (refTree_frK2 t))]⟩
          [(((i : Nat) : Int) + 1) = (((i + 1) : Nat) : Int), -9223372036854775808 ≤ (((i + 1) : Nat) : Int) ∧ (((i + 1) : Nat) : Int) < 9223372036854775808] (by kernel_rfl) (al2 (by omega) (al1 (by omega))) ?_
         exact ⟨(i + 1), ⟨(by first | omega | rfl | assumption | (simp; done)), (by exact all_snoc hp (by simp [holeOut, *]))⟩, (show t.holes.length - (i + 1) < t.holes.length - i by first | omega | rfl | assumption),
             (Ent.ren [] rfl rfl (by kernel_rfl) ⟨rfl, rfl, trivial⟩ (cro rfl (cbl rfl rfl trivial)) (by kernel_rfl))⟩
      ·
       have h6p : ((t.holes.length : Nat) : Int) ≤ ((i : Nat) : Int) := dlt h6
       refine aw_exit (exit_then (exit_then (exit_in ?_)))
       refine aw_seq ?_
       have hf : t.holes.any holeOut = false := any_no hp (by omega)
       clear hp
       refine aw_r []
        ⟨58, [1], [(2, .b true)], []⟩
        [] (by kernel_rfl) trivial ?_
       exact aw_ret ⟨.inr rfl, end_ok ⟨58, [1], [(2, .b (treeB t))], []⟩
           (Ent.ren [] rfl rfl (by kernel_rfl) ⟨(slot_b (a := true) rfl (by first | rfl | omega | assumption | (simp only [treeB, *] <;> simp_all))), trivial⟩ trivial (by kernel_rfl)) rfl (by kernel_rfl) wr_nil (by kernel_rfl)⟩
def large_frK1 (t : TreeV) : Cn := .ro 3 t.holes.length (Lst eH t.holes)
def large_frK2 (r : RuleV) : Cn := .ro 2 r.sizes.length (Lst eZ r.sizes)
def large_frK3 (t : TreeV) : Cn := .blk 26 [.i t.year, .i t.glo, .i t.ghi, .i t.wlo, .i t.whi, .i t.health, .ls 1]
def large_frK4 (r : RuleV) : Cn := .blk 30 [.i r.slo, .i r.shi, .i r.ulo, .i r.uhi, .i r.hlo, .i r.hhi, .i r.apart, .i r.blo, .i r.bhi, .ls 2, .i r.n0, .i r.n1, .i r.n2, .i r.n3, .i r.n4, .i r.opn]
set_option maxRecDepth 100000 in
theorem large_fr (t : TreeV) (r : RuleV) (ht : t.holes.length ≤ 9223372036854775807) (hr : r.sizes.length ≤ 9223372036854775807) : CallFr Try.prog 13 [.agg [.i t.year, .i t.glo, .i t.ghi, .i t.wlo, .i t.whi, .i t.health, .ls 1], .agg [.i r.slo, .i r.shi, .i r.ulo, .i r.uhi, .i r.hlo, .i r.hhi, .i r.apart, .i r.blo, .i r.bhi, .ls 2, .i r.n0, .i r.n1, .i r.n2, .i r.n3, .i r.n4, .i r.opn]] [1, 2] [some (.ro 3 t.holes.length (Lst eH t.holes)), some (.ro 2 r.sizes.length (Lst eZ r.sizes))] (.b (largeB t r)) [] := by
 refine callFr_of (fn := Try.f13) (by kernel_rfl) rfl (by kernel_rfl) (by kernel_rfl) fun E => ?_
 refine aw_ent (T := ⟨15, [1, 2], [(0, .agg [.i t.year, .i t.glo, .i t.ghi, .i t.wlo, .i t.whi, .i t.health, .ls 1]), (1, .agg [.i r.slo, .i r.shi, .i r.ulo, .i r.uhi, .i r.hlo, .i r.hhi, .i r.apart, .i r.blo, .i r.bhi, .ls 2, .i r.n0, .i r.n1, .i r.n2, .i r.n3, .i r.n4, .i r.opn])], [(1, some (large_frK1 t)), (2, some (large_frK2 r))]⟩) (Ent.refl _) ?_
 refine aw_seq ?_
 refine aw_r [(0, .new 1002), (1, .new 1003)]
  ⟨15, [1, 2], [(2, .l (.ref 1002 0)), (3, .l (.ref 1003 0))], [(1, some (large_frK1 t)), (2, some (large_frK2 r)), (1002, some (large_frK3 t)), (1003, some (large_frK4 r))]⟩
  [] (by kernel_rfl) trivial ?_
 refine aw_seq ?_
 rcases Bool.eq_false_or_eq_true (decide (70 < ((t.holes.length : Nat) : Int))) with h1 | h1
 ·
  have h1p : 70 < ((t.holes.length : Nat) : Int) := dtr h1
  refine aw_r [(4, .dec true)]
   ⟨15, [1, 2], [(4, .b true)], []⟩
   [decide (70 < ((t.holes.length : Nat) : Int)) = true] (by kernel_rfl) (al1 h1) ?_
  exact aw_ret ⟨.inr rfl, end_ok ⟨15, [1, 2], [(4, .b (largeB t r))], []⟩
      (Ent.ren [] rfl rfl (by kernel_rfl) ⟨(slot_b (a := true) rfl (by first | rfl | omega | assumption | (unfold largeB; simp only [*]; rfl))), trivial⟩ trivial (by kernel_rfl)) rfl (by kernel_rfl) wr_nil (by kernel_rfl)⟩
 ·
  have h1p : ((t.holes.length : Nat) : Int) ≤ 70 := dlt h1
  refine aw_r [(4, .dec false)]
   ⟨15, [1, 2], [(4, .b (decide (15 < ((r.sizes.length : Nat) : Int))))], []⟩
   [decide (70 < ((t.holes.length : Nat) : Int)) = false] (by kernel_rfl) (al1 h1) ?_
  exact aw_ret ⟨.inr rfl, end_ok ⟨15, [1, 2], [(4, .b (largeB t r))], []⟩
      (Ent.ren [] rfl rfl (by kernel_rfl) ⟨(slot_b (a := decide (15 < ((r.sizes.length : Nat) : Int))) rfl (by first | rfl | omega | assumption | (unfold largeB; simp only [*]; rfl))), trivial⟩ trivial (by kernel_rfl)) rfl (by kernel_rfl) wr_nil (by kernel_rfl)⟩
def own_frK1 (t : TreeV) : Cn := .ro 3 t.holes.length (Lst eH t.holes)
def own_frK2 (t : TreeV) : Cn := .blk 26 [.i t.year, .i t.glo, .i t.ghi, .i t.wlo, .i t.whi, .i t.health, .ls 1]
def own_frK3  : Cn := .blk 26 [.i 0, .i 0, .i 0, .i 0, .i 0, .i 0, .v (.slice none 0 0)]
def own_frK4 (t : TreeV) : Cn := .blk 26 [.i t.year, .i t.glo, .i t.ghi, .i t.wlo, .i t.whi, .i t.health, .ls 1006]
def own_frK5 (t : TreeV) : Cn := .vec 74 3 t.holes.length (Lst eH t.holes)
def own_frK6 (t : TreeV) : Cn := .blk 26 [.i t.year, .i t.glo, .i t.ghi, .i t.wlo, .i t.whi, .i t.health, .ls 2]
set_option maxRecDepth 100000 in
theorem own_fr (t : TreeV) (ht : t.holes.length ≤ 1000000) : CallFr Try.prog 15 [.agg [.i t.year, .i t.glo, .i t.ghi, .i t.wlo, .i t.whi, .i t.health, .ls 1]] [1] [some (.ro 3 t.holes.length (Lst eH t.holes))] (.agg [.i t.year, .i t.glo, .i t.ghi, .i t.wlo, .i t.whi, .i t.health, .ls 2]) [(2, some (.vec 74 3 t.holes.length (Lst eH t.holes)))] := by
 refine callFr_of (fn := Try.f15) (by kernel_rfl) rfl (by kernel_rfl) (by kernel_rfl) fun E => ?_
 refine aw_ent (T := ⟨9, [1], [(0, .agg [.i t.year, .i t.glo, .i t.ghi, .i t.wlo, .i t.whi, .i t.health, .ls 1])], [(1, some (own_frK1 t))]⟩) (Ent.refl _) ?_
 refine aw_seq ?_
 refine aw_r [(0, .new 1001), (1, .new 1002)]
  ⟨9, [1], [(1, .l (.ref 1001 0)), (2, .l (.ref 1002 0))], [(1, some (own_frK1 t)), (1001, some (own_frK2 t)), (1002, some own_frK3)]⟩
  [] (by kernel_rfl) trivial ?_
 refine aw_seq ?_
 refine aw_r [(0, .new 1003), (3, .lst 1006 t.holes.length (Lst eH t.holes))]
  ⟨9, [1], [(1, .l (.ref 1001 0)), (2, .l (.ref 1002 0))], [(1001, some (own_frK4 t)), (1002, some own_frK3), (1006, some (own_frK5 t))]⟩
  [0 + t.holes.length ≤ 1000000000000, (0 + t.holes.length) * 24 ≤ 140737488355328, AppOk 3 0 t.holes.length (exEl 3 []) (Lst eH t.holes) t.holes.length (Lst eH t.holes)] (by kernel_rfl) (al2 (by omega) (al2 (by omega) (al1 (app_nil (by first | omega | rfl | assumption))))) ?_
 refine aw_seq ?_
 refine aw_r []
  ⟨9, [1], [(2, .l (.ref 1002 0))], [(1002, some (own_frK4 t)), (1006, some (own_frK5 t))]⟩
  [] (by kernel_rfl) trivial ?_
 exact aw_ret ⟨.inr rfl, end_ok ⟨9, [1], [(2, .l (.ref 8002 0))], [(2, some (own_frK5 t)), (8002, some (own_frK6 t))]⟩
     (Ent.ren [(8002, 1002), (2, 1006)] rfl rfl (by kernel_rfl) ⟨rfl, trivial⟩ (cve rfl (cbl rfl rfl trivial)) (by kernel_rfl)) rfl (by kernel_rfl) (wr_cons rfl (plain_Lst plain_eH) wr_nil) (by kernel_rfl)⟩
def tapsc_frK1 (r : RuleV) : Cn := .ro 2 r.sizes.length (Lst eZ r.sizes)
def tapsc_frK2 (r : RuleV) : Cn := .blk 30 [.i r.slo, .i r.shi, .i r.ulo, .i r.uhi, .i r.hlo, .i r.hhi, .i r.apart, .i r.blo, .i r.bhi, .ls 1, .i r.n0, .i r.n1, .i r.n2, .i r.n3, .i r.n4, .i r.opn]
def tapsc_frK3  : Cn := .blk 30 [.i 0, .i 0, .i 0, .i 0, .i 0, .i 0, .i 0, .i 0, .i 0, .v (.slice none 0 0), .i 0, .i 0, .i 0, .i 0, .i 0, .i 0]
def tapsc_frK4 (r : RuleV) : Cn := .blk 30 [.i r.slo, .i r.shi, .i r.ulo, .i r.uhi, .i r.hlo, .i r.hhi, .i r.apart, .i r.blo, .i r.bhi, .ls 1006, .i r.n0, .i r.n1, .i r.n2, .i r.n3, .i r.n4, .i r.opn]
def tapsc_frK5 (r : RuleV) : Cn := .vec 45 2 r.sizes.length (Lst eZ r.sizes)
def tapsc_frK6 (r : RuleV) : Cn := .blk 30 [.i r.slo, .i r.shi, .i r.ulo, .i r.uhi, .i r.hlo, .i r.hhi, .i r.apart, .i r.blo, .i r.bhi, .ls 2, .i r.n0, .i r.n1, .i r.n2, .i r.n3, .i r.n4, .i r.opn]
set_option maxRecDepth 100000 in
theorem tapsc_fr (r : RuleV) (hr : r.sizes.length ≤ 1000000) : CallFr Try.prog 16 [.agg [.i r.slo, .i r.shi, .i r.ulo, .i r.uhi, .i r.hlo, .i r.hhi, .i r.apart, .i r.blo, .i r.bhi, .ls 1, .i r.n0, .i r.n1, .i r.n2, .i r.n3, .i r.n4, .i r.opn]] [1] [some (.ro 2 r.sizes.length (Lst eZ r.sizes))] (.agg [.i r.slo, .i r.shi, .i r.ulo, .i r.uhi, .i r.hlo, .i r.hhi, .i r.apart, .i r.blo, .i r.bhi, .ls 2, .i r.n0, .i r.n1, .i r.n2, .i r.n3, .i r.n4, .i r.opn]) [(2, some (.vec 45 2 r.sizes.length (Lst eZ r.sizes)))] := by
 refine callFr_of (fn := Try.f16) (by kernel_rfl) rfl (by kernel_rfl) (by kernel_rfl) fun E => ?_
 refine aw_ent (T := ⟨9, [1], [(0, .agg [.i r.slo, .i r.shi, .i r.ulo, .i r.uhi, .i r.hlo, .i r.hhi, .i r.apart, .i r.blo, .i r.bhi, .ls 1, .i r.n0, .i r.n1, .i r.n2, .i r.n3, .i r.n4, .i r.opn])], [(1, some (tapsc_frK1 r))]⟩) (Ent.refl _) ?_
 refine aw_seq ?_
 refine aw_r [(0, .new 1001), (1, .new 1002)]
  ⟨9, [1], [(1, .l (.ref 1001 0)), (2, .l (.ref 1002 0))], [(1, some (tapsc_frK1 r)), (1001, some (tapsc_frK2 r)), (1002, some tapsc_frK3)]⟩
  [] (by kernel_rfl) trivial ?_
 refine aw_seq ?_
 refine aw_r [(0, .new 1003), (3, .lst 1006 r.sizes.length (Lst eZ r.sizes))]
  ⟨9, [1], [(1, .l (.ref 1001 0)), (2, .l (.ref 1002 0))], [(1001, some (tapsc_frK4 r)), (1002, some tapsc_frK3), (1006, some (tapsc_frK5 r))]⟩
  [0 + r.sizes.length ≤ 1000000000000, (0 + r.sizes.length) * 16 ≤ 140737488355328, AppOk 2 0 r.sizes.length (exEl 2 []) (Lst eZ r.sizes) r.sizes.length (Lst eZ r.sizes)] (by kernel_rfl) (al2 (by omega) (al2 (by omega) (al1 (app_nil (by first | omega | rfl | assumption))))) ?_
 refine aw_seq ?_
 refine aw_r []
  ⟨9, [1], [(2, .l (.ref 1002 0))], [(1002, some (tapsc_frK4 r)), (1006, some (tapsc_frK5 r))]⟩
  [] (by kernel_rfl) trivial ?_
 exact aw_ret ⟨.inr rfl, end_ok ⟨9, [1], [(2, .l (.ref 8002 0))], [(2, some (tapsc_frK5 r)), (8002, some (tapsc_frK6 r))]⟩
     (Ent.ren [(8002, 1002), (2, 1006)] rfl rfl (by kernel_rfl) ⟨rfl, trivial⟩ (cve rfl (cbl rfl rfl trivial)) (by kernel_rfl)) rfl (by kernel_rfl) (wr_cons rfl (plain_Lst plain_eZ) wr_nil) (by kernel_rfl)⟩
def tree_frK1  : Cn := .blk 26 [.i 0, .i 0, .i 0, .i 0, .i 0, .i 0, .v (.slice none 0 0)]
def tree_frK2  : Cn := .blk 26 [.i 20, .i 1200, .i 1260, .i 5, .i 10, .i 3, .ls 1005]
def tree_frK3  : Cn := .vec 74 3 1 (exEl 3 [.i 20, .i 0, .i 1000])
def tree_frK4  : Cn := .vec 74 3 exTree.holes.length (Lst eH exTree.holes)
def tree_frK5  : Cn := .blk 26 [.i exTree.year, .i exTree.glo, .i exTree.ghi, .i exTree.wlo, .i exTree.whi, .i exTree.health, .ls 1]
set_option maxRecDepth 100000 in
theorem tree_fr  : CallFr Try.prog 53 [] [] [] (.agg [.i exTree.year, .i exTree.glo, .i exTree.ghi, .i exTree.wlo, .i exTree.whi, .i exTree.health, .ls 1]) [(1, some (.vec 74 3 exTree.holes.length (Lst eH exTree.holes)))] := by
 refine callFr_of (fn := Try.f53) (by kernel_rfl) rfl (by kernel_rfl) (by kernel_rfl) fun E => ?_
 refine aw_ent (T := ⟨7, [], [], []⟩) (Ent.refl _) ?_
 refine aw_seq ?_
 refine aw_r [(0, .new 1000)]
  ⟨7, [], [(0, .l (.ref 1000 0))], [(1000, some tree_frK1)]⟩
  [] (by kernel_rfl) trivial ?_
 refine aw_seq ?_
 refine aw_r [(4, .new 1005)]
  ⟨7, [], [(0, .l (.ref 1000 0))], [(1000, some tree_frK2), (1005, some tree_frK3)]⟩
  [] (by kernel_rfl) trivial ?_
 exact aw_ret ⟨.inr rfl, end_ok ⟨7, [], [(0, .l (.ref 8000 0))], [(1, some tree_frK4), (8000, some tree_frK5)]⟩
     (Ent.ren [(8000, 1000), (1, 1005)] rfl rfl (by kernel_rfl) ⟨rfl, trivial⟩ (conts_cons rfl (le_vec (by first | rfl | omega | assumption) (fun | 0, _ => (fun | 0, _ => rfl | 1, _ => rfl | 2, _ => rfl | (_n + 3), h => absurd h (by omega)) | (_n + 1), h => absurd h (by omega))) (cbl rfl (by exact (cells_cons (cell_i (by first | rfl | omega | assumption)) (cells_cons (cell_i (by first | rfl | omega | assumption)) (cells_cons (cell_i (by first | rfl | omega | assumption)) (cells_cons (cell_i (by first | rfl | omega | assumption)) (cells_cons (cell_i (by first | rfl | omega | assumption)) (cells_cons (cell_i (by first | rfl | omega | assumption)) (cells_cons rfl rfl)))))))) trivial)) (by kernel_rfl)) rfl (by kernel_rfl) (wr_cons rfl (plain_Lst plain_eH) wr_nil) (by kernel_rfl)⟩
def rules_frK1  : Cn := .blk 30 [.i 0, .i 0, .i 0, .i 0, .i 0, .i 0, .i 0, .i 0, .i 0, .v (.slice none 0 0), .i 0, .i 0, .i 0, .i 0, .i 0, .i 0]
def rules_frK2  : Cn := .blk 30 [.i 30, .i 60, .i 200, .i 300, .i 3, .i 8, .i 400, .i 600, .i 1600, .ls 1007, .i 2, .i 2, .i 2, .i 2, .i 2, .i 5]
def rules_frK3  : Cn := .vec 45 2 2 (exEl 2 [.i 800, .i 1, .i 1500, .i 2])
def rules_frK4  : Cn := .vec 45 2 exRule.sizes.length (Lst eZ exRule.sizes)
def rules_frK5  : Cn := .blk 30 [.i exRule.slo, .i exRule.shi, .i exRule.ulo, .i exRule.uhi, .i exRule.hlo, .i exRule.hhi, .i exRule.apart, .i exRule.blo, .i exRule.bhi, .ls 1, .i exRule.n0, .i exRule.n1, .i exRule.n2, .i exRule.n3, .i exRule.n4, .i exRule.opn]
set_option maxRecDepth 100000 in
theorem rules_fr  : CallFr Try.prog 25 [] [] [] (.agg [.i exRule.slo, .i exRule.shi, .i exRule.ulo, .i exRule.uhi, .i exRule.hlo, .i exRule.hhi, .i exRule.apart, .i exRule.blo, .i exRule.bhi, .ls 1, .i exRule.n0, .i exRule.n1, .i exRule.n2, .i exRule.n3, .i exRule.n4, .i exRule.opn]) [(1, some (.vec 45 2 exRule.sizes.length (Lst eZ exRule.sizes)))] := by
 refine callFr_of (fn := Try.f25) (by kernel_rfl) rfl (by kernel_rfl) (by kernel_rfl) fun E => ?_
 refine aw_ent (T := ⟨10, [], [], []⟩) (Ent.refl _) ?_
 refine aw_seq ?_
 refine aw_r [(0, .new 1000)]
  ⟨10, [], [(0, .l (.ref 1000 0))], [(1000, some rules_frK1)]⟩
  [] (by kernel_rfl) trivial ?_
 refine aw_seq ?_
 refine aw_r [(6, .new 1007)]
  ⟨10, [], [(0, .l (.ref 1000 0))], [(1000, some rules_frK2), (1007, some rules_frK3)]⟩
  [] (by kernel_rfl) trivial ?_
 exact aw_ret ⟨.inr rfl, end_ok ⟨10, [], [(0, .l (.ref 8000 0))], [(1, some rules_frK4), (8000, some rules_frK5)]⟩
     (Ent.ren [(8000, 1000), (1, 1007)] rfl rfl (by kernel_rfl) ⟨rfl, trivial⟩ (conts_cons rfl (le_vec (by first | rfl | omega | assumption) (fun | 0, _ => (fun | 0, _ => rfl | 1, _ => rfl | (_n + 2), h => absurd h (by omega)) | 1, _ => (fun | 0, _ => rfl | 1, _ => rfl | (_n + 2), h => absurd h (by omega)) | (_n + 2), h => absurd h (by omega))) (cbl rfl (by exact (cells_cons (cell_i (by first | rfl | omega | assumption)) (cells_cons (cell_i (by first | rfl | omega | assumption)) (cells_cons (cell_i (by first | rfl | omega | assumption)) (cells_cons (cell_i (by first | rfl | omega | assumption)) (cells_cons (cell_i (by first | rfl | omega | assumption)) (cells_cons (cell_i (by first | rfl | omega | assumption)) (cells_cons (cell_i (by first | rfl | omega | assumption)) (cells_cons (cell_i (by first | rfl | omega | assumption)) (cells_cons (cell_i (by first | rfl | omega | assumption)) (cells_cons rfl (cells_cons (cell_i (by first | rfl | omega | assumption)) (cells_cons (cell_i (by first | rfl | omega | assumption)) (cells_cons (cell_i (by first | rfl | omega | assumption)) (cells_cons (cell_i (by first | rfl | omega | assumption)) (cells_cons (cell_i (by first | rfl | omega | assumption)) (cells_cons (cell_i (by first | rfl | omega | assumption)) rfl))))))))))))))))) trivial)) (by kernel_rfl)) rfl (by kernel_rfl) (wr_cons rfl (plain_Lst plain_eZ) wr_nil) (by kernel_rfl)⟩
def refRules_frK1 (r : RuleV) : Cn := .ro 2 r.sizes.length (Lst eZ r.sizes)
def refRules_frK2 (r : RuleV) : Cn := .blk 30 [.i r.slo, .i r.shi, .i r.ulo, .i r.uhi, .i r.hlo, .i r.hhi, .i r.apart, .i r.blo, .i r.bhi, .ls 2, .i r.n0, .i r.n1, .i r.n2, .i r.n3, .i r.n4, .i r.opn]
set_option maxRecDepth 100000 in
theorem refRules_fr (r : RuleV) (hr : r.sizes.length ≤ 1000000) : CallFr Try.prog 23 [.agg [.i r.slo, .i r.shi, .i r.ulo, .i r.uhi, .i r.hlo, .i r.hhi, .i r.apart, .i r.blo, .i r.bhi, .ls 2, .i r.n0, .i r.n1, .i r.n2, .i r.n3, .i r.n4, .i r.opn]] [2] [some (.ro 2 r.sizes.length (Lst eZ r.sizes))] (.b (ruleB r)) [] := by
 refine callFr_of (fn := Try.f23) (by kernel_rfl) rfl (by kernel_rfl) (by kernel_rfl) fun E => ?_
 refine aw_ent (T := ⟨114, [2], [(0, .agg [.i r.slo, .i r.shi, .i r.ulo, .i r.uhi, .i r.hlo, .i r.hhi, .i r.apart, .i r.blo, .i r.bhi, .ls 2, .i r.n0, .i r.n1, .i r.n2, .i r.n3, .i r.n4, .i r.opn])], [(2, some (refRules_frK1 r))]⟩) (Ent.refl _) ?_
 refine aw_seq ?_
 refine aw_r [(0, .new 1001)]
  ⟨114, [2], [(1, .l (.ref 1001 0))], [(2, some (refRules_frK1 r)), (1001, some (refRules_frK2 r))]⟩
  [] (by kernel_rfl) trivial ?_
 refine aw_seq ?_
 refine aw_seq ?_
 rcases Bool.eq_false_or_eq_true ((!(rangeB r.slo r.shi 0 5000))) with h1 | h1
 ·
  refine aw_r [(2, .call [] (.b (rangeB r.slo r.shi 0 5000)) []), (4, .dec true)]
   ⟨114, [2], [(1, .l (.ref 1001 0)), (44, .b true)], [(2, some (refRules_frK1 r)), (1001, some (refRules_frK2 r))]⟩
   [CallOK Try.prog 64 [.agg [.i r.slo, .i r.shi], .i 0, .i 5000] [] [] (.b (rangeB r.slo r.shi 0 5000)) [], (!(rangeB r.slo r.shi 0 5000)) = true] (by kernel_rfl) (al2 (CallFr.to (refSpan_fr r.slo r.shi 0 5000) [] (by kernel_rfl) (by kernel_rfl) (by kernel_rfl) (by kernel_rfl) (by kernel_rfl) dem_nil) (al1 h1)) ?_
  refine aw_true rfl ?_
  refine aw_seq ?_
  refine aw_r []
   ⟨114, [2], [(2, .b false)], []⟩
   [] (by kernel_rfl) trivial ?_
  exact aw_ret (ret_then ⟨.inr rfl, end_ok ⟨114, [2], [(2, .b (ruleB r))], []⟩
      (Ent.ren [] rfl rfl (by kernel_rfl) ⟨(slot_b (a := false) rfl (by first | rfl | omega | assumption | (simp_all [ruleB]))), trivial⟩ trivial (by kernel_rfl)) rfl (by kernel_rfl) wr_nil (by kernel_rfl)⟩)
 ·
  rcases Bool.eq_false_or_eq_true ((!(rangeB r.ulo r.uhi 0 5000))) with h2 | h2
  ·
   refine aw_r [(2, .call [] (.b (rangeB r.slo r.shi 0 5000)) []), (4, .dec false), (7, .call [] (.b (rangeB r.ulo r.uhi 0 5000)) []), (10, .dec true)]
    ⟨114, [2], [(1, .l (.ref 1001 0)), (44, .b true)], [(2, some (refRules_frK1 r)), (1001, some (refRules_frK2 r))]⟩
    [CallOK Try.prog 64 [.agg [.i r.slo, .i r.shi], .i 0, .i 5000] [] [] (.b (rangeB r.slo r.shi 0 5000)) [], (!(rangeB r.slo r.shi 0 5000)) = false, CallOK Try.prog 64 [.agg [.i r.ulo, .i r.uhi], .i 0, .i 5000] [] [] (.b (rangeB r.ulo r.uhi 0 5000)) [], (!(rangeB r.ulo r.uhi 0 5000)) = true] (by kernel_rfl) (al2 (CallFr.to (refSpan_fr r.slo r.shi 0 5000) [] (by kernel_rfl) (by kernel_rfl) (by kernel_rfl) (by kernel_rfl) (by kernel_rfl) dem_nil) (al2 h1 (al2 (CallFr.to (refSpan_fr r.ulo r.uhi 0 5000) [] (by kernel_rfl) (by kernel_rfl) (by kernel_rfl) (by kernel_rfl) (by kernel_rfl) dem_nil) (al1 h2)))) ?_
   refine aw_true rfl ?_
   refine aw_seq ?_
   refine aw_r []
    ⟨114, [2], [(2, .b false)], []⟩
    [] (by kernel_rfl) trivial ?_
   exact aw_ret (ret_then ⟨.inr rfl, end_ok ⟨114, [2], [(2, .b (ruleB r))], []⟩
       (Ent.ren [] rfl rfl (by kernel_rfl) ⟨(slot_b (a := false) rfl (by first | rfl | omega | assumption | (simp_all [ruleB]))), trivial⟩ trivial (by kernel_rfl)) rfl (by kernel_rfl) wr_nil (by kernel_rfl)⟩)
  ·
   rcases Bool.eq_false_or_eq_true ((!(rangeB r.hlo r.hhi 0 100))) with h3 | h3
   ·
    refine aw_r [(2, .call [] (.b (rangeB r.slo r.shi 0 5000)) []), (4, .dec false), (7, .call [] (.b (rangeB r.ulo r.uhi 0 5000)) []), (10, .dec false), (13, .call [] (.b (rangeB r.hlo r.hhi 0 100)) []), (16, .dec true)]
     ⟨114, [2], [(1, .l (.ref 1001 0)), (44, .b true)], [(2, some (refRules_frK1 r)), (1001, some (refRules_frK2 r))]⟩
     [CallOK Try.prog 64 [.agg [.i r.slo, .i r.shi], .i 0, .i 5000] [] [] (.b (rangeB r.slo r.shi 0 5000)) [], (!(rangeB r.slo r.shi 0 5000)) = false, CallOK Try.prog 64 [.agg [.i r.ulo, .i r.uhi], .i 0, .i 5000] [] [] (.b (rangeB r.ulo r.uhi 0 5000)) [], (!(rangeB r.ulo r.uhi 0 5000)) = false, CallOK Try.prog 64 [.agg [.i r.hlo, .i r.hhi], .i 0, .i 100] [] [] (.b (rangeB r.hlo r.hhi 0 100)) [], (!(rangeB r.hlo r.hhi 0 100)) = true] (by kernel_rfl) (al2 (CallFr.to (refSpan_fr r.slo r.shi 0 5000) [] (by kernel_rfl) (by kernel_rfl) (by kernel_rfl) (by kernel_rfl) (by kernel_rfl) dem_nil) (al2 h1 (al2 (CallFr.to (refSpan_fr r.ulo r.uhi 0 5000) [] (by kernel_rfl) (by kernel_rfl) (by kernel_rfl) (by kernel_rfl) (by kernel_rfl) dem_nil) (al2 h2 (al2 (CallFr.to (refSpan_fr r.hlo r.hhi 0 100) [] (by kernel_rfl) (by kernel_rfl) (by kernel_rfl) (by kernel_rfl) (by kernel_rfl) dem_nil) (al1 h3)))))) ?_
    refine aw_true rfl ?_
    refine aw_seq ?_
    refine aw_r []
     ⟨114, [2], [(2, .b false)], []⟩
     [] (by kernel_rfl) trivial ?_
    exact aw_ret (ret_then ⟨.inr rfl, end_ok ⟨114, [2], [(2, .b (ruleB r))], []⟩
        (Ent.ren [] rfl rfl (by kernel_rfl) ⟨(slot_b (a := false) rfl (by first | rfl | omega | assumption | (simp_all [ruleB]))), trivial⟩ trivial (by kernel_rfl)) rfl (by kernel_rfl) wr_nil (by kernel_rfl)⟩)
   ·
    rcases Bool.eq_false_or_eq_true ((!(within 1 5000 [r.apart]))) with h4 | h4
    ·
     refine aw_r [(2, .call [] (.b (rangeB r.slo r.shi 0 5000)) []), (4, .dec false), (7, .call [] (.b (rangeB r.ulo r.uhi 0 5000)) []), (10, .dec false), (13, .call [] (.b (rangeB r.hlo r.hhi 0 100)) []), (16, .dec false), (19, .call [] (.b (within 1 5000 [r.apart])) []), (22, .dec true)]
      ⟨114, [2], [(1, .l (.ref 1001 0)), (44, .b true)], [(2, some (refRules_frK1 r)), (1001, some (refRules_frK2 r))]⟩
      [CallOK Try.prog 64 [.agg [.i r.slo, .i r.shi], .i 0, .i 5000] [] [] (.b (rangeB r.slo r.shi 0 5000)) [], (!(rangeB r.slo r.shi 0 5000)) = false, CallOK Try.prog 64 [.agg [.i r.ulo, .i r.uhi], .i 0, .i 5000] [] [] (.b (rangeB r.ulo r.uhi 0 5000)) [], (!(rangeB r.ulo r.uhi 0 5000)) = false, CallOK Try.prog 64 [.agg [.i r.hlo, .i r.hhi], .i 0, .i 100] [] [] (.b (rangeB r.hlo r.hhi 0 100)) [], (!(rangeB r.hlo r.hhi 0 100)) = false, CallOK Try.prog 63 [.i r.apart, .i 1, .i 5000] [] [] (.b (within 1 5000 [r.apart])) [], (!(within 1 5000 [r.apart])) = true] (by kernel_rfl) (al2 (CallFr.to (refSpan_fr r.slo r.shi 0 5000) [] (by kernel_rfl) (by kernel_rfl) (by kernel_rfl) (by kernel_rfl) (by kernel_rfl) dem_nil) (al2 h1 (al2 (CallFr.to (refSpan_fr r.ulo r.uhi 0 5000) [] (by kernel_rfl) (by kernel_rfl) (by kernel_rfl) (by kernel_rfl) (by kernel_rfl) dem_nil) (al2 h2 (al2 (CallFr.to (refSpan_fr r.hlo r.hhi 0 100) [] (by kernel_rfl) (by kernel_rfl) (by kernel_rfl) (by kernel_rfl) (by kernel_rfl) dem_nil) (al2 h3 (al2 (CallFr.to (refIn_fr r.apart 1 5000) [] (by kernel_rfl) (by kernel_rfl) (by kernel_rfl) (by kernel_rfl) (by kernel_rfl) dem_nil) (al1 h4)))))))) ?_
     refine aw_true rfl ?_
     refine aw_seq ?_
     refine aw_r []
      ⟨114, [2], [(2, .b false)], []⟩
      [] (by kernel_rfl) trivial ?_
     exact aw_ret (ret_then ⟨.inr rfl, end_ok ⟨114, [2], [(2, .b (ruleB r))], []⟩
         (Ent.ren [] rfl rfl (by kernel_rfl) ⟨(slot_b (a := false) rfl (by first | rfl | omega | assumption | (simp_all [ruleB]))), trivial⟩ trivial (by kernel_rfl)) rfl (by kernel_rfl) wr_nil (by kernel_rfl)⟩)
    ·
     rcases Bool.eq_false_or_eq_true ((!(rangeB r.blo r.bhi 0 5000))) with h5 | h5
     ·
      refine aw_r [(2, .call [] (.b (rangeB r.slo r.shi 0 5000)) []), (4, .dec false), (7, .call [] (.b (rangeB r.ulo r.uhi 0 5000)) []), (10, .dec false), (13, .call [] (.b (rangeB r.hlo r.hhi 0 100)) []), (16, .dec false), (19, .call [] (.b (within 1 5000 [r.apart])) []), (22, .dec false), (25, .call [] (.b (rangeB r.blo r.bhi 0 5000)) []), (28, .dec true)]
       ⟨114, [2], [(1, .l (.ref 1001 0)), (44, .b true)], [(2, some (refRules_frK1 r)), (1001, some (refRules_frK2 r))]⟩
       [CallOK Try.prog 64 [.agg [.i r.slo, .i r.shi], .i 0, .i 5000] [] [] (.b (rangeB r.slo r.shi 0 5000)) [], (!(rangeB r.slo r.shi 0 5000)) = false, CallOK Try.prog 64 [.agg [.i r.ulo, .i r.uhi], .i 0, .i 5000] [] [] (.b (rangeB r.ulo r.uhi 0 5000)) [], (!(rangeB r.ulo r.uhi 0 5000)) = false, CallOK Try.prog 64 [.agg [.i r.hlo, .i r.hhi], .i 0, .i 100] [] [] (.b (rangeB r.hlo r.hhi 0 100)) [], (!(rangeB r.hlo r.hhi 0 100)) = false, CallOK Try.prog 63 [.i r.apart, .i 1, .i 5000] [] [] (.b (within 1 5000 [r.apart])) [], (!(within 1 5000 [r.apart])) = false, CallOK Try.prog 64 [.agg [.i r.blo, .i r.bhi], .i 0, .i 5000] [] [] (.b (rangeB r.blo r.bhi 0 5000)) [], (!(rangeB r.blo r.bhi 0 5000)) = true] (by kernel_rfl) (al2 (CallFr.to (refSpan_fr r.slo r.shi 0 5000) [] (by kernel_rfl) (by kernel_rfl) (by kernel_rfl) (by kernel_rfl) (by kernel_rfl) dem_nil) (al2 h1 (al2 (CallFr.to (refSpan_fr r.ulo r.uhi 0 5000) [] (by kernel_rfl) (by kernel_rfl) (by kernel_rfl) (by kernel_rfl) (by kernel_rfl) dem_nil) (al2 h2 (al2 (CallFr.to (refSpan_fr r.hlo r.hhi 0 100) [] (by kernel_rfl) (by kernel_rfl) (by kernel_rfl) (by kernel_rfl) (by kernel_rfl) dem_nil) (al2 h3 (al2 (CallFr.to (refIn_fr r.apart 1 5000) [] (by kernel_rfl) (by kernel_rfl) (by kernel_rfl) (by kernel_rfl) (by kernel_rfl) dem_nil) (al2 h4 (al2 (CallFr.to (refSpan_fr r.blo r.bhi 0 5000) [] (by kernel_rfl) (by kernel_rfl) (by kernel_rfl) (by kernel_rfl) (by kernel_rfl) dem_nil) (al1 h5)))))))))) ?_
      refine aw_true rfl ?_
      refine aw_seq ?_
      refine aw_r []
       ⟨114, [2], [(2, .b false)], []⟩
       [] (by kernel_rfl) trivial ?_
      exact aw_ret (ret_then ⟨.inr rfl, end_ok ⟨114, [2], [(2, .b (ruleB r))], []⟩
          (Ent.ren [] rfl rfl (by kernel_rfl) ⟨(slot_b (a := false) rfl (by first | rfl | omega | assumption | (simp_all [ruleB]))), trivial⟩ trivial (by kernel_rfl)) rfl (by kernel_rfl) wr_nil (by kernel_rfl)⟩)
     ·
      rcases Bool.eq_false_or_eq_true (decide (10 < ((r.sizes.length : Nat) : Int))) with h6 | h6
      ·
       have h6p : 10 < ((r.sizes.length : Nat) : Int) := dtr h6
       refine aw_r [(2, .call [] (.b (rangeB r.slo r.shi 0 5000)) []), (4, .dec false), (7, .call [] (.b (rangeB r.ulo r.uhi 0 5000)) []), (10, .dec false), (13, .call [] (.b (rangeB r.hlo r.hhi 0 100)) []), (16, .dec false), (19, .call [] (.b (within 1 5000 [r.apart])) []), (22, .dec false), (25, .call [] (.b (rangeB r.blo r.bhi 0 5000)) []), (28, .dec false), (34, .dec true)]
        ⟨114, [2], [(1, .l (.ref 1001 0)), (44, .b true)], [(2, some (refRules_frK1 r)), (1001, some (refRules_frK2 r))]⟩
        [CallOK Try.prog 64 [.agg [.i r.slo, .i r.shi], .i 0, .i 5000] [] [] (.b (rangeB r.slo r.shi 0 5000)) [], (!(rangeB r.slo r.shi 0 5000)) = false, CallOK Try.prog 64 [.agg [.i r.ulo, .i r.uhi], .i 0, .i 5000] [] [] (.b (rangeB r.ulo r.uhi 0 5000)) [], (!(rangeB r.ulo r.uhi 0 5000)) = false, CallOK Try.prog 64 [.agg [.i r.hlo, .i r.hhi], .i 0, .i 100] [] [] (.b (rangeB r.hlo r.hhi 0 100)) [], (!(rangeB r.hlo r.hhi 0 100)) = false, CallOK Try.prog 63 [.i r.apart, .i 1, .i 5000] [] [] (.b (within 1 5000 [r.apart])) [], (!(within 1 5000 [r.apart])) = false, CallOK Try.prog 64 [.agg [.i r.blo, .i r.bhi], .i 0, .i 5000] [] [] (.b (rangeB r.blo r.bhi 0 5000)) [], (!(rangeB r.blo r.bhi 0 5000)) = false, decide (10 < ((r.sizes.length : Nat) : Int)) = true] (by kernel_rfl) (al2 (CallFr.to (refSpan_fr r.slo r.shi 0 5000) [] (by kernel_rfl) (by kernel_rfl) (by kernel_rfl) (by kernel_rfl) (by kernel_rfl) dem_nil) (al2 h1 (al2 (CallFr.to (refSpan_fr r.ulo r.uhi 0 5000) [] (by kernel_rfl) (by kernel_rfl) (by kernel_rfl) (by kernel_rfl) (by kernel_rfl) dem_nil) (al2 h2 (al2 (CallFr.to (refSpan_fr r.hlo r.hhi 0 100) [] (by kernel_rfl) (by kernel_rfl) (by kernel_rfl) (by kernel_rfl) (by kernel_rfl) dem_nil) (al2 h3 (al2 (CallFr.to (refIn_fr r.apart 1 5000) [] (by kernel_rfl) (by kernel_rfl) (by kernel_rfl) (by kernel_rfl) (by kernel_rfl) dem_nil) (al2 h4 (al2 (CallFr.to (refSpan_fr r.blo r.bhi 0 5000) [] (by kernel_rfl) (by kernel_rfl) (by kernel_rfl) (by kernel_rfl) (by kernel_rfl) dem_nil) (al2 h5 (al1 h6))))))))))) ?_
       refine aw_true rfl ?_
       refine aw_seq ?_
       refine aw_r []
        ⟨114, [2], [(2, .b false)], []⟩
        [] (by kernel_rfl) trivial ?_
       exact aw_ret (ret_then ⟨.inr rfl, end_ok ⟨114, [2], [(2, .b (ruleB r))], []⟩
           (Ent.ren [] rfl rfl (by kernel_rfl) ⟨(slot_b (a := false) rfl (by first | rfl | omega | assumption | (simp_all [ruleB]))), trivial⟩ trivial (by kernel_rfl)) rfl (by kernel_rfl) wr_nil (by kernel_rfl)⟩)
      ·
       have h6p : ((r.sizes.length : Nat) : Int) ≤ 10 := dlt h6
       refine aw_r [(2, .call [] (.b (rangeB r.slo r.shi 0 5000)) []), (4, .dec false), (7, .call [] (.b (rangeB r.ulo r.uhi 0 5000)) []), (10, .dec false), (13, .call [] (.b (rangeB r.hlo r.hhi 0 100)) []), (16, .dec false), (19, .call [] (.b (within 1 5000 [r.apart])) []), (22, .dec false), (25, .call [] (.b (rangeB r.blo r.bhi 0 5000)) []), (28, .dec false), (34, .dec false), (37, .call [] (.b (within 0 60 [r.opn])) [])]
        ⟨114, [2], [(1, .l (.ref 1001 0)), (44, .b (!(within 0 60 [r.opn])))], [(2, some (refRules_frK1 r)), (1001, some (refRules_frK2 r))]⟩
        [CallOK Try.prog 64 [.agg [.i r.slo, .i r.shi], .i 0, .i 5000] [] [] (.b (rangeB r.slo r.shi 0 5000)) [], (!(rangeB r.slo r.shi 0 5000)) = false, CallOK Try.prog 64 [.agg [.i r.ulo, .i r.uhi], .i 0, .i 5000] [] [] (.b (rangeB r.ulo r.uhi 0 5000)) [], (!(rangeB r.ulo r.uhi 0 5000)) = false, CallOK Try.prog 64 [.agg [.i r.hlo, .i r.hhi], .i 0, .i 100] [] [] (.b (rangeB r.hlo r.hhi 0 100)) [], (!(rangeB r.hlo r.hhi 0 100)) = false, CallOK Try.prog 63 [.i r.apart, .i 1, .i 5000] [] [] (.b (within 1 5000 [r.apart])) [], (!(within 1 5000 [r.apart])) = false, CallOK Try.prog 64 [.agg [.i r.blo, .i r.bhi], .i 0, .i 5000] [] [] (.b (rangeB r.blo r.bhi 0 5000)) [], (!(rangeB r.blo r.bhi 0 5000)) = false, decide (10 < ((r.sizes.length : Nat) : Int)) = false, CallOK Try.prog 63 [.i r.opn, .i 0, .i 60] [] [] (.b (within 0 60 [r.opn])) []] (by kernel_rfl) (al2 (CallFr.to (refSpan_fr r.slo r.shi 0 5000) [] (by kernel_rfl) (by kernel_rfl) (by kernel_rfl) (by kernel_rfl) (by kernel_rfl) dem_nil) (al2 h1 (al2 (CallFr.to (refSpan_fr r.ulo r.uhi 0 5000) [] (by kernel_rfl) (by kernel_rfl) (by kernel_rfl) (by kernel_rfl) (by kernel_rfl) dem_nil) (al2 h2 (al2 (CallFr.to (refSpan_fr r.hlo r.hhi 0 100) [] (by kernel_rfl) (by kernel_rfl) (by kernel_rfl) (by kernel_rfl) (by kernel_rfl) dem_nil) (al2 h3 (al2 (CallFr.to (refIn_fr r.apart 1 5000) [] (by kernel_rfl) (by kernel_rfl) (by kernel_rfl) (by kernel_rfl) (by kernel_rfl) dem_nil) (al2 h4 (al2 (CallFr.to (refSpan_fr r.blo r.bhi 0 5000) [] (by kernel_rfl) (by kernel_rfl) (by kernel_rfl) (by kernel_rfl) (by kernel_rfl) dem_nil) (al2 h5 (al2 h6 (al1 (CallFr.to (refIn_fr r.opn 0 60) [] (by kernel_rfl) (by kernel_rfl) (by kernel_rfl) (by kernel_rfl) (by kernel_rfl) dem_nil))))))))))))) ?_
       refine aw_cond (b := (!(within 0 60 [r.opn]))) rfl (fun h7 => ?_) (fun h7 => ?_)
       ·
        refine aw_seq ?_
        refine aw_r []
         ⟨114, [2], [(2, .b false)], []⟩
         [] (by kernel_rfl) trivial ?_
        exact aw_ret (ret_then ⟨.inr rfl, end_ok ⟨114, [2], [(2, .b (ruleB r))], []⟩
            (Ent.ren [] rfl rfl (by kernel_rfl) ⟨(slot_b (a := false) rfl (by first | rfl | omega | assumption | (simp_all [ruleB]))), trivial⟩ trivial (by kernel_rfl)) rfl (by kernel_rfl) wr_nil (by kernel_rfl)⟩)
       ·
        refine aw_skip ?_
        refine aw_seq ?_
        refine aw_seq ?_
        refine aw_r []
         ⟨114, [2], [(1, .l (.ref 1001 0)), (3, .i 0)], [(2, some (refRules_frK1 r)), (1001, some (refRules_frK2 r))]⟩
         [] (by kernel_rfl) trivial ?_
        refine aw_block ?_
        refine aw_loop (ι := Nat) (fun zz => ⟨114, [2], [(1, .l (.ref 1001 0)), (3, .i ((zz : Nat) : Int))], [(2, some (refRules_frK1 r)), (1001, some (refRules_frK2 r))]⟩) (fun zz => (zz ≤ 5) ∧ (∀ j, j < zz → within 0 20 [healV r ((j : Nat) : Int)] = true)) (fun zz => 5 - zz) 0 ⟨(by first | omega | rfl | assumption | (simp; done)), (by intro j hj; omega)⟩
            (Ent.ren [] rfl rfl (by kernel_rfl) ⟨rfl, rfl, trivial⟩ (cro rfl (cbl rfl rfl trivial)) (by kernel_rfl)) fun zz hp => ?_
        obtain ⟨i, rfl⟩ : ∃ x, x = zz := ⟨_, rfl⟩
        obtain ⟨hi5, hh⟩ := hp
        show AW _ E _ _ ⟨114, [2], [(1, .l (.ref 1001 0)), (3, .i ((i : Nat) : Int))], [(2, some (refRules_frK1 r)), (1001, some (refRules_frK2 r))]⟩
        refine aw_seq ?_
        refine aw_seq ?_
        refine aw_r []
         ⟨114, [2], [(1, .l (.ref 1001 0)), (3, .i ((i : Nat) : Int)), (46, .b (decide (((i : Nat) : Int) < 5)))], [(2, some (refRules_frK1 r)), (1001, some (refRules_frK2 r))]⟩
         [] (by kernel_rfl) trivial ?_
        refine aw_cond (b := decide (((i : Nat) : Int) < 5)) rfl (fun h8 => ?_) (fun h8 => ?_)
        ·
         have h8p : ((i : Nat) : Int) < 5 := dtr h8
         refine aw_skip ?_
         refine aw_seq ?_
         refine aw_block ?_
         refine aw_seq ?_
         refine aw_r [(2, .act [1001] (.l (.ref 1001 (10 + i * 1))) []), (3, .act [1001] (.i (healV r ((i : Nat) : Int))) []), (4, .call [] (.b (within 0 20 [(healV r ((i : Nat) : Int))])) [])]
          ⟨114, [2], [(1, .l (.ref 1001 0)), (3, .i ((i : Nat) : Int)), (54, .b (!(within 0 20 [(healV r ((i : Nat) : Int))])))], [(2, some (refRules_frK1 r)), (1001, some (refRules_frK2 r))]⟩
          [ActOK Try.prog (.indexAddr 28 (.tmp 50) (.tmp 49)) 0 [.l (.ref 1001 10), .i ((i : Nat) : Int)] [1001] [some (refRules_frK2 r)] (.l (.ref 1001 (10 + i * 1))) [], ActOK Try.prog (.load 3 (.tmp 51)) 3 [.l (.ref 1001 (10 + i * 1))] [1001] [some (refRules_frK2 r)] (.i (healV r ((i : Nat) : Int))) [], CallOK Try.prog 63 [.i (healV r ((i : Nat) : Int)), .i 0, .i 20] [] [] (.b (within 0 20 [(healV r ((i : Nat) : Int))])) []] (by kernel_rfl) (al2 (act_idxAt2 (k := i) (n := 5) (e := 3) (m := 1) (by kernel_rfl) (by kernel_rfl) rfl (by omega) (by omega) (by omega)) (al2 (act_loadAt (by kernel_rfl) rfl (by rcases (show i = 0 ∨ i = 1 ∨ i = 2 ∨ i = 3 ∨ i = 4 by omega) with e | e | e | e | e <;> rw [e] <;> rfl)) (al1 (CallFr.to (refIn_fr (healV r ((i : Nat) : Int)) 0 20) [] (by kernel_rfl) (by kernel_rfl) (by kernel_rfl) (by kernel_rfl) (by kernel_rfl) dem_nil)))) ?_
         refine aw_cond (b := (!(within 0 20 [(healV r ((i : Nat) : Int))]))) rfl (fun h9 => ?_) (fun h9 => ?_)
         ·
          refine aw_seq ?_
          have hf : within 0 20 [r.n0, r.n1, r.n2, r.n3, r.n4] = false := heal_not (i := i) (by omega) (by simpa using (by assumption : (!(within 0 20 [healV r ((i : Nat) : Int)])) = true))
          refine aw_r []
           ⟨114, [2], [(2, .b false)], []⟩
           [] (by kernel_rfl) trivial ?_
          exact aw_ret (ret_block (ret_then (ret_then (ret_block (ret_then ⟨.inr rfl, end_ok ⟨114, [2], [(2, .b (ruleB r))], []⟩
              (Ent.ren [] rfl rfl (by kernel_rfl) ⟨(slot_b (a := false) rfl (by first | rfl | omega | assumption | (simp_all [ruleB]))), trivial⟩ trivial (by kernel_rfl)) rfl (by kernel_rfl) wr_nil (by kernel_rfl)⟩)))))
         ·
          refine aw_skip ?_
          refine aw_r [(1, .num (((i + 1) : Nat) : Int))]
           ⟨114, [2], [(1, .l (.ref 1001 0)), (3, .i (((i + 1) : Nat) : Int))], [(2, some (refRules_frK1 r)), (1001, some (refRules_frK2 r))]⟩
           [(((i : Nat) : Int) + 1) = (((i + 1) : Nat) : Int), -9223372036854775808 ≤ (((i + 1) : Nat) : Int) ∧ (((i + 1) : Nat) : Int) < 9223372036854775808] (by kernel_rfl) (al2 (by omega) (al1 (by omega))) ?_
          exact ⟨(i + 1), ⟨(by first | omega | rfl | assumption | (simp; done)), (by exact heal_snoc hh (by simpa using (by assumption : (!(within 0 20 [healV r ((i : Nat) : Int)])) = false)))⟩, (show 5 - (i + 1) < 5 - i by first | omega | rfl | assumption),
              (Ent.ren [] rfl rfl (by kernel_rfl) ⟨rfl, rfl, trivial⟩ (cro rfl (cbl rfl rfl trivial)) (by kernel_rfl))⟩
        ·
         have h8p : 5 ≤ ((i : Nat) : Int) := dlt h8
         refine aw_exit (exit_then (exit_then (exit_in ?_)))
         refine aw_seq ?_
         refine aw_seq ?_
         have hH : within 0 20 [r.n0, r.n1, r.n2, r.n3, r.n4] = true := heal_all (fun j hj => hh j (by omega))
         refine aw_r []
          ⟨114, [2], [(1, .l (.ref 1001 0)), (4, .i 0)], [(2, some (refRules_frK1 r)), (1001, some (refRules_frK2 r))]⟩
          [] (by kernel_rfl) trivial ?_
         refine aw_block ?_
         refine aw_loop (ι := Nat) (fun zz => ⟨114, [2], [(1, .l (.ref 1001 0)), (4, .i ((zz : Nat) : Int))], [(2, some (refRules_frK1 r)), (1001, some (refRules_frK2 r))]⟩) (fun zz => (zz ≤ r.sizes.length) ∧ (0 ≤ preG r.sizes zz ∧ 0 ≤ preT r.sizes zz ∧ preG r.sizes zz ≤ 10000) ∧ (sizesB (preG r.sizes zz) (preT r.sizes zz) (r.sizes.drop zz) = sizesB 0 0 r.sizes)) (fun zz => r.sizes.length - zz) 0 ⟨(by first | omega | rfl | assumption | (simp; done)), (by simp [preG, preT]), (by rfl)⟩
             (Ent.ren [] rfl rfl (by kernel_rfl) ⟨rfl, rfl, trivial⟩ (cro rfl (cbl rfl rfl trivial)) (by kernel_rfl)) fun zz hp => ?_
         obtain ⟨k, rfl⟩ : ∃ x, x = zz := ⟨_, rfl⟩
         obtain ⟨hkL, hb, hs⟩ := hp
         show AW _ E _ _ ⟨114, [2], [(1, .l (.ref 1001 0)), (4, .i ((k : Nat) : Int))], [(2, some (refRules_frK1 r)), (1001, some (refRules_frK2 r))]⟩
         refine aw_seq ?_
         refine aw_seq ?_
         refine aw_r []
          ⟨114, [2], [(1, .l (.ref 1001 0)), (4, .i ((k : Nat) : Int)), (59, .b (decide (((k : Nat) : Int) < ((r.sizes.length : Nat) : Int))))], [(2, some (refRules_frK1 r)), (1001, some (refRules_frK2 r))]⟩
          [] (by kernel_rfl) trivial ?_
         refine aw_cond (b := decide (((k : Nat) : Int) < ((r.sizes.length : Nat) : Int))) rfl (fun h10 => ?_) (fun h10 => ?_)
         ·
          have h10p : ((k : Nat) : Int) < ((r.sizes.length : Nat) : Int) := dtr h10
          refine aw_skip ?_
          refine aw_seq ?_
          refine aw_block ?_
          refine aw_seq ?_
          refine aw_seq ?_
          rcases Bool.eq_false_or_eq_true ((!(within 1 10000 [((ix r.sizes k).girth)]))) with h11 | h11
          ·
           refine aw_r [(3, .idx k), (6, .call [] (.b (within 1 10000 [((ix r.sizes k).girth)])) []), (8, .dec true)]
            ⟨114, [2], [(1, .l (.ref 1001 0)), (4, .i ((k : Nat) : Int)), (79, .b true)], [(2, some (refRules_frK1 r)), (1001, some (refRules_frK2 r))]⟩
            [((k : Nat) : Int) = ((k : Nat) : Int), k < r.sizes.length, k < r.sizes.length, k < r.sizes.length, CallOK Try.prog 63 [.i ((ix r.sizes k).girth), .i 1, .i 10000] [] [] (.b (within 1 10000 [((ix r.sizes k).girth)])) [], (!(within 1 10000 [((ix r.sizes k).girth)])) = true] (by kernel_rfl) (al2 (by omega) (al2 (by omega) (al2 (by omega) (al2 (by omega) (al2 (CallFr.to (refIn_fr ((ix r.sizes k).girth) 1 10000) [] (by kernel_rfl) (by kernel_rfl) (by kernel_rfl) (by kernel_rfl) (by kernel_rfl) dem_nil) (al1 h11)))))) ?_
           refine aw_true rfl ?_
           refine aw_seq ?_
           have hf : sizesB 0 0 r.sizes = false := by
            rw [← hs]
            exact sz_bad1 (by omega) hb (by first | exact .inl (by simpa using (by assumption : (!(within 1 10000 [_])) = true)) | exact .inr (by simpa using (by assumption : (!(within 0 20 [_])) = true)))
           refine aw_r []
            ⟨114, [2], [(2, .b false)], []⟩
            [] (by kernel_rfl) trivial ?_
           exact aw_ret (ret_then (ret_block (ret_then (ret_then (ret_block (ret_then ⟨.inr rfl, end_ok ⟨114, [2], [(2, .b (ruleB r))], []⟩
               (Ent.ren [] rfl rfl (by kernel_rfl) ⟨(slot_b (a := false) rfl (by first | rfl | omega | assumption | (simp_all [ruleB]))), trivial⟩ trivial (by kernel_rfl)) rfl (by kernel_rfl) wr_nil (by kernel_rfl)⟩))))))
          ·
           refine aw_r [(3, .idx k), (6, .call [] (.b (within 1 10000 [((ix r.sizes k).girth)])) []), (8, .dec false), (12, .idx k), (15, .call [] (.b (within 0 20 [((ix r.sizes k).taps)])) [])]
            ⟨114, [2], [(1, .l (.ref 1001 0)), (4, .i ((k : Nat) : Int)), (79, .b (!(within 0 20 [((ix r.sizes k).taps)])))], [(2, some (refRules_frK1 r)), (1001, some (refRules_frK2 r))]⟩
            [((k : Nat) : Int) = ((k : Nat) : Int), k < r.sizes.length, k < r.sizes.length, k < r.sizes.length, CallOK Try.prog 63 [.i ((ix r.sizes k).girth), .i 1, .i 10000] [] [] (.b (within 1 10000 [((ix r.sizes k).girth)])) [], (!(within 1 10000 [((ix r.sizes k).girth)])) = false, ((k : Nat) : Int) = ((k : Nat) : Int), k < r.sizes.length, k < r.sizes.length, k < r.sizes.length, CallOK Try.prog 63 [.i ((ix r.sizes k).taps), .i 0, .i 20] [] [] (.b (within 0 20 [((ix r.sizes k).taps)])) []] (by kernel_rfl) (al2 (by omega) (al2 (by omega) (al2 (by omega) (al2 (by omega) (al2 (CallFr.to (refIn_fr ((ix r.sizes k).girth) 1 10000) [] (by kernel_rfl) (by kernel_rfl) (by kernel_rfl) (by kernel_rfl) (by kernel_rfl) dem_nil) (al2 h11 (al2 (by omega) (al2 (by omega) (al2 (by omega) (al2 (by omega) (al1 (CallFr.to (refIn_fr ((ix r.sizes k).taps) 0 20) [] (by kernel_rfl) (by kernel_rfl) (by kernel_rfl) (by kernel_rfl) (by kernel_rfl) dem_nil)))))))))))) ?_
           refine aw_cond (b := (!(within 0 20 [((ix r.sizes k).taps)]))) rfl (fun h12 => ?_) (fun h12 => ?_)
           ·
            refine aw_seq ?_
            have hf : sizesB 0 0 r.sizes = false := by
             rw [← hs]
             exact sz_bad1 (by omega) hb (by first | exact .inl (by simpa using (by assumption : (!(within 1 10000 [_])) = true)) | exact .inr (by simpa using (by assumption : (!(within 0 20 [_])) = true)))
            refine aw_r []
             ⟨114, [2], [(2, .b false)], []⟩
             [] (by kernel_rfl) trivial ?_
            exact aw_ret (ret_then (ret_block (ret_then (ret_then (ret_block (ret_then ⟨.inr rfl, end_ok ⟨114, [2], [(2, .b (ruleB r))], []⟩
                (Ent.ren [] rfl rfl (by kernel_rfl) ⟨(slot_b (a := false) rfl (by first | rfl | omega | assumption | (simp_all [ruleB]))), trivial⟩ trivial (by kernel_rfl)) rfl (by kernel_rfl) wr_nil (by kernel_rfl)⟩))))))
           ·
            refine aw_skip ?_
            refine aw_seq ?_
            rcases Bool.eq_false_or_eq_true (decide (0 < ((k : Nat) : Int))) with h13 | h13
            ·
             have h13p : 0 < ((k : Nat) : Int) := dtr h13
             rcases Bool.eq_false_or_eq_true (decide ((ix r.sizes k).girth ≤ (ix r.sizes ((((k : Nat) : Int) - 1).toNat)).girth)) with h14 | h14
             ·
              have h14p : (ix r.sizes k).girth ≤ (ix r.sizes ((((k : Nat) : Int) - 1).toNat)).girth := dtr h14
              refine aw_d [(2, .dec true), (6, .idx k), (13, .idx ((((k : Nat) : Int) - 1).toNat)), (17, .dec true)]
               ⟨114, [2], [(1, .l (.ref 1001 0)), (4, .i ((k : Nat) : Int)), (113, .b true)], [(2, some (refRules_frK1 r)), (1001, some (refRules_frK2 r))]⟩
               [decide (0 < ((k : Nat) : Int)) = true, ((k : Nat) : Int) = ((k : Nat) : Int), k < r.sizes.length, k < r.sizes.length, k < r.sizes.length, -9223372036854775808 ≤ (((k : Nat) : Int) - 1) ∧ (((k : Nat) : Int) - 1) < 9223372036854775808, (((k : Nat) : Int) - 1) = (((((k : Nat) : Int) - 1).toNat : Nat) : Int), (((k : Nat) : Int) - 1).toNat < r.sizes.length, (((k : Nat) : Int) - 1).toNat < r.sizes.length, (((k : Nat) : Int) - 1).toNat < r.sizes.length, decide ((ix r.sizes k).girth ≤ (ix r.sizes ((((k : Nat) : Int) - 1).toNat)).girth) = true] (by kernel_rfl) (by kernel_rfl) (al2 h13 (al2 (by omega) (al2 (by omega) (al2 (by omega) (al2 (by omega) (al2 (by omega) (al2 (by omega) (al2 (by omega) (al2 (by omega) (al2 (by omega) (al1 h14))))))))))) ?_
              refine aw_true rfl ?_
              refine aw_seq ?_
              have hf : sizesB 0 0 r.sizes = false := by
               rw [← hs]
               exact sz_bad2 (by omega) (by omega) (by (rw [← ix_sub (by omega)]; omega))
              refine aw_r []
               ⟨114, [2], [(2, .b false)], []⟩
               [] (by kernel_rfl) trivial ?_
              exact aw_ret (ret_block (ret_then (ret_then (ret_block (ret_then ⟨.inr rfl, end_ok ⟨114, [2], [(2, .b (ruleB r))], []⟩
                  (Ent.ren [] rfl rfl (by kernel_rfl) ⟨(slot_b (a := false) rfl (by first | rfl | omega | assumption | (simp_all [ruleB]))), trivial⟩ trivial (by kernel_rfl)) rfl (by kernel_rfl) wr_nil (by kernel_rfl)⟩)))))
             ·
              have h14p : (ix r.sizes ((((k : Nat) : Int) - 1).toNat)).girth < (ix r.sizes k).girth := dle h14
              refine aw_d [(2, .dec true), (6, .idx k), (13, .idx ((((k : Nat) : Int) - 1).toNat)), (17, .dec false), (21, .idx k), (28, .idx ((((k : Nat) : Int) - 1).toNat))]
               ⟨114, [2], [(1, .l (.ref 1001 0)), (4, .i ((k : Nat) : Int)), (113, .b (decide ((ix r.sizes k).taps < (ix r.sizes ((((k : Nat) : Int) - 1).toNat)).taps)))], [(2, some (refRules_frK1 r)), (1001, some (refRules_frK2 r))]⟩
               [decide (0 < ((k : Nat) : Int)) = true, ((k : Nat) : Int) = ((k : Nat) : Int), k < r.sizes.length, k < r.sizes.length, k < r.sizes.length, -9223372036854775808 ≤ (((k : Nat) : Int) - 1) ∧ (((k : Nat) : Int) - 1) < 9223372036854775808, (((k : Nat) : Int) - 1) = (((((k : Nat) : Int) - 1).toNat : Nat) : Int), (((k : Nat) : Int) - 1).toNat < r.sizes.length, (((k : Nat) : Int) - 1).toNat < r.sizes.length, (((k : Nat) : Int) - 1).toNat < r.sizes.length, decide ((ix r.sizes k).girth ≤ (ix r.sizes ((((k : Nat) : Int) - 1).toNat)).girth) = false, ((k : Nat) : Int) = ((k : Nat) : Int), k < r.sizes.length, k < r.sizes.length, k < r.sizes.length, -9223372036854775808 ≤ (((k : Nat) : Int) - 1) ∧ (((k : Nat) : Int) - 1) < 9223372036854775808, (((k : Nat) : Int) - 1) = (((((k : Nat) : Int) - 1).toNat : Nat) : Int), (((k : Nat) : Int) - 1).toNat < r.sizes.length, (((k : Nat) : Int) - 1).toNat < r.sizes.length, (((k : Nat) : Int) - 1).toNat < r.sizes.length] (by kernel_rfl) (by kernel_rfl) (al2 h13 (al2 (by omega) (al2 (by omega) (al2 (by omega) (al2 (by omega) (al2 (by omega) (al2 (by omega) (al2 (by omega) (al2 (by omega) (al2 (by omega) (al2 h14 (al2 (by omega) (al2 (by omega) (al2 (by omega) (al2 (by omega) (al2 (by omega) (al2 (by omega) (al2 (by omega) (al2 (by omega) (al1 (by omega))))))))))))))))))))) ?_
              refine aw_cond (b := decide ((ix r.sizes k).taps < (ix r.sizes ((((k : Nat) : Int) - 1).toNat)).taps)) rfl (fun h15 => ?_) (fun h15 => ?_)
              ·
               have h15p : (ix r.sizes k).taps < (ix r.sizes ((((k : Nat) : Int) - 1).toNat)).taps := dtr h15
               refine aw_seq ?_
               have hf : sizesB 0 0 r.sizes = false := by
                rw [← hs]
                exact sz_bad2 (by omega) (by omega) (by (rw [← ix_sub (by omega)]; omega))
               refine aw_r []
                ⟨114, [2], [(2, .b false)], []⟩
                [] (by kernel_rfl) trivial ?_
               exact aw_ret (ret_block (ret_then (ret_then (ret_block (ret_then ⟨.inr rfl, end_ok ⟨114, [2], [(2, .b (ruleB r))], []⟩
                   (Ent.ren [] rfl rfl (by kernel_rfl) ⟨(slot_b (a := false) rfl (by first | rfl | omega | assumption | (simp_all [ruleB]))), trivial⟩ trivial (by kernel_rfl)) rfl (by kernel_rfl) wr_nil (by kernel_rfl)⟩)))))
              ·
               have h15p : (ix r.sizes ((((k : Nat) : Int) - 1).toNat)).taps ≤ (ix r.sizes k).taps := dlt h15
               refine aw_skip ?_
               refine aw_r [(1, .num (((k + 1) : Nat) : Int))]
                ⟨114, [2], [(1, .l (.ref 1001 0)), (4, .i (((k + 1) : Nat) : Int))], [(2, some (refRules_frK1 r)), (1001, some (refRules_frK2 r))]⟩
                [(((k : Nat) : Int) + 1) = (((k + 1) : Nat) : Int), -9223372036854775808 ≤ (((k + 1) : Nat) : Int) ∧ (((k + 1) : Nat) : Int) < 9223372036854775808] (by kernel_rfl) (al2 (by omega) (al1 (by omega))) ?_
               have hG := sz_good (l := r.sizes) (k := k) (by omega) hb (by assumption) (by assumption) (by (intro h0; simp only [preG, preT, if_neg (Nat.pos_iff_ne_zero.1 h0)]; rw [← ix_sub h0]; omega))
               exact ⟨(k + 1), ⟨(by first | omega | rfl | assumption | (simp; done)), (by exact hG.2), (by rw [← hs]; exact hG.1.symm)⟩, (show r.sizes.length - (k + 1) < r.sizes.length - k by first | omega | rfl | assumption),
                   (Ent.ren [] rfl rfl (by kernel_rfl) ⟨rfl, rfl, trivial⟩ (cro rfl (cbl rfl rfl trivial)) (by kernel_rfl))⟩
            ·
             have h13p : ((k : Nat) : Int) ≤ 0 := dlt h13
             refine aw_d [(2, .dec false)]
              ⟨114, [2], [(1, .l (.ref 1001 0)), (4, .i ((k : Nat) : Int)), (113, .b false)], [(2, some (refRules_frK1 r)), (1001, some (refRules_frK2 r))]⟩
              [decide (0 < ((k : Nat) : Int)) = false] (by kernel_rfl) (by kernel_rfl) (al1 h13) ?_
             refine aw_false rfl ?_
             refine aw_skip ?_
             refine aw_r [(1, .num (((k + 1) : Nat) : Int))]
              ⟨114, [2], [(1, .l (.ref 1001 0)), (4, .i (((k + 1) : Nat) : Int))], [(2, some (refRules_frK1 r)), (1001, some (refRules_frK2 r))]⟩
              [(((k : Nat) : Int) + 1) = (((k + 1) : Nat) : Int), -9223372036854775808 ≤ (((k + 1) : Nat) : Int) ∧ (((k + 1) : Nat) : Int) < 9223372036854775808] (by kernel_rfl) (al2 (by omega) (al1 (by omega))) ?_
             have hG := sz_good (l := r.sizes) (k := k) (by omega) hb (by assumption) (by assumption) (by (intro h0; simp only [preG, preT, if_neg (Nat.pos_iff_ne_zero.1 h0)]; rw [← ix_sub h0]; omega))
             exact ⟨(k + 1), ⟨(by first | omega | rfl | assumption | (simp; done)), (by exact hG.2), (by rw [← hs]; exact hG.1.symm)⟩, (show r.sizes.length - (k + 1) < r.sizes.length - k by first | omega | rfl | assumption),
                 (Ent.ren [] rfl rfl (by kernel_rfl) ⟨rfl, rfl, trivial⟩ (cro rfl (cbl rfl rfl trivial)) (by kernel_rfl))⟩
         ·
          have h10p : ((r.sizes.length : Nat) : Int) ≤ ((k : Nat) : Int) := dlt h10
          refine aw_exit (exit_then (exit_then (exit_in ?_)))
          refine aw_seq ?_
          have hf : sizesB 0 0 r.sizes = true := by
           rw [← hs, List.drop_eq_nil_of_le (by omega)]
           rfl
          refine aw_r []
           ⟨114, [2], [(2, .b true)], []⟩
           [] (by kernel_rfl) trivial ?_
          exact aw_ret ⟨.inr rfl, end_ok ⟨114, [2], [(2, .b (ruleB r))], []⟩
              (Ent.ren [] rfl rfl (by kernel_rfl) ⟨(slot_b (a := true) rfl (by first | rfl | omega | assumption | (simp_all [ruleB]))), trivial⟩ trivial (by kernel_rfl)) rfl (by kernel_rfl) wr_nil (by kernel_rfl)⟩
def refStart_frK1 (t : TreeV) : Cn := .ro 3 t.holes.length (Lst eH t.holes)
def refStart_frK2 (r : RuleV) : Cn := .ro 2 r.sizes.length (Lst eZ r.sizes)
def refStart_frK3 (t : TreeV) : Cn := .blk 26 [.i t.year, .i t.glo, .i t.ghi, .i t.wlo, .i t.whi, .i t.health, .ls 1]
def refStart_frK4 (r : RuleV) : Cn := .blk 30 [.i r.slo, .i r.shi, .i r.ulo, .i r.uhi, .i r.hlo, .i r.hhi, .i r.apart, .i r.blo, .i r.bhi, .ls 2, .i r.n0, .i r.n1, .i r.n2, .i r.n3, .i r.n4, .i r.opn]
set_option maxRecDepth 100000 in
theorem refStart_fr (t : TreeV) (r : RuleV) (y : Int) (ht : t.holes.length ≤ 1000000) (hr : r.sizes.length ≤ 1000000) : CallFr Try.prog 24 [.agg [.i t.year, .i t.glo, .i t.ghi, .i t.wlo, .i t.whi, .i t.health, .ls 1], .agg [.i r.slo, .i r.shi, .i r.ulo, .i r.uhi, .i r.hlo, .i r.hhi, .i r.apart, .i r.blo, .i r.bhi, .ls 2, .i r.n0, .i r.n1, .i r.n2, .i r.n3, .i r.n4, .i r.opn], .i y] [1, 2] [some (.ro 3 t.holes.length (Lst eH t.holes)), some (.ro 2 r.sizes.length (Lst eZ r.sizes))] (.i (startE t r y)) [] := by
 refine callFr_of (fn := Try.f24) (by kernel_rfl) rfl (by kernel_rfl) (by kernel_rfl) fun E => ?_
 refine aw_ent (T := ⟨20, [1, 2], [(0, .agg [.i t.year, .i t.glo, .i t.ghi, .i t.wlo, .i t.whi, .i t.health, .ls 1]), (1, .agg [.i r.slo, .i r.shi, .i r.ulo, .i r.uhi, .i r.hlo, .i r.hhi, .i r.apart, .i r.blo, .i r.bhi, .ls 2, .i r.n0, .i r.n1, .i r.n2, .i r.n3, .i r.n4, .i r.opn]), (2, .i y)], [(1, some (refStart_frK1 t)), (2, some (refStart_frK2 r))]⟩) (Ent.refl _) ?_
 refine aw_seq ?_
 refine aw_r [(0, .new 1003), (1, .new 1004)]
  ⟨20, [1, 2], [(2, .i y), (3, .l (.ref 1003 0)), (4, .l (.ref 1004 0))], [(1, some (refStart_frK1 t)), (2, some (refStart_frK2 r)), (1003, some (refStart_frK3 t)), (1004, some (refStart_frK4 r))]⟩
  [] (by kernel_rfl) trivial ?_
 refine aw_seq ?_
 refine aw_seq ?_
 rcases Bool.eq_false_or_eq_true ((!(treeB t))) with h1 | h1
 ·
  refine aw_r [(1, .call [1] (.b (treeB t)) []), (3, .dec true)]
   ⟨20, [1, 2], [(2, .i y), (3, .l (.ref 1003 0)), (14, .b true)], [(1, some (refStart_frK1 t)), (1003, some (refStart_frK3 t))]⟩
   [CallOK Try.prog 22 [.agg [.i t.year, .i t.glo, .i t.ghi, .i t.wlo, .i t.whi, .i t.health, .ls 1]] [1] [some (refStart_frK1 t)] (.b (treeB t)) [], (!(treeB t)) = true] (by kernel_rfl) (al2 (CallFr.to (refTree_fr t (by first | omega | (simp; done) | assumption)) [(1, 1)] (by kernel_rfl) (by kernel_rfl) (by kernel_rfl) (by kernel_rfl) (by kernel_rfl) (dem_cons rfl (le_ro rfl el_rfl) dem_nil)) (al1 h1)) ?_
  refine aw_true rfl ?_
  refine aw_seq ?_
  refine aw_r []
   ⟨20, [1, 2], [(6, .i 2)], []⟩
   [] (by kernel_rfl) trivial ?_
  exact aw_ret (ret_then ⟨.inr rfl, end_ok ⟨20, [1, 2], [(6, .i (startE t r y))], []⟩
      (Ent.ren [] rfl rfl (by kernel_rfl) ⟨(slot_i rfl (by first | rfl | omega | assumption | (simp_all [startE, treeE, ruleE, yearE]))), trivial⟩ trivial (by kernel_rfl)) rfl (by kernel_rfl) wr_nil (by kernel_rfl)⟩)
 ·
  refine aw_r [(1, .call [1] (.b (treeB t)) []), (3, .dec false), (5, .call [2] (.b (ruleB r)) [])]
   ⟨20, [1, 2], [(2, .i y), (3, .l (.ref 1003 0)), (14, .b (!(ruleB r)))], [(1, some (refStart_frK1 t)), (1003, some (refStart_frK3 t))]⟩
   [CallOK Try.prog 22 [.agg [.i t.year, .i t.glo, .i t.ghi, .i t.wlo, .i t.whi, .i t.health, .ls 1]] [1] [some (refStart_frK1 t)] (.b (treeB t)) [], (!(treeB t)) = false, CallOK Try.prog 23 [.agg [.i r.slo, .i r.shi, .i r.ulo, .i r.uhi, .i r.hlo, .i r.hhi, .i r.apart, .i r.blo, .i r.bhi, .ls 2, .i r.n0, .i r.n1, .i r.n2, .i r.n3, .i r.n4, .i r.opn]] [2] [some (refStart_frK2 r)] (.b (ruleB r)) []] (by kernel_rfl) (al2 (CallFr.to (refTree_fr t (by first | omega | (simp; done) | assumption)) [(1, 1)] (by kernel_rfl) (by kernel_rfl) (by kernel_rfl) (by kernel_rfl) (by kernel_rfl) (dem_cons rfl (le_ro rfl el_rfl) dem_nil)) (al2 h1 (al1 (CallFr.to (refRules_fr r (by first | omega | (simp; done) | assumption)) [(2, 2)] (by kernel_rfl) (by kernel_rfl) (by kernel_rfl) (by kernel_rfl) (by kernel_rfl) (dem_cons rfl (le_ro rfl el_rfl) dem_nil))))) ?_
  refine aw_cond (b := (!(ruleB r))) rfl (fun h2 => ?_) (fun h2 => ?_)
  ·
   refine aw_seq ?_
   refine aw_r []
    ⟨20, [1, 2], [(6, .i 2)], []⟩
    [] (by kernel_rfl) trivial ?_
   exact aw_ret (ret_then ⟨.inr rfl, end_ok ⟨20, [1, 2], [(6, .i (startE t r y))], []⟩
       (Ent.ren [] rfl rfl (by kernel_rfl) ⟨(slot_i rfl (by first | rfl | omega | assumption | (simp_all [startE, treeE, ruleE, yearE]))), trivial⟩ trivial (by kernel_rfl)) rfl (by kernel_rfl) wr_nil (by kernel_rfl)⟩)
  ·
   refine aw_skip ?_
   refine aw_seq ?_
   refine aw_seq ?_
   refine aw_r [(3, .call [] (.b (within t.year 9999 [y])) [])]
    ⟨20, [1, 2], [(19, .b (!(within t.year 9999 [y])))], []⟩
    [CallOK Try.prog 63 [.i y, .i t.year, .i 9999] [] [] (.b (within t.year 9999 [y])) []] (by kernel_rfl) (al1 (CallFr.to (refIn_fr y t.year 9999) [] (by kernel_rfl) (by kernel_rfl) (by kernel_rfl) (by kernel_rfl) (by kernel_rfl) dem_nil)) ?_
   refine aw_cond (b := (!(within t.year 9999 [y]))) rfl (fun h3 => ?_) (fun h3 => ?_)
   ·
    refine aw_seq ?_
    refine aw_r []
     ⟨20, [1, 2], [(6, .i 3)], []⟩
     [] (by kernel_rfl) trivial ?_
    exact aw_ret (ret_then ⟨.inr rfl, end_ok ⟨20, [1, 2], [(6, .i (startE t r y))], []⟩
        (Ent.ren [] rfl rfl (by kernel_rfl) ⟨(slot_i rfl (by first | rfl | omega | assumption | (simp_all [startE, treeE, ruleE, yearE]))), trivial⟩ trivial (by kernel_rfl)) rfl (by kernel_rfl) wr_nil (by kernel_rfl)⟩)
   ·
    refine aw_skip ?_
    refine aw_seq ?_
    refine aw_r []
     ⟨20, [1, 2], [(6, .i 0)], []⟩
     [] (by kernel_rfl) trivial ?_
    exact aw_ret ⟨.inr rfl, end_ok ⟨20, [1, 2], [(6, .i (startE t r y))], []⟩
        (Ent.ren [] rfl rfl (by kernel_rfl) ⟨(slot_i rfl (by first | rfl | omega | assumption | (simp_all [startE, treeE, ruleE, yearE]))), trivial⟩ trivial (by kernel_rfl)) rfl (by kernel_rfl) wr_nil (by kernel_rfl)⟩
def refGirth_frK1 (t : TreeV) : Cn := .ro 3 t.holes.length (Lst eH t.holes)
def refGirth_frK2 (t : TreeV) : Cn := .blk 26 [.i t.year, .i t.glo, .i t.ghi, .i t.wlo, .i t.whi, .i t.health, .ls 1]
def refGirth_frK3 (t : TreeV) (y : Int) : Cn := .blk 23 [.i (min 10000 (t.glo + ((y - t.year) * t.wlo))), .i (min 10000 (t.ghi + ((y - t.year) * t.whi)))]
def refGirth_frK4 (t : TreeV) (y : Int) : Cn := .blk 23 [.i ((girthV t y).low), .i ((girthV t y).high)]
set_option maxRecDepth 100000 in
theorem refGirth_fr (t : TreeV) (y : Int) (ht : TreeOk t) (hy : t.year ≤ y ∧ y ≤ 9999) : CallFr Try.prog 26 [.agg [.i t.year, .i t.glo, .i t.ghi, .i t.wlo, .i t.whi, .i t.health, .ls 1], .i y] [1] [some (.ro 3 t.holes.length (Lst eH t.holes))] (.agg [.i ((girthV t y).low), .i ((girthV t y).high)]) [] := by
 have h1 := ht.girth
 have h2 := ht.grow
 have h3 := ht.year
 have m1 := mul_bd (a := y - t.year) (A := 9999) (b := t.wlo) (B := 10000) (by omega) (by omega)
 have m2 := mul_bd (a := y - t.year) (A := 9999) (b := t.whi) (B := 10000) (by omega) (by omega)
 refine callFr_of (fn := Try.f26) (by kernel_rfl) rfl (by kernel_rfl) (by kernel_rfl) fun E => ?_
 refine aw_ent (T := ⟨31, [1], [(0, .agg [.i t.year, .i t.glo, .i t.ghi, .i t.wlo, .i t.whi, .i t.health, .ls 1]), (1, .i y)], [(1, some (refGirth_frK1 t))]⟩) (Ent.refl _) ?_
 refine aw_seq ?_
 refine aw_r [(0, .new 1002), (1, .new 1004)]
  ⟨31, [1], [(1, .i y), (2, .l (.ref 1002 0)), (4, .l (.ref 1004 0))], [(1, some (refGirth_frK1 t)), (1002, some (refGirth_frK2 t)), (1004, some (.blk 23 [.i 0, .i 0]))]⟩
  [] (by kernel_rfl) trivial ?_
 refine aw_seq ?_
 refine aw_r []
  ⟨31, [1], [(2, .l (.ref 1002 0)), (4, .l (.ref 1004 0)), (5, .i (y - t.year))], [(1, some (refGirth_frK1 t)), (1002, some (refGirth_frK2 t)), (1004, some (.blk 23 [.i 0, .i 0]))]⟩
  [-9223372036854775808 ≤ (y - t.year) ∧ (y - t.year) < 9223372036854775808] (by kernel_rfl) (al1 (by omega)) ?_
 refine aw_seq ?_
 refine aw_r []
  ⟨31, [1], [(4, .l (.ref 1004 0))], [(1004, some (refGirth_frK3 t y))]⟩
  [-9223372036854775808 ≤ ((y - t.year) * t.wlo) ∧ ((y - t.year) * t.wlo) < 9223372036854775808, -9223372036854775808 ≤ (t.glo + ((y - t.year) * t.wlo)) ∧ (t.glo + ((y - t.year) * t.wlo)) < 9223372036854775808, -9223372036854775808 ≤ ((y - t.year) * t.whi) ∧ ((y - t.year) * t.whi) < 9223372036854775808, -9223372036854775808 ≤ (t.ghi + ((y - t.year) * t.whi)) ∧ (t.ghi + ((y - t.year) * t.whi)) < 9223372036854775808] (by kernel_rfl) (al2 (by omega) (al2 (by omega) (al2 (by omega) (al1 (by omega))))) ?_
 exact aw_ret ⟨.inr rfl, end_ok ⟨31, [1], [(4, .l (.ref 8004 0))], [(8004, some (refGirth_frK4 t y))]⟩
     (Ent.ren [(8004, 1004)] rfl rfl (by kernel_rfl) ⟨rfl, trivial⟩ (cbl rfl (by exact (cells_cons (cell_i (by first | rfl | omega | assumption | (simp only [girthV, endV]; rw [Int.mul_comm]))) (cells_cons (cell_i (by first | rfl | omega | assumption | (simp only [girthV, endV]; rw [Int.mul_comm]))) rfl))) trivial) (by kernel_rfl)) rfl (by kernel_rfl) wr_nil (by kernel_rfl)⟩
def refTaps_frK1 (t : TreeV) : Cn := .ro 3 t.holes.length (Lst eH t.holes)
def refTaps_frK2 (r : RuleV) : Cn := .ro 2 r.sizes.length (Lst eZ r.sizes)
def refTaps_frK3 (t : TreeV) : Cn := .blk 26 [.i t.year, .i t.glo, .i t.ghi, .i t.wlo, .i t.whi, .i t.health, .ls 1]
def refTaps_frK4 (r : RuleV) : Cn := .blk 30 [.i r.slo, .i r.shi, .i r.ulo, .i r.uhi, .i r.hlo, .i r.hhi, .i r.apart, .i r.blo, .i r.bhi, .ls 2, .i r.n0, .i r.n1, .i r.n2, .i r.n3, .i r.n4, .i r.opn]
def refTaps_frK5 (t : TreeV) (y : Int) : Cn := .blk 23 [.i ((girthV t y).low), .i ((girthV t y).high)]
def refTaps_frK6 (lo : Int) (r : RuleV) (t : TreeV) (ma : Int) (hi : Int) (mu : Int) : Cn := .blk 23 [.i (min (min lo (healV r t.health)) (max 0 (r.opn - ma))), .i (min (min hi (healV r t.health)) (max 0 (r.opn - mu)))]
def refTaps_frK7 (t : TreeV) (r : RuleV) (y : Int) : Cn := .blk 23 [.i (tapsV (openV t r y) (openV t r y).worst), .i (tapsV (openV t r y) (openV t r y).best)]
set_option maxRecDepth 100000 in
theorem refTaps_fr (t : TreeV) (r : RuleV) (y : Int) (ht : t.holes.length ≤ 1000000) (hr : r.sizes.length ≤ 1000000) (h0 : startE t r y = 0) : CallFr Try.prog 27 [.agg [.i t.year, .i t.glo, .i t.ghi, .i t.wlo, .i t.whi, .i t.health, .ls 1], .agg [.i r.slo, .i r.shi, .i r.ulo, .i r.uhi, .i r.hlo, .i r.hhi, .i r.apart, .i r.blo, .i r.bhi, .ls 2, .i r.n0, .i r.n1, .i r.n2, .i r.n3, .i r.n4, .i r.opn], .i y] [1, 2] [some (.ro 3 t.holes.length (Lst eH t.holes)), some (.ro 2 r.sizes.length (Lst eZ r.sizes))] (.agg [.i (tapsV (openV t r y) (openV t r y).worst), .i (tapsV (openV t r y) (openV t r y).best)]) [] := by
 obtain ⟨k1, k2, k3⟩ := startE_0.1 h0
 have h1 := k1.len
 have h2 := k2.len
 have h3 := k2.opn
 have h4 := k1.health
 have h5 := k1.year
 have h6 := k1.hole
 refine callFr_of (fn := Try.f27) (by kernel_rfl) rfl (by kernel_rfl) (by kernel_rfl) fun E => ?_
 refine aw_ent (T := ⟨112, [1, 2], [(0, .agg [.i t.year, .i t.glo, .i t.ghi, .i t.wlo, .i t.whi, .i t.health, .ls 1]), (1, .agg [.i r.slo, .i r.shi, .i r.ulo, .i r.uhi, .i r.hlo, .i r.hhi, .i r.apart, .i r.blo, .i r.bhi, .ls 2, .i r.n0, .i r.n1, .i r.n2, .i r.n3, .i r.n4, .i r.opn]), (2, .i y)], [(1, some (refTaps_frK1 t)), (2, some (refTaps_frK2 r))]⟩) (Ent.refl _) ?_
 refine aw_seq ?_
 refine aw_r [(0, .new 1003), (1, .new 1004), (2, .new 1006)]
  ⟨112, [1, 2], [(2, .i y), (3, .l (.ref 1003 0)), (4, .l (.ref 1004 0)), (6, .l (.ref 1006 0))], [(1, some (refTaps_frK1 t)), (2, some (refTaps_frK2 r)), (1003, some (refTaps_frK3 t)), (1004, some (refTaps_frK4 r)), (1006, some (.blk 23 [.i 0, .i 0]))]⟩
  [] (by kernel_rfl) trivial ?_
 refine aw_seq ?_
 refine aw_r [(2, .call [1] (.agg [.i ((girthV t y).low), .i ((girthV t y).high)]) []), (3, .new 1007)]
  ⟨112, [1, 2], [(2, .i y), (3, .l (.ref 1003 0)), (4, .l (.ref 1004 0)), (6, .l (.ref 1006 0)), (7, .l (.ref 1007 0)), (8, .i 0), (9, .i 0)], [(1, some (refTaps_frK1 t)), (2, some (refTaps_frK2 r)), (1003, some (refTaps_frK3 t)), (1004, some (refTaps_frK4 r)), (1006, some (.blk 23 [.i 0, .i 0])), (1007, some (refTaps_frK5 t y))]⟩
  [CallOK Try.prog 26 [.agg [.i t.year, .i t.glo, .i t.ghi, .i t.wlo, .i t.whi, .i t.health, .ls 1], .i y] [1] [some (refTaps_frK1 t)] (.agg [.i ((girthV t y).low), .i ((girthV t y).high)]) []] (by kernel_rfl) (al1 (CallFr.to (refGirth_fr t y (by assumption) (by assumption)) [(1, 1)] (by kernel_rfl) (by kernel_rfl) (by kernel_rfl) (by kernel_rfl) (by kernel_rfl) (dem_cons rfl (le_ro rfl el_rfl) dem_nil))) ?_
 refine aw_seq ?_
 refine aw_seq ?_
 refine aw_r []
  ⟨112, [1, 2], [(2, .i y), (3, .l (.ref 1003 0)), (4, .l (.ref 1004 0)), (6, .l (.ref 1006 0)), (7, .l (.ref 1007 0)), (8, .i 0), (9, .i 0), (10, .i 0)], [(1, some (refTaps_frK1 t)), (2, some (refTaps_frK2 r)), (1003, some (refTaps_frK3 t)), (1004, some (refTaps_frK4 r)), (1006, some (.blk 23 [.i 0, .i 0])), (1007, some (refTaps_frK5 t y))]⟩
  [] (by kernel_rfl) trivial ?_
 refine aw_block ?_
 refine aw_loop (ι := Nat × Int × Int) (fun zz => ⟨112, [1, 2], [(2, .i y), (3, .l (.ref 1003 0)), (4, .l (.ref 1004 0)), (6, .l (.ref 1006 0)), (7, .l (.ref 1007 0)), (8, .i zz.2.1), (9, .i zz.2.2), (10, .i ((zz.1 : Nat) : Int))], [(1, some (refTaps_frK1 t)), (2, some (refTaps_frK2 r)), (1003, some (refTaps_frK3 t)), (1004, some (refTaps_frK4 r)), (1006, some (.blk 23 [.i 0, .i 0])), (1007, some (refTaps_frK5 t y))]⟩) (fun zz => (zz.1 ≤ r.sizes.length) ∧ (sizeV (girthV t y).low zz.2.1 (r.sizes.drop zz.1) = sizeV (girthV t y).low 0 r.sizes) ∧ (sizeV (girthV t y).high zz.2.2 (r.sizes.drop zz.1) = sizeV (girthV t y).high 0 r.sizes)) (fun zz => r.sizes.length - zz.1) (0, 0, 0) ⟨(by (try dsimp only); first | omega | rfl | assumption | (simp; done)), (by (try dsimp only); first | omega | rfl | assumption | (simp; done)), (by (try dsimp only); first | omega | rfl | assumption | (simp; done))⟩
     (Ent.ren [] rfl rfl (by kernel_rfl) ⟨rfl, rfl, rfl, rfl, rfl, rfl, rfl, rfl, trivial⟩ (cro rfl (cro rfl (cbl rfl rfl (cbl rfl rfl (cbl rfl rfl (cbl rfl rfl trivial)))))) (by kernel_rfl)) fun zz hp => ?_
 obtain ⟨i, lo, hi⟩ := zz
 obtain ⟨hiL, hs, hS⟩ := hp
 dsimp only at hiL hs hS
 show AW _ E _ _ ⟨112, [1, 2], [(2, .i y), (3, .l (.ref 1003 0)), (4, .l (.ref 1004 0)), (6, .l (.ref 1006 0)), (7, .l (.ref 1007 0)), (8, .i lo), (9, .i hi), (10, .i ((i : Nat) : Int))], [(1, some (refTaps_frK1 t)), (2, some (refTaps_frK2 r)), (1003, some (refTaps_frK3 t)), (1004, some (refTaps_frK4 r)), (1006, some (.blk 23 [.i 0, .i 0])), (1007, some (refTaps_frK5 t y))]⟩
 refine aw_seq ?_
 refine aw_seq ?_
 refine aw_r []
  ⟨112, [1, 2], [(2, .i y), (3, .l (.ref 1003 0)), (4, .l (.ref 1004 0)), (6, .l (.ref 1006 0)), (7, .l (.ref 1007 0)), (8, .i lo), (9, .i hi), (10, .i ((i : Nat) : Int)), (22, .b (decide (((i : Nat) : Int) < ((r.sizes.length : Nat) : Int))))], [(1, some (refTaps_frK1 t)), (2, some (refTaps_frK2 r)), (1003, some (refTaps_frK3 t)), (1004, some (refTaps_frK4 r)), (1006, some (.blk 23 [.i 0, .i 0])), (1007, some (refTaps_frK5 t y))]⟩
  [] (by kernel_rfl) trivial ?_
 refine aw_cond (b := decide (((i : Nat) : Int) < ((r.sizes.length : Nat) : Int))) rfl (fun h1 => ?_) (fun h1 => ?_)
 ·
  have h1p : ((i : Nat) : Int) < ((r.sizes.length : Nat) : Int) := dtr h1
  refine aw_skip ?_
  refine aw_seq ?_
  refine aw_block ?_
  refine aw_seq ?_
  refine aw_seq ?_
  refine aw_d [(3, .idx i)]
   ⟨112, [1, 2], [(2, .i y), (3, .l (.ref 1003 0)), (4, .l (.ref 1004 0)), (6, .l (.ref 1006 0)), (7, .l (.ref 1007 0)), (8, .i lo), (9, .i hi), (10, .i ((i : Nat) : Int)), (33, .b (decide ((ix r.sizes i).girth ≤ (girthV t y).low)))], [(1, some (refTaps_frK1 t)), (2, some (refTaps_frK2 r)), (1003, some (refTaps_frK3 t)), (1004, some (refTaps_frK4 r)), (1006, some (.blk 23 [.i 0, .i 0])), (1007, some (refTaps_frK5 t y))]⟩
   [((i : Nat) : Int) = ((i : Nat) : Int), i < r.sizes.length, i < r.sizes.length, i < r.sizes.length] (by kernel_rfl) (by kernel_rfl) (al2 (by omega) (al2 (by omega) (al2 (by omega) (al1 (by omega))))) ?_
  refine aw_cond (b := decide ((ix r.sizes i).girth ≤ (girthV t y).low)) rfl (fun h2 => ?_) (fun h2 => ?_)
  ·
   have h2p : (ix r.sizes i).girth ≤ (girthV t y).low := dtr h2
   refine aw_r [(3, .idx i)]
    ⟨112, [1, 2], [(2, .i y), (3, .l (.ref 1003 0)), (4, .l (.ref 1004 0)), (6, .l (.ref 1006 0)), (7, .l (.ref 1007 0)), (8, .i ((ix r.sizes i).taps)), (9, .i hi), (10, .i ((i : Nat) : Int))], [(1, some (refTaps_frK1 t)), (2, some (refTaps_frK2 r)), (1003, some (refTaps_frK3 t)), (1004, some (refTaps_frK4 r)), (1006, some (.blk 23 [.i 0, .i 0])), (1007, some (refTaps_frK5 t y))]⟩
    [((i : Nat) : Int) = ((i : Nat) : Int), i < r.sizes.length, i < r.sizes.length, i < r.sizes.length] (by kernel_rfl) (al2 (by omega) (al2 (by omega) (al2 (by omega) (al1 (by omega))))) ?_
   refine aw_seq ?_
   refine aw_d [(3, .idx i)]
    ⟨112, [1, 2], [(2, .i y), (3, .l (.ref 1003 0)), (4, .l (.ref 1004 0)), (6, .l (.ref 1006 0)), (7, .l (.ref 1007 0)), (8, .i ((ix r.sizes i).taps)), (9, .i hi), (10, .i ((i : Nat) : Int)), (48, .b (decide ((ix r.sizes i).girth ≤ (girthV t y).high)))], [(1, some (refTaps_frK1 t)), (2, some (refTaps_frK2 r)), (1003, some (refTaps_frK3 t)), (1004, some (refTaps_frK4 r)), (1006, some (.blk 23 [.i 0, .i 0])), (1007, some (refTaps_frK5 t y))]⟩
    [((i : Nat) : Int) = ((i : Nat) : Int), i < r.sizes.length, i < r.sizes.length, i < r.sizes.length] (by kernel_rfl) (by kernel_rfl) (al2 (by omega) (al2 (by omega) (al2 (by omega) (al1 (by omega))))) ?_
   refine aw_cond (b := decide ((ix r.sizes i).girth ≤ (girthV t y).high)) rfl (fun h3 => ?_) (fun h3 => ?_)
   ·
    have h3p : (ix r.sizes i).girth ≤ (girthV t y).high := dtr h3
    refine aw_r [(3, .idx i)]
     ⟨112, [1, 2], [(2, .i y), (3, .l (.ref 1003 0)), (4, .l (.ref 1004 0)), (6, .l (.ref 1006 0)), (7, .l (.ref 1007 0)), (8, .i ((ix r.sizes i).taps)), (9, .i ((ix r.sizes i).taps)), (10, .i ((i : Nat) : Int))], [(1, some (refTaps_frK1 t)), (2, some (refTaps_frK2 r)), (1003, some (refTaps_frK3 t)), (1004, some (refTaps_frK4 r)), (1006, some (.blk 23 [.i 0, .i 0])), (1007, some (refTaps_frK5 t y))]⟩
     [((i : Nat) : Int) = ((i : Nat) : Int), i < r.sizes.length, i < r.sizes.length, i < r.sizes.length] (by kernel_rfl) (al2 (by omega) (al2 (by omega) (al2 (by omega) (al1 (by omega))))) ?_
    refine aw_r [(1, .num (((i + 1) : Nat) : Int))]
     ⟨112, [1, 2], [(2, .i y), (3, .l (.ref 1003 0)), (4, .l (.ref 1004 0)), (6, .l (.ref 1006 0)), (7, .l (.ref 1007 0)), (8, .i ((ix r.sizes i).taps)), (9, .i ((ix r.sizes i).taps)), (10, .i (((i + 1) : Nat) : Int))], [(1, some (refTaps_frK1 t)), (2, some (refTaps_frK2 r)), (1003, some (refTaps_frK3 t)), (1004, some (refTaps_frK4 r)), (1006, some (.blk 23 [.i 0, .i 0])), (1007, some (refTaps_frK5 t y))]⟩
     [(((i : Nat) : Int) + 1) = (((i + 1) : Nat) : Int), -9223372036854775808 ≤ (((i + 1) : Nat) : Int) ∧ (((i + 1) : Nat) : Int) < 9223372036854775808] (by kernel_rfl) (al2 (by omega) (al1 (by omega))) ?_
    exact ⟨((i + 1), (ix r.sizes i).taps, (ix r.sizes i).taps), ⟨(by (try dsimp only); first | omega | rfl | assumption | (simp; done)), (by (try dsimp only); rw [← hs, drop_ix (l := r.sizes) (i := i) (by omega)]; simp only [sizeV]; first | rw [if_pos (by omega)] | rw [if_neg (by omega)]), (by (try dsimp only); rw [← hS, drop_ix (l := r.sizes) (i := i) (by omega)]; simp only [sizeV]; first | rw [if_pos (by omega)] | rw [if_neg (by omega)])⟩, (show r.sizes.length - (i + 1) < r.sizes.length - i by first | omega | rfl | assumption),
        (Ent.ren [] rfl rfl (by kernel_rfl) ⟨rfl, rfl, rfl, rfl, rfl, rfl, rfl, rfl, trivial⟩ (cro rfl (cro rfl (cbl rfl rfl (cbl rfl rfl (cbl rfl rfl (cbl rfl rfl trivial)))))) (by kernel_rfl))⟩
   ·
    have h3p : (girthV t y).high < (ix r.sizes i).girth := dle h3
    refine aw_skip ?_
    refine aw_r [(1, .num (((i + 1) : Nat) : Int))]
     ⟨112, [1, 2], [(2, .i y), (3, .l (.ref 1003 0)), (4, .l (.ref 1004 0)), (6, .l (.ref 1006 0)), (7, .l (.ref 1007 0)), (8, .i ((ix r.sizes i).taps)), (9, .i hi), (10, .i (((i + 1) : Nat) : Int))], [(1, some (refTaps_frK1 t)), (2, some (refTaps_frK2 r)), (1003, some (refTaps_frK3 t)), (1004, some (refTaps_frK4 r)), (1006, some (.blk 23 [.i 0, .i 0])), (1007, some (refTaps_frK5 t y))]⟩
     [(((i : Nat) : Int) + 1) = (((i + 1) : Nat) : Int), -9223372036854775808 ≤ (((i + 1) : Nat) : Int) ∧ (((i + 1) : Nat) : Int) < 9223372036854775808] (by kernel_rfl) (al2 (by omega) (al1 (by omega))) ?_
    exact ⟨((i + 1), (ix r.sizes i).taps, hi), ⟨(by (try dsimp only); first | omega | rfl | assumption | (simp; done)), (by (try dsimp only); rw [← hs, drop_ix (l := r.sizes) (i := i) (by omega)]; simp only [sizeV]; first | rw [if_pos (by omega)] | rw [if_neg (by omega)]), (by (try dsimp only); rw [← hS, drop_ix (l := r.sizes) (i := i) (by omega)]; simp only [sizeV]; first | rw [if_pos (by omega)] | rw [if_neg (by omega)])⟩, (show r.sizes.length - (i + 1) < r.sizes.length - i by first | omega | rfl | assumption),
        (Ent.ren [] rfl rfl (by kernel_rfl) ⟨rfl, rfl, rfl, rfl, rfl, rfl, rfl, rfl, trivial⟩ (cro rfl (cro rfl (cbl rfl rfl (cbl rfl rfl (cbl rfl rfl (cbl rfl rfl trivial)))))) (by kernel_rfl))⟩
  ·
   have h2p : (girthV t y).low < (ix r.sizes i).girth := dle h2
   refine aw_skip ?_
   refine aw_seq ?_
   refine aw_d [(3, .idx i)]
    ⟨112, [1, 2], [(2, .i y), (3, .l (.ref 1003 0)), (4, .l (.ref 1004 0)), (6, .l (.ref 1006 0)), (7, .l (.ref 1007 0)), (8, .i lo), (9, .i hi), (10, .i ((i : Nat) : Int)), (48, .b (decide ((ix r.sizes i).girth ≤ (girthV t y).high)))], [(1, some (refTaps_frK1 t)), (2, some (refTaps_frK2 r)), (1003, some (refTaps_frK3 t)), (1004, some (refTaps_frK4 r)), (1006, some (.blk 23 [.i 0, .i 0])), (1007, some (refTaps_frK5 t y))]⟩
    [((i : Nat) : Int) = ((i : Nat) : Int), i < r.sizes.length, i < r.sizes.length, i < r.sizes.length] (by kernel_rfl) (by kernel_rfl) (al2 (by omega) (al2 (by omega) (al2 (by omega) (al1 (by omega))))) ?_
   refine aw_cond (b := decide ((ix r.sizes i).girth ≤ (girthV t y).high)) rfl (fun h4 => ?_) (fun h4 => ?_)
   ·
    have h4p : (ix r.sizes i).girth ≤ (girthV t y).high := dtr h4
    refine aw_r [(3, .idx i)]
     ⟨112, [1, 2], [(2, .i y), (3, .l (.ref 1003 0)), (4, .l (.ref 1004 0)), (6, .l (.ref 1006 0)), (7, .l (.ref 1007 0)), (8, .i lo), (9, .i ((ix r.sizes i).taps)), (10, .i ((i : Nat) : Int))], [(1, some (refTaps_frK1 t)), (2, some (refTaps_frK2 r)), (1003, some (refTaps_frK3 t)), (1004, some (refTaps_frK4 r)), (1006, some (.blk 23 [.i 0, .i 0])), (1007, some (refTaps_frK5 t y))]⟩
     [((i : Nat) : Int) = ((i : Nat) : Int), i < r.sizes.length, i < r.sizes.length, i < r.sizes.length] (by kernel_rfl) (al2 (by omega) (al2 (by omega) (al2 (by omega) (al1 (by omega))))) ?_
    refine aw_r [(1, .num (((i + 1) : Nat) : Int))]
     ⟨112, [1, 2], [(2, .i y), (3, .l (.ref 1003 0)), (4, .l (.ref 1004 0)), (6, .l (.ref 1006 0)), (7, .l (.ref 1007 0)), (8, .i lo), (9, .i ((ix r.sizes i).taps)), (10, .i (((i + 1) : Nat) : Int))], [(1, some (refTaps_frK1 t)), (2, some (refTaps_frK2 r)), (1003, some (refTaps_frK3 t)), (1004, some (refTaps_frK4 r)), (1006, some (.blk 23 [.i 0, .i 0])), (1007, some (refTaps_frK5 t y))]⟩
     [(((i : Nat) : Int) + 1) = (((i + 1) : Nat) : Int), -9223372036854775808 ≤ (((i + 1) : Nat) : Int) ∧ (((i + 1) : Nat) : Int) < 9223372036854775808] (by kernel_rfl) (al2 (by omega) (al1 (by omega))) ?_
    exact ⟨((i + 1), lo, (ix r.sizes i).taps), ⟨(by (try dsimp only); first | omega | rfl | assumption | (simp; done)), (by (try dsimp only); rw [← hs, drop_ix (l := r.sizes) (i := i) (by omega)]; simp only [sizeV]; first | rw [if_pos (by omega)] | rw [if_neg (by omega)]), (by (try dsimp only); rw [← hS, drop_ix (l := r.sizes) (i := i) (by omega)]; simp only [sizeV]; first | rw [if_pos (by omega)] | rw [if_neg (by omega)])⟩, (show r.sizes.length - (i + 1) < r.sizes.length - i by first | omega | rfl | assumption),
        (Ent.ren [] rfl rfl (by kernel_rfl) ⟨rfl, rfl, rfl, rfl, rfl, rfl, rfl, rfl, trivial⟩ (cro rfl (cro rfl (cbl rfl rfl (cbl rfl rfl (cbl rfl rfl (cbl rfl rfl trivial)))))) (by kernel_rfl))⟩
   ·
    have h4p : (girthV t y).high < (ix r.sizes i).girth := dle h4
    refine aw_skip ?_
    refine aw_r [(1, .num (((i + 1) : Nat) : Int))]
     ⟨112, [1, 2], [(2, .i y), (3, .l (.ref 1003 0)), (4, .l (.ref 1004 0)), (6, .l (.ref 1006 0)), (7, .l (.ref 1007 0)), (8, .i lo), (9, .i hi), (10, .i (((i + 1) : Nat) : Int))], [(1, some (refTaps_frK1 t)), (2, some (refTaps_frK2 r)), (1003, some (refTaps_frK3 t)), (1004, some (refTaps_frK4 r)), (1006, some (.blk 23 [.i 0, .i 0])), (1007, some (refTaps_frK5 t y))]⟩
     [(((i : Nat) : Int) + 1) = (((i + 1) : Nat) : Int), -9223372036854775808 ≤ (((i + 1) : Nat) : Int) ∧ (((i + 1) : Nat) : Int) < 9223372036854775808] (by kernel_rfl) (al2 (by omega) (al1 (by omega))) ?_
    exact ⟨((i + 1), lo, hi), ⟨(by (try dsimp only); first | omega | rfl | assumption | (simp; done)), (by (try dsimp only); rw [← hs, drop_ix (l := r.sizes) (i := i) (by omega)]; simp only [sizeV]; first | rw [if_pos (by omega)] | rw [if_neg (by omega)]), (by (try dsimp only); rw [← hS, drop_ix (l := r.sizes) (i := i) (by omega)]; simp only [sizeV]; first | rw [if_pos (by omega)] | rw [if_neg (by omega)])⟩, (show r.sizes.length - (i + 1) < r.sizes.length - i by first | omega | rfl | assumption),
        (Ent.ren [] rfl rfl (by kernel_rfl) ⟨rfl, rfl, rfl, rfl, rfl, rfl, rfl, rfl, trivial⟩ (cro rfl (cro rfl (cbl rfl rfl (cbl rfl rfl (cbl rfl rfl (cbl rfl rfl trivial)))))) (by kernel_rfl))⟩
 ·
  have h1p : ((r.sizes.length : Nat) : Int) ≤ ((i : Nat) : Int) := dlt h1
  refine aw_exit (exit_then (exit_then (exit_in ?_)))
  refine aw_seq ?_
  have z1 : lo = sizeV (girthV t y).low 0 r.sizes := by
   rw [← hs, List.drop_eq_nil_of_le (by omega)]
   rfl
  have z2 : hi = sizeV (girthV t y).high 0 r.sizes := by
   rw [← hS, List.drop_eq_nil_of_le (by omega)]
   rfl
  refine aw_r []
   ⟨112, [1, 2], [(2, .i y), (3, .l (.ref 1003 0)), (4, .l (.ref 1004 0)), (6, .l (.ref 1006 0)), (8, .i lo), (9, .i hi), (11, .i 0), (12, .i 0)], [(1, some (refTaps_frK1 t)), (2, some (refTaps_frK2 r)), (1003, some (refTaps_frK3 t)), (1004, some (refTaps_frK4 r)), (1006, some (.blk 23 [.i 0, .i 0]))]⟩
   [] (by kernel_rfl) trivial ?_
  refine aw_seq ?_
  refine aw_seq ?_
  refine aw_r []
   ⟨112, [1, 2], [(2, .i y), (3, .l (.ref 1003 0)), (4, .l (.ref 1004 0)), (6, .l (.ref 1006 0)), (8, .i lo), (9, .i hi), (11, .i 0), (12, .i 0), (13, .i 0)], [(1, some (refTaps_frK1 t)), (2, some (refTaps_frK2 r)), (1003, some (refTaps_frK3 t)), (1004, some (refTaps_frK4 r)), (1006, some (.blk 23 [.i 0, .i 0]))]⟩
   [] (by kernel_rfl) trivial ?_
  refine aw_block ?_
  refine aw_loop (ι := Nat × Int × Int) (fun zz => ⟨112, [1, 2], [(2, .i y), (3, .l (.ref 1003 0)), (4, .l (.ref 1004 0)), (6, .l (.ref 1006 0)), (8, .i lo), (9, .i hi), (11, .i zz.2.1), (12, .i zz.2.2), (13, .i ((zz.1 : Nat) : Int))], [(1, some (refTaps_frK1 t)), (2, some (refTaps_frK2 r)), (1003, some (refTaps_frK3 t)), (1004, some (refTaps_frK4 r)), (1006, some (.blk 23 [.i 0, .i 0]))]⟩) (fun zz => (zz.1 ≤ t.holes.length) ∧ (0 ≤ zz.2.1 ∧ zz.2.1 ≤ zz.1 ∧ 0 ≤ zz.2.2 ∧ zz.2.2 ≤ zz.1) ∧ (openN y (openV t r y).worst (r.opn - zz.2.1) (t.holes.drop zz.1) = openN y (openV t r y).worst r.opn t.holes) ∧ (openN y (openV t r y).best (r.opn - zz.2.2) (t.holes.drop zz.1) = openN y (openV t r y).best r.opn t.holes)) (fun zz => t.holes.length - zz.1) (0, 0, 0) ⟨(by (try dsimp only); first | omega | rfl | assumption | (simp; done)), (by (try dsimp only); first | omega | rfl | assumption | (simp; done)), (by (try dsimp only); rw [Int.sub_zero]; rfl), (by (try dsimp only); rw [Int.sub_zero]; rfl)⟩
      (Ent.ren [] rfl rfl (by kernel_rfl) ⟨rfl, rfl, rfl, rfl, rfl, rfl, rfl, rfl, rfl, trivial⟩ (cro rfl (cro rfl (cbl rfl rfl (cbl rfl rfl (cbl rfl rfl trivial))))) (by kernel_rfl)) fun zz hp => ?_
  obtain ⟨j, ma, mu⟩ := zz
  obtain ⟨hjL, hm, hw, hW⟩ := hp
  dsimp only at hjL hm hw hW
  show AW _ E _ _ ⟨112, [1, 2], [(2, .i y), (3, .l (.ref 1003 0)), (4, .l (.ref 1004 0)), (6, .l (.ref 1006 0)), (8, .i lo), (9, .i hi), (11, .i ma), (12, .i mu), (13, .i ((j : Nat) : Int))], [(1, some (refTaps_frK1 t)), (2, some (refTaps_frK2 r)), (1003, some (refTaps_frK3 t)), (1004, some (refTaps_frK4 r)), (1006, some (.blk 23 [.i 0, .i 0]))]⟩
  refine aw_seq ?_
  refine aw_seq ?_
  refine aw_r []
   ⟨112, [1, 2], [(2, .i y), (3, .l (.ref 1003 0)), (4, .l (.ref 1004 0)), (6, .l (.ref 1006 0)), (8, .i lo), (9, .i hi), (11, .i ma), (12, .i mu), (13, .i ((j : Nat) : Int)), (59, .b (decide (((j : Nat) : Int) < ((t.holes.length : Nat) : Int))))], [(1, some (refTaps_frK1 t)), (2, some (refTaps_frK2 r)), (1003, some (refTaps_frK3 t)), (1004, some (refTaps_frK4 r)), (1006, some (.blk 23 [.i 0, .i 0]))]⟩
   [] (by kernel_rfl) trivial ?_
  refine aw_cond (b := decide (((j : Nat) : Int) < ((t.holes.length : Nat) : Int))) rfl (fun h5 => ?_) (fun h5 => ?_)
  ·
   have h5p : ((j : Nat) : Int) < ((t.holes.length : Nat) : Int) := dtr h5
   refine aw_skip ?_
   refine aw_seq ?_
   refine aw_block ?_
   refine aw_seq ?_
   refine aw_seq ?_
   have q := h6 _ (ix_mem (l := t.holes) (i := j) (by omega))
   have q1 := q.1
   refine aw_d [(4, .idx j)]
    ⟨112, [1, 2], [(2, .i y), (3, .l (.ref 1003 0)), (4, .l (.ref 1004 0)), (6, .l (.ref 1006 0)), (8, .i lo), (9, .i hi), (11, .i ma), (12, .i mu), (13, .i ((j : Nat) : Int)), (73, .b (decide ((y - (ix t.holes j).year) < r.hhi)))], [(1, some (refTaps_frK1 t)), (2, some (refTaps_frK2 r)), (1003, some (refTaps_frK3 t)), (1004, some (refTaps_frK4 r)), (1006, some (.blk 23 [.i 0, .i 0]))]⟩
    [((j : Nat) : Int) = ((j : Nat) : Int), j < t.holes.length, j < t.holes.length, j < t.holes.length, -9223372036854775808 ≤ (y - (ix t.holes j).year) ∧ (y - (ix t.holes j).year) < 9223372036854775808] (by kernel_rfl) (by kernel_rfl) (al2 (by omega) (al2 (by omega) (al2 (by omega) (al2 (by omega) (al1 (by omega)))))) ?_
   refine aw_cond (b := decide ((y - (ix t.holes j).year) < r.hhi)) rfl (fun h6 => ?_) (fun h6 => ?_)
   ·
    have h6p : (y - (ix t.holes j).year) < r.hhi := dtr h6
    refine aw_r []
     ⟨112, [1, 2], [(2, .i y), (3, .l (.ref 1003 0)), (4, .l (.ref 1004 0)), (6, .l (.ref 1006 0)), (8, .i lo), (9, .i hi), (11, .i (ma + 1)), (12, .i mu), (13, .i ((j : Nat) : Int))], [(1, some (refTaps_frK1 t)), (2, some (refTaps_frK2 r)), (1003, some (refTaps_frK3 t)), (1004, some (refTaps_frK4 r)), (1006, some (.blk 23 [.i 0, .i 0]))]⟩
     [-9223372036854775808 ≤ (ma + 1) ∧ (ma + 1) < 9223372036854775808] (by kernel_rfl) (al1 (by omega)) ?_
    refine aw_seq ?_
    refine aw_d [(4, .idx j)]
     ⟨112, [1, 2], [(2, .i y), (3, .l (.ref 1003 0)), (4, .l (.ref 1004 0)), (6, .l (.ref 1006 0)), (8, .i lo), (9, .i hi), (11, .i (ma + 1)), (12, .i mu), (13, .i ((j : Nat) : Int)), (87, .b (decide ((y - (ix t.holes j).year) < r.hlo)))], [(1, some (refTaps_frK1 t)), (2, some (refTaps_frK2 r)), (1003, some (refTaps_frK3 t)), (1004, some (refTaps_frK4 r)), (1006, some (.blk 23 [.i 0, .i 0]))]⟩
     [((j : Nat) : Int) = ((j : Nat) : Int), j < t.holes.length, j < t.holes.length, j < t.holes.length, -9223372036854775808 ≤ (y - (ix t.holes j).year) ∧ (y - (ix t.holes j).year) < 9223372036854775808] (by kernel_rfl) (by kernel_rfl) (al2 (by omega) (al2 (by omega) (al2 (by omega) (al2 (by omega) (al1 (by omega)))))) ?_
    refine aw_cond (b := decide ((y - (ix t.holes j).year) < r.hlo)) rfl (fun h7 => ?_) (fun h7 => ?_)
    ·
     have h7p : (y - (ix t.holes j).year) < r.hlo := dtr h7
     refine aw_r []
      ⟨112, [1, 2], [(2, .i y), (3, .l (.ref 1003 0)), (4, .l (.ref 1004 0)), (6, .l (.ref 1006 0)), (8, .i lo), (9, .i hi), (11, .i (ma + 1)), (12, .i (mu + 1)), (13, .i ((j : Nat) : Int))], [(1, some (refTaps_frK1 t)), (2, some (refTaps_frK2 r)), (1003, some (refTaps_frK3 t)), (1004, some (refTaps_frK4 r)), (1006, some (.blk 23 [.i 0, .i 0]))]⟩
      [-9223372036854775808 ≤ (mu + 1) ∧ (mu + 1) < 9223372036854775808] (by kernel_rfl) (al1 (by omega)) ?_
     refine aw_r [(1, .num (((j + 1) : Nat) : Int))]
      ⟨112, [1, 2], [(2, .i y), (3, .l (.ref 1003 0)), (4, .l (.ref 1004 0)), (6, .l (.ref 1006 0)), (8, .i lo), (9, .i hi), (11, .i (ma + 1)), (12, .i (mu + 1)), (13, .i (((j + 1) : Nat) : Int))], [(1, some (refTaps_frK1 t)), (2, some (refTaps_frK2 r)), (1003, some (refTaps_frK3 t)), (1004, some (refTaps_frK4 r)), (1006, some (.blk 23 [.i 0, .i 0]))]⟩
      [(((j : Nat) : Int) + 1) = (((j + 1) : Nat) : Int), -9223372036854775808 ≤ (((j + 1) : Nat) : Int) ∧ (((j + 1) : Nat) : Int) < 9223372036854775808] (by kernel_rfl) (al2 (by omega) (al1 (by omega))) ?_
     exact ⟨((j + 1), (ma + 1), (mu + 1)), ⟨(by (try dsimp only); first | omega | rfl | assumption | (simp; done)), (by (try dsimp only); first | omega | rfl | assumption | (simp; done)), (by (try dsimp only); rw [← hw]; exact open_step (by omega) (by first | exact .inl ⟨by assumption, by omega⟩ | exact .inr ⟨by assumption, rfl⟩)), (by (try dsimp only); rw [← hW]; exact open_step (by omega) (by first | exact .inl ⟨by assumption, by omega⟩ | exact .inr ⟨by assumption, rfl⟩))⟩, (show t.holes.length - (j + 1) < t.holes.length - j by first | omega | rfl | assumption),
         (Ent.ren [] rfl rfl (by kernel_rfl) ⟨rfl, rfl, rfl, rfl, rfl, rfl, rfl, rfl, rfl, trivial⟩ (cro rfl (cro rfl (cbl rfl rfl (cbl rfl rfl (cbl rfl rfl trivial))))) (by kernel_rfl))⟩
    ·
     have h7p : r.hlo ≤ (y - (ix t.holes j).year) := dlt h7
     refine aw_skip ?_
     refine aw_r [(1, .num (((j + 1) : Nat) : Int))]
      ⟨112, [1, 2], [(2, .i y), (3, .l (.ref 1003 0)), (4, .l (.ref 1004 0)), (6, .l (.ref 1006 0)), (8, .i lo), (9, .i hi), (11, .i (ma + 1)), (12, .i mu), (13, .i (((j + 1) : Nat) : Int))], [(1, some (refTaps_frK1 t)), (2, some (refTaps_frK2 r)), (1003, some (refTaps_frK3 t)), (1004, some (refTaps_frK4 r)), (1006, some (.blk 23 [.i 0, .i 0]))]⟩
      [(((j : Nat) : Int) + 1) = (((j + 1) : Nat) : Int), -9223372036854775808 ≤ (((j + 1) : Nat) : Int) ∧ (((j + 1) : Nat) : Int) < 9223372036854775808] (by kernel_rfl) (al2 (by omega) (al1 (by omega))) ?_
     exact ⟨((j + 1), (ma + 1), mu), ⟨(by (try dsimp only); first | omega | rfl | assumption | (simp; done)), (by (try dsimp only); first | omega | rfl | assumption | (simp; done)), (by (try dsimp only); rw [← hw]; exact open_step (by omega) (by first | exact .inl ⟨by assumption, by omega⟩ | exact .inr ⟨by assumption, rfl⟩)), (by (try dsimp only); rw [← hW]; exact open_step (by omega) (by first | exact .inl ⟨by assumption, by omega⟩ | exact .inr ⟨by assumption, rfl⟩))⟩, (show t.holes.length - (j + 1) < t.holes.length - j by first | omega | rfl | assumption),
         (Ent.ren [] rfl rfl (by kernel_rfl) ⟨rfl, rfl, rfl, rfl, rfl, rfl, rfl, rfl, rfl, trivial⟩ (cro rfl (cro rfl (cbl rfl rfl (cbl rfl rfl (cbl rfl rfl trivial))))) (by kernel_rfl))⟩
   ·
    have h6p : r.hhi ≤ (y - (ix t.holes j).year) := dlt h6
    refine aw_skip ?_
    refine aw_seq ?_
    refine aw_d [(4, .idx j)]
     ⟨112, [1, 2], [(2, .i y), (3, .l (.ref 1003 0)), (4, .l (.ref 1004 0)), (6, .l (.ref 1006 0)), (8, .i lo), (9, .i hi), (11, .i ma), (12, .i mu), (13, .i ((j : Nat) : Int)), (87, .b (decide ((y - (ix t.holes j).year) < r.hlo)))], [(1, some (refTaps_frK1 t)), (2, some (refTaps_frK2 r)), (1003, some (refTaps_frK3 t)), (1004, some (refTaps_frK4 r)), (1006, some (.blk 23 [.i 0, .i 0]))]⟩
     [((j : Nat) : Int) = ((j : Nat) : Int), j < t.holes.length, j < t.holes.length, j < t.holes.length, -9223372036854775808 ≤ (y - (ix t.holes j).year) ∧ (y - (ix t.holes j).year) < 9223372036854775808] (by kernel_rfl) (by kernel_rfl) (al2 (by omega) (al2 (by omega) (al2 (by omega) (al2 (by omega) (al1 (by omega)))))) ?_
    refine aw_cond (b := decide ((y - (ix t.holes j).year) < r.hlo)) rfl (fun h8 => ?_) (fun h8 => ?_)
    ·
     have h8p : (y - (ix t.holes j).year) < r.hlo := dtr h8
     refine aw_r []
      ⟨112, [1, 2], [(2, .i y), (3, .l (.ref 1003 0)), (4, .l (.ref 1004 0)), (6, .l (.ref 1006 0)), (8, .i lo), (9, .i hi), (11, .i ma), (12, .i (mu + 1)), (13, .i ((j : Nat) : Int))], [(1, some (refTaps_frK1 t)), (2, some (refTaps_frK2 r)), (1003, some (refTaps_frK3 t)), (1004, some (refTaps_frK4 r)), (1006, some (.blk 23 [.i 0, .i 0]))]⟩
      [-9223372036854775808 ≤ (mu + 1) ∧ (mu + 1) < 9223372036854775808] (by kernel_rfl) (al1 (by omega)) ?_
     refine aw_r [(1, .num (((j + 1) : Nat) : Int))]
      ⟨112, [1, 2], [(2, .i y), (3, .l (.ref 1003 0)), (4, .l (.ref 1004 0)), (6, .l (.ref 1006 0)), (8, .i lo), (9, .i hi), (11, .i ma), (12, .i (mu + 1)), (13, .i (((j + 1) : Nat) : Int))], [(1, some (refTaps_frK1 t)), (2, some (refTaps_frK2 r)), (1003, some (refTaps_frK3 t)), (1004, some (refTaps_frK4 r)), (1006, some (.blk 23 [.i 0, .i 0]))]⟩
      [(((j : Nat) : Int) + 1) = (((j + 1) : Nat) : Int), -9223372036854775808 ≤ (((j + 1) : Nat) : Int) ∧ (((j + 1) : Nat) : Int) < 9223372036854775808] (by kernel_rfl) (al2 (by omega) (al1 (by omega))) ?_
     exact ⟨((j + 1), ma, (mu + 1)), ⟨(by (try dsimp only); first | omega | rfl | assumption | (simp; done)), (by (try dsimp only); first | omega | rfl | assumption | (simp; done)), (by (try dsimp only); rw [← hw]; exact open_step (by omega) (by first | exact .inl ⟨by assumption, by omega⟩ | exact .inr ⟨by assumption, rfl⟩)), (by (try dsimp only); rw [← hW]; exact open_step (by omega) (by first | exact .inl ⟨by assumption, by omega⟩ | exact .inr ⟨by assumption, rfl⟩))⟩, (show t.holes.length - (j + 1) < t.holes.length - j by first | omega | rfl | assumption),
         (Ent.ren [] rfl rfl (by kernel_rfl) ⟨rfl, rfl, rfl, rfl, rfl, rfl, rfl, rfl, rfl, trivial⟩ (cro rfl (cro rfl (cbl rfl rfl (cbl rfl rfl (cbl rfl rfl trivial))))) (by kernel_rfl))⟩
    ·
     have h8p : r.hlo ≤ (y - (ix t.holes j).year) := dlt h8
     refine aw_skip ?_
     refine aw_r [(1, .num (((j + 1) : Nat) : Int))]
      ⟨112, [1, 2], [(2, .i y), (3, .l (.ref 1003 0)), (4, .l (.ref 1004 0)), (6, .l (.ref 1006 0)), (8, .i lo), (9, .i hi), (11, .i ma), (12, .i mu), (13, .i (((j + 1) : Nat) : Int))], [(1, some (refTaps_frK1 t)), (2, some (refTaps_frK2 r)), (1003, some (refTaps_frK3 t)), (1004, some (refTaps_frK4 r)), (1006, some (.blk 23 [.i 0, .i 0]))]⟩
      [(((j : Nat) : Int) + 1) = (((j + 1) : Nat) : Int), -9223372036854775808 ≤ (((j + 1) : Nat) : Int) ∧ (((j + 1) : Nat) : Int) < 9223372036854775808] (by kernel_rfl) (al2 (by omega) (al1 (by omega))) ?_
     exact ⟨((j + 1), ma, mu), ⟨(by (try dsimp only); first | omega | rfl | assumption | (simp; done)), (by (try dsimp only); first | omega | rfl | assumption | (simp; done)), (by (try dsimp only); rw [← hw]; exact open_step (by omega) (by first | exact .inl ⟨by assumption, by omega⟩ | exact .inr ⟨by assumption, rfl⟩)), (by (try dsimp only); rw [← hW]; exact open_step (by omega) (by first | exact .inl ⟨by assumption, by omega⟩ | exact .inr ⟨by assumption, rfl⟩))⟩, (show t.holes.length - (j + 1) < t.holes.length - j by first | omega | rfl | assumption),
         (Ent.ren [] rfl rfl (by kernel_rfl) ⟨rfl, rfl, rfl, rfl, rfl, rfl, rfl, rfl, rfl, trivial⟩ (cro rfl (cro rfl (cbl rfl rfl (cbl rfl rfl (cbl rfl rfl trivial))))) (by kernel_rfl))⟩
  ·
   have h5p : ((t.holes.length : Nat) : Int) ≤ ((j : Nat) : Int) := dlt h5
   refine aw_exit (exit_then (exit_then (exit_in ?_)))
   refine aw_seq ?_
   have z3 : r.opn - ma = openN y (openV t r y).worst r.opn t.holes := by
    rw [← hw, List.drop_eq_nil_of_le (by omega)]
    rfl
   have z4 : r.opn - mu = openN y (openV t r y).best r.opn t.holes := by
    rw [← hW, List.drop_eq_nil_of_le (by omega)]
    rfl
   refine aw_r [(3, .act [1004] (.l (.ref 1004 (10 + t.health.toNat * 1))) []), (4, .act [1004] (.i (healV r t.health)) [])]
    ⟨112, [1, 2], [(4, .l (.ref 1004 0)), (6, .l (.ref 1006 0)), (8, .i lo), (9, .i hi), (11, .i ma), (12, .i mu), (14, .i (healV r t.health))], [(2, some (refTaps_frK2 r)), (1004, some (refTaps_frK4 r)), (1006, some (.blk 23 [.i 0, .i 0]))]⟩
    [ActOK Try.prog (.indexAddr 28 (.tmp 92) (.tmp 91)) 0 [.l (.ref 1004 10), .i t.health] [1004] [some (refTaps_frK4 r)] (.l (.ref 1004 (10 + t.health.toNat * 1))) [], ActOK Try.prog (.load 3 (.tmp 93)) 3 [.l (.ref 1004 (10 + t.health.toNat * 1))] [1004] [some (refTaps_frK4 r)] (.i (healV r t.health)) []] (by kernel_rfl) (al2 (act_idxAt2 (k := t.health.toNat) (n := 5) (e := 3) (m := 1) (by kernel_rfl) (by kernel_rfl) rfl (by omega) (by omega) (by omega)) (al1 (act_loadAt (by kernel_rfl) rfl (by rcases (show t.health = 0 ∨ t.health = 1 ∨ t.health = 2 ∨ t.health = 3 ∨ t.health = 4 by omega) with e | e | e | e | e <;> rw [e] <;> rfl)))) ?_
   refine aw_seq ?_
   refine aw_r []
    ⟨112, [1, 2], [(6, .l (.ref 1006 0))], [(1006, some (refTaps_frK6 lo r t ma hi mu))]⟩
    [-9223372036854775808 ≤ (r.opn - ma) ∧ (r.opn - ma) < 9223372036854775808, -9223372036854775808 ≤ (r.opn - mu) ∧ (r.opn - mu) < 9223372036854775808] (by kernel_rfl) (al2 (by omega) (al1 (by omega))) ?_
   exact aw_ret ⟨.inr rfl, end_ok ⟨112, [1, 2], [(6, .l (.ref 8006 0))], [(8006, some (refTaps_frK7 t r y))]⟩
       (Ent.ren [(8006, 1006)] rfl rfl (by kernel_rfl) ⟨rfl, trivial⟩ (cbl rfl (by exact (cells_cons (cell_i (by first | rfl | omega | assumption | (rw [z1, z3]; rfl) | (rw [z2, z4]; rfl))) (cells_cons (cell_i (by first | rfl | omega | assumption | (rw [z1, z3]; rfl) | (rw [z2, z4]; rfl))) rfl))) trivial) (by kernel_rfl)) rfl (by kernel_rfl) wr_nil (by kernel_rfl)⟩
end Go.Proofs.Ytbpblhmigijkaaa
