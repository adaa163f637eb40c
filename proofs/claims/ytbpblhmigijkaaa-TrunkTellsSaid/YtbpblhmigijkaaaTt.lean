/- TrunkTells, walked. -/
import Derived.Test.YtbpblhmigijkaaaTw
namespace Go.Proofs.Ytbpblhmigijkaaa
open Go.RowKit
set_option linter.unusedVariables false
set_option linter.unusedSimpArgs false
theorem bin_neq_bool {xo yo : Operand} (a b : Bool) {r : Bool} (h : (a != b) = r) : BinRun Try.prog .neq 4 xo yo (.bool a) (.bool b) (.bool r) := by
  subst h
  intro w
  cases a <;> cases b <;> kernel_rfl
theorem treeE_2 {t : TreeV} (h : treeE t ≠ 0) : decide (treeE t ≠ 2) = false := by
 by_cases hb : treeB t = true
 · exact absurd (by unfold treeE; rw [if_pos hb]) h
 · unfold treeE; rw [if_neg hb]; rfl
theorem ruleE_2 {r : RuleV} (h : ruleE r ≠ 0) : decide (ruleE r ≠ 2) = false := by
 by_cases hb : ruleB r = true
 · exact absurd (by unfold ruleE; rw [if_pos hb]) h
 · unfold ruleE; rw [if_neg hb]; rfl
theorem st_ex {t : TreeV} {y : Int} : startE t exRule y = girthE t y := by
 have h : ruleE exRule = 0 := by decide
 simp [startE, girthE, h]
def tells_frK1 (t : TreeV) : Cn := .ro 3 t.holes.length (Lst eH t.holes)
def tells_frK2 (r : RuleV) : Cn := .ro 2 r.sizes.length (Lst eZ r.sizes)
def tells_frK3 (t : TreeV) : Cn := .blk 26 [.i t.year, .i t.glo, .i t.ghi, .i t.wlo, .i t.whi, .i t.health, .ls 1]
def tells_frK4 (r : RuleV) : Cn := .blk 30 [.i r.slo, .i r.shi, .i r.ulo, .i r.uhi, .i r.hlo, .i r.hhi, .i r.apart, .i r.blo, .i r.bhi, .ls 2, .i r.n0, .i r.n1, .i r.n2, .i r.n3, .i r.n4, .i r.opn]
def tells_frK5 (t : TreeV) : Cn := .vec 74 3 ((t.holes).length) (Lst eH t.holes)
def tells_frK6 (r : RuleV) : Cn := .vec 45 2 ((r.sizes).length) (Lst eZ r.sizes)
def tells_frK7 (t : TreeV) : Cn := .blk 26 [.i t.year, .i t.glo, .i t.ghi, .i t.wlo, .i t.whi, .i t.health, .ls 10230]
def tells_frK8 (r : RuleV) : Cn := .blk 30 [.i r.slo, .i r.shi, .i r.ulo, .i r.uhi, .i r.hlo, .i r.hhi, .i r.apart, .i r.blo, .i r.bhi, .ls 10250, .i r.n0, .i r.n1, .i r.n2, .i r.n3, .i r.n4, .i r.opn]
def tells_frK9 (t : TreeV) (y : Int) : Cn := .blk 23 [.i ((girthR t y).low), .i ((girthR t y).high)]
def tells_frK10 (t : TreeV) (r : RuleV) (y : Int) : Cn := .blk 23 [.i ((tapsR t r y).low), .i ((tapsR t r y).high)]
def tells_frK11  : Cn := .vec 45 2 exRule.sizes.length (Lst eZ exRule.sizes)
set_option maxHeartbeats 4000000 in
set_option maxRecDepth 100000 in
theorem tells_fr (t : TreeV) (r : RuleV) (y : Int) (ht : t.holes.length ≤ 9223372036854775807) (hr : r.sizes.length ≤ 9223372036854775807) : CallFr Try.prog 3 [.agg [.i t.year, .i t.glo, .i t.ghi, .i t.wlo, .i t.whi, .i t.health, .ls 1], .agg [.i r.slo, .i r.shi, .i r.ulo, .i r.uhi, .i r.hlo, .i r.hhi, .i r.apart, .i r.blo, .i r.bhi, .ls 2, .i r.n0, .i r.n1, .i r.n2, .i r.n3, .i r.n4, .i r.opn], .i y] [1, 2] [some (.ro 3 t.holes.length (Lst eH t.holes)), some (.ro 2 r.sizes.length (Lst eZ r.sizes))] (.b true) [] := by
 have hr2 : exRule.sizes.length ≤ 1000000 := by decide
 refine callFr_of (fn := Try.f3) (by kernel_rfl) rfl (by kernel_rfl) (by kernel_rfl) fun E => ?_
 refine aw_ent (T := ⟨157, [1, 2], [(0, .agg [.i t.year, .i t.glo, .i t.ghi, .i t.wlo, .i t.whi, .i t.health, .ls 1]), (1, .agg [.i r.slo, .i r.shi, .i r.ulo, .i r.uhi, .i r.hlo, .i r.hhi, .i r.apart, .i r.blo, .i r.bhi, .ls 2, .i r.n0, .i r.n1, .i r.n2, .i r.n3, .i r.n4, .i r.opn]), (2, .i y)], [(1, some (tells_frK1 t)), (2, some (tells_frK2 r))]⟩) (Ent.refl _) ?_
 refine aw_seq ?_
 refine aw_r [(0, .new 1003), (1, .new 1004)]
  ⟨157, [1, 2], [(2, .i y), (3, .l (.ref 1003 0)), (4, .l (.ref 1004 0))], [(1, some (tells_frK1 t)), (2, some (tells_frK2 r)), (1003, some (tells_frK3 t)), (1004, some (tells_frK4 r))]⟩
  [] (by kernel_rfl) trivial ?_
 refine aw_seq ?_
 refine aw_seq ?_
 refine aw_r [(2, .call [1, 2] (.b (largeB t r)) [])]
  ⟨157, [1, 2], [(2, .i y), (3, .l (.ref 1003 0)), (4, .l (.ref 1004 0)), (20, .b (largeB t r))], [(1, some (tells_frK1 t)), (2, some (tells_frK2 r)), (1003, some (tells_frK3 t)), (1004, some (tells_frK4 r))]⟩
  [CallOK Try.prog 13 [.agg [.i t.year, .i t.glo, .i t.ghi, .i t.wlo, .i t.whi, .i t.health, .ls 1], .agg [.i r.slo, .i r.shi, .i r.ulo, .i r.uhi, .i r.hlo, .i r.hhi, .i r.apart, .i r.blo, .i r.bhi, .ls 2, .i r.n0, .i r.n1, .i r.n2, .i r.n3, .i r.n4, .i r.opn]] [1, 2] [some (tells_frK1 t), some (tells_frK2 r)] (.b (largeB t r)) []] (by kernel_rfl) (al1 (CallFr.to (large_fr t r (by first | omega | (simp; done) | assumption) (by first | omega | (simp; done) | assumption)) [(1, 1), (2, 2)] (by kernel_rfl) (by kernel_rfl) (by kernel_rfl) (by kernel_rfl) (by kernel_rfl) (dem_cons rfl (le_ro rfl el_rfl) (dem_cons rfl (le_ro rfl el_rfl) dem_nil)))) ?_
 refine aw_cond (b := (largeB t r)) rfl (fun h1 => ?_) (fun h1 => ?_)
 ·
  refine aw_seq ?_
  refine aw_r [(0, .call [] (.b true) [])]
   ⟨157, [1, 2], [(6, .b true)], []⟩
   [CallOK Try.prog 14 [] [] [] (.b true) []] (by kernel_rfl) (al1 (CallFr.to (known_fr ) [] (by kernel_rfl) (by kernel_rfl) (by kernel_rfl) (by kernel_rfl) (by kernel_rfl) dem_nil)) ?_
  exact aw_ret (ret_then ⟨.inr rfl, end_ok ⟨157, [1, 2], [(6, .b true)], []⟩
      (Ent.ren [] rfl rfl (by kernel_rfl) ⟨rfl, trivial⟩ trivial (by kernel_rfl)) rfl (by kernel_rfl) wr_nil (by kernel_rfl)⟩)
 ·
  refine aw_skip ?_
  refine aw_seq ?_
  have hsz := large_no (by assumption)
  refine aw_d [(1, .call [1] (.agg [.i t.year, .i t.glo, .i t.ghi, .i t.wlo, .i t.whi, .i t.health, .ls 10230]) [(10230, some (tells_frK5 t))]), (3, .call [2] (.agg [.i r.slo, .i r.shi, .i r.ulo, .i r.uhi, .i r.hlo, .i r.hhi, .i r.apart, .i r.blo, .i r.bhi, .ls 10250, .i r.n0, .i r.n1, .i r.n2, .i r.n3, .i r.n4, .i r.opn]) [(10250, some (tells_frK6 r))]), (4, .new 1007), (5, .new 1008)]
   ⟨157, [1, 2], [(2, .i y), (3, .l (.ref 1003 0)), (4, .l (.ref 1004 0)), (7, .l (.ref 1007 0)), (8, .l (.ref 1008 0))], [(1, some (tells_frK1 t)), (2, some (tells_frK2 r)), (1003, some (tells_frK3 t)), (1004, some (tells_frK4 r)), (1007, some (tells_frK7 t)), (1008, some (tells_frK8 r)), (10230, some (tells_frK5 t)), (10250, some (tells_frK6 r))]⟩
   [CallOK Try.prog 15 [.agg [.i t.year, .i t.glo, .i t.ghi, .i t.wlo, .i t.whi, .i t.health, .ls 1]] [1] [some (tells_frK1 t)] (.agg [.i t.year, .i t.glo, .i t.ghi, .i t.wlo, .i t.whi, .i t.health, .ls 10230]) [(10230, some (tells_frK5 t))], CallOK Try.prog 16 [.agg [.i r.slo, .i r.shi, .i r.ulo, .i r.uhi, .i r.hlo, .i r.hhi, .i r.apart, .i r.blo, .i r.bhi, .ls 2, .i r.n0, .i r.n1, .i r.n2, .i r.n3, .i r.n4, .i r.opn]] [2] [some (tells_frK2 r)] (.agg [.i r.slo, .i r.shi, .i r.ulo, .i r.uhi, .i r.hlo, .i r.hhi, .i r.apart, .i r.blo, .i r.bhi, .ls 10250, .i r.n0, .i r.n1, .i r.n2, .i r.n3, .i r.n4, .i r.opn]) [(10250, some (tells_frK6 r))]] (by kernel_rfl) (by kernel_rfl) (al2 (CallFr.to (own_fr t (by first | omega | (simp; done) | assumption)) [(1, 1), (2, 10230)] (by kernel_rfl) (by kernel_rfl) (by kernel_rfl) (by kernel_rfl) (by kernel_rfl) (dem_cons rfl (le_ro rfl el_rfl) dem_nil)) (al1 (CallFr.to (tapsc_fr r (by first | omega | (simp; done) | assumption)) [(1, 2), (2, 10250)] (by kernel_rfl) (by kernel_rfl) (by kernel_rfl) (by kernel_rfl) (by kernel_rfl) (dem_cons rfl (le_ro rfl el_rfl) dem_nil)))) ?_
  refine aw_seq ?_
  refine aw_d [(1, .call [10230] (.i (treeE t)) []), (3, .call [10250] (.i (ruleE r)) [])]
   ⟨157, [1, 2], [(2, .i y), (3, .l (.ref 1003 0)), (4, .l (.ref 1004 0)), (7, .l (.ref 1007 0)), (8, .l (.ref 1008 0)), (9, .i (treeE t)), (10, .i (ruleE r))], [(1, some (tells_frK1 t)), (2, some (tells_frK2 r)), (1003, some (tells_frK3 t)), (1004, some (tells_frK4 r)), (1007, some (tells_frK7 t)), (1008, some (tells_frK8 r)), (10230, some (tells_frK5 t)), (10250, some (tells_frK6 r))]⟩
   [CallOK Try.prog 17 [.agg [.i t.year, .i t.glo, .i t.ghi, .i t.wlo, .i t.whi, .i t.health, .ls 10230]] [10230] [some (tells_frK5 t)] (.i (treeE t)) [], CallOK Try.prog 18 [.agg [.i r.slo, .i r.shi, .i r.ulo, .i r.uhi, .i r.hlo, .i r.hhi, .i r.apart, .i r.blo, .i r.bhi, .ls 10250, .i r.n0, .i r.n1, .i r.n2, .i r.n3, .i r.n4, .i r.opn]] [10250] [some (tells_frK6 r)] (.i (ruleE r)) []] (by kernel_rfl) (by kernel_rfl) (al2 (CallFr.to (CheckTree_fr t (by first | omega | (simp; done) | assumption)) [(1, 10230)] (by kernel_rfl) (by kernel_rfl) (by kernel_rfl) (by kernel_rfl) (by kernel_rfl) (dem_cons rfl (le_vec_ro rfl el_rfl) dem_nil)) (al1 (CallFr.to (CheckRules_fr r (by first | omega | (simp; done) | assumption)) [(2, 10250)] (by kernel_rfl) (by kernel_rfl) (by kernel_rfl) (by kernel_rfl) (by kernel_rfl) (dem_cons rfl (le_vec_ro rfl el_rfl) dem_nil)))) ?_
  refine aw_seq ?_
  refine aw_r [(2, .call [10230] (.tup [.agg [.i ((girthR t y).low), .i ((girthR t y).high)], .one (.i (girthE t y))]) []), (6, .new 1011)]
   ⟨157, [1, 2], [(2, .i y), (3, .l (.ref 1003 0)), (4, .l (.ref 1004 0)), (7, .l (.ref 1007 0)), (8, .l (.ref 1008 0)), (9, .i (treeE t)), (10, .i (ruleE r)), (11, .l (.ref 1011 0)), (12, .i (girthE t y))], [(1, some (tells_frK1 t)), (2, some (tells_frK2 r)), (1003, some (tells_frK3 t)), (1004, some (tells_frK4 r)), (1007, some (tells_frK7 t)), (1008, some (tells_frK8 r)), (1011, some (tells_frK9 t y)), (10230, some (tells_frK5 t)), (10250, some (tells_frK6 r))]⟩
   [CallOK Try.prog 19 [.agg [.i t.year, .i t.glo, .i t.ghi, .i t.wlo, .i t.whi, .i t.health, .ls 10230], .i y] [10230] [some (tells_frK5 t)] (.tup [.agg [.i ((girthR t y).low), .i ((girthR t y).high)], .one (.i (girthE t y))]) []] (by kernel_rfl) (al1 (CallFr.to (Girth_fr t y (by first | omega | (simp; done) | assumption)) [(1, 10230)] (by kernel_rfl) (by kernel_rfl) (by kernel_rfl) (by kernel_rfl) (by kernel_rfl) (dem_cons rfl (le_vec_ro rfl el_rfl) dem_nil))) ?_
  refine aw_seq ?_
  refine aw_r [(3, .call [10230, 10250] (.tup [.agg [.i ((tapsR t r y).low), .i ((tapsR t r y).high)], .one (.i (startE t r y))]) []), (7, .new 1013)]
   ⟨157, [1, 2], [(2, .i y), (3, .l (.ref 1003 0)), (4, .l (.ref 1004 0)), (7, .l (.ref 1007 0)), (8, .l (.ref 1008 0)), (9, .i (treeE t)), (10, .i (ruleE r)), (11, .l (.ref 1011 0)), (12, .i (girthE t y)), (13, .l (.ref 1013 0)), (14, .i (startE t r y))], [(1, some (tells_frK1 t)), (2, some (tells_frK2 r)), (1003, some (tells_frK3 t)), (1004, some (tells_frK4 r)), (1007, some (tells_frK7 t)), (1008, some (tells_frK8 r)), (1011, some (tells_frK9 t y)), (1013, some (tells_frK10 t r y)), (10230, some (tells_frK5 t)), (10250, some (tells_frK6 r))]⟩
   [CallOK Try.prog 20 [.agg [.i t.year, .i t.glo, .i t.ghi, .i t.wlo, .i t.whi, .i t.health, .ls 10230], .agg [.i r.slo, .i r.shi, .i r.ulo, .i r.uhi, .i r.hlo, .i r.hhi, .i r.apart, .i r.blo, .i r.bhi, .ls 10250, .i r.n0, .i r.n1, .i r.n2, .i r.n3, .i r.n4, .i r.opn], .i y] [10230, 10250] [some (tells_frK5 t), some (tells_frK6 r)] (.tup [.agg [.i ((tapsR t r y).low), .i ((tapsR t r y).high)], .one (.i (startE t r y))]) []] (by kernel_rfl) (al1 (CallFr.to (Taps_fr t r y (by first | omega | (simp; done) | assumption) (by first | omega | (simp; done) | assumption)) [(1, 10230), (2, 10250)] (by kernel_rfl) (by kernel_rfl) (by kernel_rfl) (by kernel_rfl) (by kernel_rfl) (dem_cons rfl (le_vec_ro rfl el_rfl) (dem_cons rfl (le_vec_ro rfl el_rfl) dem_nil)))) ?_
  refine aw_seq ?_
  refine aw_seq ?_
  have h2 : (decide ((((r.sizes).length : Nat) : Int) ≠ ((r.sizes.length : Nat) : Int))) = false := by simp
  have h3 : (((decide ((treeE t) = 0)) != (treeB t))) = false := by first | (unfold treeE; cases treeB t <;> rfl) | (unfold ruleE; cases ruleB r <;> rfl)
  have h4 : (((decide ((ruleE r) = 0)) != (ruleB r))) = false := by first | (unfold treeE; cases treeB t <;> rfl) | (unfold ruleE; cases ruleB r <;> rfl)
  rcases Bool.eq_false_or_eq_true (decide ((treeE t) ≠ 0)) with h5 | h5
  ·
   have h5p : (treeE t) ≠ 0 := dtr h5
   have h6 : (decide ((treeE t) ≠ 2)) = false := by first | exact treeE_2 (by assumption) | exact ruleE_2 (by assumption)
   rcases Bool.eq_false_or_eq_true (decide ((ruleE r) ≠ 0)) with h7 | h7
   ·
    have h7p : (ruleE r) ≠ 0 := dtr h7
    refine aw_r [(2, .call [10230, 1] (.b true) []), (13, .dec false), (17, .call [1] (.b (treeB t)) []), (18, .dec false), (24, .call [2] (.b (ruleB r)) []), (25, .dec false), (30, .dec true), (35, .dec false), (38, .dec true)]
     ⟨157, [1, 2], [(2, .i y), (3, .l (.ref 1003 0)), (4, .l (.ref 1004 0)), (8, .l (.ref 1008 0)), (11, .l (.ref 1011 0)), (12, .i (girthE t y)), (13, .l (.ref 1013 0)), (14, .i (startE t r y)), (85, .b (decide ((ruleE r) ≠ 2)))], [(1, some (tells_frK1 t)), (2, some (tells_frK2 r)), (1003, some (tells_frK3 t)), (1004, some (tells_frK4 r)), (1008, some (tells_frK8 r)), (1011, some (tells_frK9 t y)), (1013, some (tells_frK10 t r y)), (10250, some (tells_frK6 r))]⟩
     [CallOK Try.prog 21 [.agg [.i t.year, .i t.glo, .i t.ghi, .i t.wlo, .i t.whi, .i t.health, .ls 10230], .agg [.i t.year, .i t.glo, .i t.ghi, .i t.wlo, .i t.whi, .i t.health, .ls 1]] [10230, 1] [some (tells_frK5 t), some (tells_frK1 t)] (.b true) [], decide ((((r.sizes).length : Nat) : Int) ≠ ((r.sizes.length : Nat) : Int)) = false, CallOK Try.prog 22 [.agg [.i t.year, .i t.glo, .i t.ghi, .i t.wlo, .i t.whi, .i t.health, .ls 1]] [1] [some (tells_frK1 t)] (.b (treeB t)) [], BinRun Try.prog .neq 4 (.tmp 58) (.tmp 60) (.bool (decide ((treeE t) = 0))) (.bool (treeB t)) (.bool false), CallOK Try.prog 23 [.agg [.i r.slo, .i r.shi, .i r.ulo, .i r.uhi, .i r.hlo, .i r.hhi, .i r.apart, .i r.blo, .i r.bhi, .ls 2, .i r.n0, .i r.n1, .i r.n2, .i r.n3, .i r.n4, .i r.opn]] [2] [some (tells_frK2 r)] (.b (ruleB r)) [], BinRun Try.prog .neq 4 (.tmp 65) (.tmp 67) (.bool (decide ((ruleE r) = 0))) (.bool (ruleB r)) (.bool false), decide ((treeE t) ≠ 0) = true, decide ((treeE t) ≠ 2) = false, decide ((ruleE r) ≠ 0) = true] (by kernel_rfl) (al2 (CallFr.to (holesS_fr t (by first | omega | (simp; done) | assumption)) [(1, 10230), (2, 1)] (by kernel_rfl) (by kernel_rfl) (by kernel_rfl) (by kernel_rfl) (by kernel_rfl) (dem_cons rfl (le_vec_ro rfl el_rfl) (dem_cons rfl (le_ro rfl el_rfl) dem_nil))) (al2 h2 (al2 (CallFr.to (refTree_fr t (by first | omega | (simp; done) | assumption)) [(1, 1)] (by kernel_rfl) (by kernel_rfl) (by kernel_rfl) (by kernel_rfl) (by kernel_rfl) (dem_cons rfl (le_ro rfl el_rfl) dem_nil)) (al2 (bin_neq_bool (decide ((treeE t) = 0)) (treeB t) (h3)) (al2 (CallFr.to (refRules_fr r (by first | omega | (simp; done) | assumption)) [(2, 2)] (by kernel_rfl) (by kernel_rfl) (by kernel_rfl) (by kernel_rfl) (by kernel_rfl) (dem_cons rfl (le_ro rfl el_rfl) dem_nil)) (al2 (bin_neq_bool (decide ((ruleE r) = 0)) (ruleB r) (h4)) (al2 h5 (al2 h6 (al1 h7))))))))) ?_
    have h8 : (decide ((ruleE r) ≠ 2)) = false := by first | exact treeE_2 (by assumption) | exact ruleE_2 (by assumption)
    refine aw_cond (b := decide ((ruleE r) ≠ 2)) rfl (fun h => Bool.noConfusion (h8.symm.trans h)) (fun _ => ?_)
    refine aw_skip ?_
    refine aw_seq ?_
    refine aw_seq ?_
    refine aw_r []
     ⟨157, [1, 2], [(2, .i y), (3, .l (.ref 1003 0)), (4, .l (.ref 1004 0)), (8, .l (.ref 1008 0)), (11, .l (.ref 1011 0)), (12, .i (girthE t y)), (13, .l (.ref 1013 0)), (14, .i (startE t r y)), (15, .i 0)], [(1, some (tells_frK1 t)), (2, some (tells_frK2 r)), (1003, some (tells_frK3 t)), (1004, some (tells_frK4 r)), (1008, some (tells_frK8 r)), (1011, some (tells_frK9 t y)), (1013, some (tells_frK10 t r y)), (10250, some (tells_frK6 r))]⟩
     [] (by kernel_rfl) trivial ?_
    refine aw_block ?_
    refine aw_loop (ι := Nat) (fun zz => ⟨157, [1, 2], [(2, .i y), (3, .l (.ref 1003 0)), (4, .l (.ref 1004 0)), (8, .l (.ref 1008 0)), (11, .l (.ref 1011 0)), (12, .i (girthE t y)), (13, .l (.ref 1013 0)), (14, .i (startE t r y)), (15, .i ((zz : Nat) : Int))], [(1, some (tells_frK1 t)), (2, some (tells_frK2 r)), (1003, some (tells_frK3 t)), (1004, some (tells_frK4 r)), (1008, some (tells_frK8 r)), (1011, some (tells_frK9 t y)), (1013, some (tells_frK10 t r y)), (10250, some (tells_frK6 r))]⟩) (fun zz => (zz ≤ r.sizes.length)) (fun zz => r.sizes.length - zz) 0 (by first | omega | rfl | assumption | (simp; done))
        (Ent.ren [] rfl rfl (by kernel_rfl) ⟨rfl, rfl, rfl, rfl, rfl, rfl, rfl, rfl, rfl, trivial⟩ (cro rfl (cro rfl (cbl rfl rfl (cbl rfl rfl (cbl rfl rfl (cbl rfl rfl (cbl rfl rfl (cve rfl trivial)))))))) (by kernel_rfl)) fun zz hp => ?_
    obtain ⟨i, rfl⟩ : ∃ x, x = zz := ⟨_, rfl⟩
    have hiL := hp
    show AW _ E _ _ ⟨157, [1, 2], [(2, .i y), (3, .l (.ref 1003 0)), (4, .l (.ref 1004 0)), (8, .l (.ref 1008 0)), (11, .l (.ref 1011 0)), (12, .i (girthE t y)), (13, .l (.ref 1013 0)), (14, .i (startE t r y)), (15, .i ((i : Nat) : Int))], [(1, some (tells_frK1 t)), (2, some (tells_frK2 r)), (1003, some (tells_frK3 t)), (1004, some (tells_frK4 r)), (1008, some (tells_frK8 r)), (1011, some (tells_frK9 t y)), (1013, some (tells_frK10 t r y)), (10250, some (tells_frK6 r))]⟩
    refine aw_seq ?_
    refine aw_seq ?_
    refine aw_r []
     ⟨157, [1, 2], [(2, .i y), (3, .l (.ref 1003 0)), (4, .l (.ref 1004 0)), (8, .l (.ref 1008 0)), (11, .l (.ref 1011 0)), (12, .i (girthE t y)), (13, .l (.ref 1013 0)), (14, .i (startE t r y)), (15, .i ((i : Nat) : Int)), (90, .b (decide (((i : Nat) : Int) < ((r.sizes.length : Nat) : Int))))], [(1, some (tells_frK1 t)), (2, some (tells_frK2 r)), (1003, some (tells_frK3 t)), (1004, some (tells_frK4 r)), (1008, some (tells_frK8 r)), (1011, some (tells_frK9 t y)), (1013, some (tells_frK10 t r y)), (10250, some (tells_frK6 r))]⟩
     [] (by kernel_rfl) trivial ?_
    refine aw_cond (b := decide (((i : Nat) : Int) < ((r.sizes.length : Nat) : Int))) rfl (fun h9 => ?_) (fun h9 => ?_)
    ·
     have h9p : ((i : Nat) : Int) < ((r.sizes.length : Nat) : Int) := dtr h9
     refine aw_skip ?_
     refine aw_seq ?_
     refine aw_block ?_
     refine aw_seq ?_
     have h10 : (decide ((ix r.sizes i).girth ≠ (ix r.sizes i).girth) || decide ((ix r.sizes i).taps ≠ (ix r.sizes i).taps)) = false := by simp
     refine aw_d [(3, .idx i), (8, .idx i), (10, .dec false)]
      ⟨157, [1, 2], [(2, .i y), (3, .l (.ref 1003 0)), (4, .l (.ref 1004 0)), (8, .l (.ref 1008 0)), (11, .l (.ref 1011 0)), (12, .i (girthE t y)), (13, .l (.ref 1013 0)), (14, .i (startE t r y)), (15, .i ((i : Nat) : Int)), (103, .b false)], [(1, some (tells_frK1 t)), (2, some (tells_frK2 r)), (1003, some (tells_frK3 t)), (1004, some (tells_frK4 r)), (1008, some (tells_frK8 r)), (1011, some (tells_frK9 t y)), (1013, some (tells_frK10 t r y)), (10250, some (tells_frK6 r))]⟩
      [((i : Nat) : Int) = ((i : Nat) : Int), i < (r.sizes).length, i < (r.sizes).length, ((i : Nat) : Int) = ((i : Nat) : Int), i < r.sizes.length, i < r.sizes.length, BinRun Try.prog .neq 45 (.tmp 97) (.tmp 102) (.agg #[.int .i64 ((ix r.sizes i).girth), .int .i64 ((ix r.sizes i).taps)]) (.agg #[.int .i64 ((ix r.sizes i).girth), .int .i64 ((ix r.sizes i).taps)]) (.bool false)] (by kernel_rfl) (by kernel_rfl) (al2 (by omega) (al2 (by omega) (al2 (by omega) (al2 (by omega) (al2 (by omega) (al2 (by omega) (al1 (bin_neq_Z ((ix r.sizes i).girth) ((ix r.sizes i).taps) ((ix r.sizes i).girth) ((ix r.sizes i).taps) h10)))))))) ?_
     refine aw_false rfl ?_
     refine aw_skip ?_
     refine aw_r [(1, .num (((i + 1) : Nat) : Int))]
      ⟨157, [1, 2], [(2, .i y), (3, .l (.ref 1003 0)), (4, .l (.ref 1004 0)), (8, .l (.ref 1008 0)), (11, .l (.ref 1011 0)), (12, .i (girthE t y)), (13, .l (.ref 1013 0)), (14, .i (startE t r y)), (15, .i (((i + 1) : Nat) : Int))], [(1, some (tells_frK1 t)), (2, some (tells_frK2 r)), (1003, some (tells_frK3 t)), (1004, some (tells_frK4 r)), (1008, some (tells_frK8 r)), (1011, some (tells_frK9 t y)), (1013, some (tells_frK10 t r y)), (10250, some (tells_frK6 r))]⟩
      [(((i : Nat) : Int) + 1) = (((i + 1) : Nat) : Int), -9223372036854775808 ≤ (((i + 1) : Nat) : Int) ∧ (((i + 1) : Nat) : Int) < 9223372036854775808] (by kernel_rfl) (al2 (by omega) (al1 (by omega))) ?_
     exact ⟨(i + 1), (by first | omega | rfl | assumption | (simp; done)), (show r.sizes.length - (i + 1) < r.sizes.length - i by first | omega | rfl | assumption),
         (Ent.ren [] rfl rfl (by kernel_rfl) ⟨rfl, rfl, rfl, rfl, rfl, rfl, rfl, rfl, rfl, trivial⟩ (cro rfl (cro rfl (cbl rfl rfl (cbl rfl rfl (cbl rfl rfl (cbl rfl rfl (cbl rfl rfl (cve rfl trivial)))))))) (by kernel_rfl))⟩
    ·
     have h9p : ((r.sizes.length : Nat) : Int) ≤ ((i : Nat) : Int) := dlt h9
     refine aw_exit (exit_then (exit_then (exit_in ?_)))
     refine aw_seq ?_
     refine aw_seq ?_
     refine aw_d [(1, .call [] (.agg [.i exRule.slo, .i exRule.shi, .i exRule.ulo, .i exRule.uhi, .i exRule.hlo, .i exRule.hhi, .i exRule.apart, .i exRule.blo, .i exRule.bhi, .ls 11050, .i exRule.n0, .i exRule.n1, .i exRule.n2, .i exRule.n3, .i exRule.n4, .i exRule.opn]) [(11050, some tells_frK11)]), (3, .call [1, 11050] (.i (startE t exRule y)) [])]
      ⟨157, [1, 2], [(2, .i y), (3, .l (.ref 1003 0)), (4, .l (.ref 1004 0)), (11, .l (.ref 1011 0)), (12, .i (girthE t y)), (13, .l (.ref 1013 0)), (14, .i (startE t r y)), (16, .i (startE t exRule y))], [(1, some (tells_frK1 t)), (2, some (tells_frK2 r)), (1003, some (tells_frK3 t)), (1004, some (tells_frK4 r)), (1011, some (tells_frK9 t y)), (1013, some (tells_frK10 t r y))]⟩
      [CallOK Try.prog 25 [] [] [] (.agg [.i exRule.slo, .i exRule.shi, .i exRule.ulo, .i exRule.uhi, .i exRule.hlo, .i exRule.hhi, .i exRule.apart, .i exRule.blo, .i exRule.bhi, .ls 11050, .i exRule.n0, .i exRule.n1, .i exRule.n2, .i exRule.n3, .i exRule.n4, .i exRule.opn]) [(11050, some tells_frK11)], CallOK Try.prog 24 [.agg [.i t.year, .i t.glo, .i t.ghi, .i t.wlo, .i t.whi, .i t.health, .ls 1], .agg [.i exRule.slo, .i exRule.shi, .i exRule.ulo, .i exRule.uhi, .i exRule.hlo, .i exRule.hhi, .i exRule.apart, .i exRule.blo, .i exRule.bhi, .ls 11050, .i exRule.n0, .i exRule.n1, .i exRule.n2, .i exRule.n3, .i exRule.n4, .i exRule.opn], .i y] [1, 11050] [some (tells_frK1 t), some tells_frK11] (.i (startE t exRule y)) []] (by kernel_rfl) (by kernel_rfl) (al2 (CallFr.to (rules_fr ) [(1, 11050)] (by kernel_rfl) (by kernel_rfl) (by kernel_rfl) (by kernel_rfl) (by kernel_rfl) dem_nil) (al1 (CallFr.to (refStart_fr t exRule y (by first | omega | (simp; done) | assumption) (by first | omega | (simp; done) | assumption)) [(1, 1), (2, 11050)] (by kernel_rfl) (by kernel_rfl) (by kernel_rfl) (by kernel_rfl) (by kernel_rfl) (dem_cons rfl (le_ro rfl el_rfl) (dem_cons rfl (le_vec_ro rfl el_rfl) dem_nil))))) ?_
     refine aw_seq ?_
     refine aw_ent (T := ⟨157, [1, 2], [(2, .i y), (3, .l (.ref 1003 0)), (4, .l (.ref 1004 0)), (11, .l (.ref 1011 0)), (12, .i (girthE t y)), (13, .l (.ref 1013 0)), (14, .i (startE t r y)), (16, .i (girthE t y))], [(1, some (tells_frK1 t)), (2, some (tells_frK2 r)), (1003, some (tells_frK3 t)), (1004, some (tells_frK4 r)), (1011, some (tells_frK9 t y)), (1013, some (tells_frK10 t r y))]⟩)
         (Ent.ren [] rfl rfl (by kernel_rfl) ⟨rfl, rfl, rfl, rfl, rfl, rfl, rfl, (slot_i rfl (by first | rfl | omega | assumption | (exact st_ex))), trivial⟩ (cro rfl (cro rfl (cbl rfl rfl (cbl rfl rfl (cbl rfl rfl (cbl rfl rfl trivial)))))) (by kernel_rfl)) ?_
     refine aw_r []
      ⟨157, [1, 2], [(2, .i y), (3, .l (.ref 1003 0)), (4, .l (.ref 1004 0)), (11, .l (.ref 1011 0)), (12, .i (girthE t y)), (13, .l (.ref 1013 0)), (14, .i (startE t r y)), (16, .i (girthE t y)), (109, .b (decide ((girthE t y) ≠ 0)))], [(1, some (tells_frK1 t)), (2, some (tells_frK2 r)), (1003, some (tells_frK3 t)), (1004, some (tells_frK4 r)), (1011, some (tells_frK9 t y)), (1013, some (tells_frK10 t r y))]⟩
      [] (by kernel_rfl) trivial ?_
     refine aw_cond (b := decide ((girthE t y) ≠ 0)) rfl (fun h11 => ?_) (fun h11 => ?_)
     ·
      have h11p : (girthE t y) ≠ 0 := dtr h11
      refine aw_seq ?_
      have h12 : (decide ((girthE t y) ≠ (girthE t y))) = false := by simp
      have h13 : ((decide ((girthR t y).low ≠ 0) || decide ((girthR t y).high ≠ 0))) = false := by simp_all [girthR, tapsR]
      refine aw_r [(3, .dec false), (6, .dec false)]
       ⟨157, [1, 2], [(2, .i y), (3, .l (.ref 1003 0)), (4, .l (.ref 1004 0)), (13, .l (.ref 1013 0)), (14, .i (startE t r y)), (117, .b false)], [(1, some (tells_frK1 t)), (2, some (tells_frK2 r)), (1003, some (tells_frK3 t)), (1004, some (tells_frK4 r)), (1013, some (tells_frK10 t r y))]⟩
       [decide ((girthE t y) ≠ (girthE t y)) = false, BinRun Try.prog .neq 23 (.tmp 114) (.tmp 115) (.agg #[.int .i64 ((girthR t y).low), .int .i64 ((girthR t y).high)]) (.agg #[.int .i64 0, .int .i64 0]) (.bool false)] (by kernel_rfl) (al2 h12 (al1 (bin_neq_G ((girthR t y).low) ((girthR t y).high) 0 0 h13))) ?_
      refine aw_false rfl ?_
      refine aw_skip ?_
      refine aw_seq ?_
      refine aw_seq ?_
      refine aw_r [(3, .call [1, 2] (.i (startE t r y)) [])]
       ⟨157, [1, 2], [(2, .i y), (3, .l (.ref 1003 0)), (4, .l (.ref 1004 0)), (13, .l (.ref 1013 0)), (14, .i (startE t r y)), (17, .i (startE t r y))], [(1, some (tells_frK1 t)), (2, some (tells_frK2 r)), (1003, some (tells_frK3 t)), (1004, some (tells_frK4 r)), (1013, some (tells_frK10 t r y))]⟩
       [CallOK Try.prog 24 [.agg [.i t.year, .i t.glo, .i t.ghi, .i t.wlo, .i t.whi, .i t.health, .ls 1], .agg [.i r.slo, .i r.shi, .i r.ulo, .i r.uhi, .i r.hlo, .i r.hhi, .i r.apart, .i r.blo, .i r.bhi, .ls 2, .i r.n0, .i r.n1, .i r.n2, .i r.n3, .i r.n4, .i r.opn], .i y] [1, 2] [some (tells_frK1 t), some (tells_frK2 r)] (.i (startE t r y)) []] (by kernel_rfl) (al1 (CallFr.to (refStart_fr t r y (by first | omega | (simp; done) | assumption) (by first | omega | (simp; done) | assumption)) [(1, 1), (2, 2)] (by kernel_rfl) (by kernel_rfl) (by kernel_rfl) (by kernel_rfl) (by kernel_rfl) (dem_cons rfl (le_ro rfl el_rfl) (dem_cons rfl (le_ro rfl el_rfl) dem_nil)))) ?_
      refine aw_seq ?_
      refine aw_r []
       ⟨157, [1, 2], [(2, .i y), (3, .l (.ref 1003 0)), (4, .l (.ref 1004 0)), (13, .l (.ref 1013 0)), (14, .i (startE t r y)), (17, .i (startE t r y)), (132, .b (decide ((startE t r y) ≠ 0)))], [(1, some (tells_frK1 t)), (2, some (tells_frK2 r)), (1003, some (tells_frK3 t)), (1004, some (tells_frK4 r)), (1013, some (tells_frK10 t r y))]⟩
       [] (by kernel_rfl) trivial ?_
      refine aw_cond (b := decide ((startE t r y) ≠ 0)) rfl (fun h14 => ?_) (fun h14 => ?_)
      ·
       have h14p : (startE t r y) ≠ 0 := dtr h14
       refine aw_seq ?_
       have h15 : (decide ((startE t r y) = (startE t r y))) = true := by simp
       have h16 : ((decide ((tapsR t r y).low = 0) && decide ((tapsR t r y).high = 0))) = true := by simp_all [girthR, tapsR]
       refine aw_r [(3, .dec true), (6, .dec true), (9, .call [] (.b true) [])]
        ⟨157, [1, 2], [(6, .b true)], []⟩
        [decide ((startE t r y) = (startE t r y)) = true, BinRun Try.prog .eql 23 (.tmp 137) (.tmp 138) (.agg #[.int .i64 ((tapsR t r y).low), .int .i64 ((tapsR t r y).high)]) (.agg #[.int .i64 0, .int .i64 0]) (.bool true), CallOK Try.prog 14 [] [] [] (.b true) []] (by kernel_rfl) (al2 h15 (al2 (bin_eq_G ((tapsR t r y).low) ((tapsR t r y).high) 0 0 h16) (al1 (CallFr.to (known_fr ) [] (by kernel_rfl) (by kernel_rfl) (by kernel_rfl) (by kernel_rfl) (by kernel_rfl) dem_nil)))) ?_
       exact aw_ret (ret_then ⟨.inr rfl, end_ok ⟨157, [1, 2], [(6, .b true)], []⟩
           (Ent.ren [] rfl rfl (by kernel_rfl) ⟨rfl, trivial⟩ trivial (by kernel_rfl)) rfl (by kernel_rfl) wr_nil (by kernel_rfl)⟩)
      ·
       have h14p : (startE t r y) = 0 := dne h14
       refine aw_skip ?_
       refine aw_seq ?_
       rcases Bool.eq_false_or_eq_true (decide ((startE t r y) = 0)) with h17 | h17
       ·
        have h17p : (startE t r y) = 0 := dtr h17
        have h18 : ((decide ((tapsR t r y).low = (tapsV (openV t r y) (openV t r y).worst)) && decide ((tapsR t r y).high = (tapsV (openV t r y) (openV t r y).best)))) = true := by simp_all [girthR, tapsR]
        refine aw_d [(2, .dec true), (7, .call [1, 2] (.agg [.i (tapsV (openV t r y) (openV t r y).worst), .i (tapsV (openV t r y) (openV t r y).best)]) []), (8, .dec true), (11, .call [] (.b true) [])]
         ⟨157, [1, 2], [(6, .b true)], []⟩
         [decide ((startE t r y) = 0) = true, CallOK Try.prog 27 [.agg [.i t.year, .i t.glo, .i t.ghi, .i t.wlo, .i t.whi, .i t.health, .ls 1], .agg [.i r.slo, .i r.shi, .i r.ulo, .i r.uhi, .i r.hlo, .i r.hhi, .i r.apart, .i r.blo, .i r.bhi, .ls 2, .i r.n0, .i r.n1, .i r.n2, .i r.n3, .i r.n4, .i r.opn], .i y] [1, 2] [some (tells_frK1 t), some (tells_frK2 r)] (.agg [.i (tapsV (openV t r y) (openV t r y).worst), .i (tapsV (openV t r y) (openV t r y).best)]) [], BinRun Try.prog .eql 23 (.tmp 147) (.tmp 151) (.agg #[.int .i64 ((tapsR t r y).low), .int .i64 ((tapsR t r y).high)]) (.agg #[.int .i64 (tapsV (openV t r y) (openV t r y).worst), .int .i64 (tapsV (openV t r y) (openV t r y).best)]) (.bool true), CallOK Try.prog 14 [] [] [] (.b true) []] (by kernel_rfl) (by kernel_rfl) (al2 h17 (al2 (CallFr.to (refTaps_fr t r y (by first | omega | (simp; done) | assumption) (by first | omega | (simp; done) | assumption) (by assumption)) [(1, 1), (2, 2)] (by kernel_rfl) (by kernel_rfl) (by kernel_rfl) (by kernel_rfl) (by kernel_rfl) (dem_cons rfl (le_ro rfl el_rfl) (dem_cons rfl (le_ro rfl el_rfl) dem_nil))) (al2 (bin_eq_G ((tapsR t r y).low) ((tapsR t r y).high) (tapsV (openV t r y) (openV t r y).worst) (tapsV (openV t r y) (openV t r y).best) h18) (al1 (CallFr.to (known_fr ) [] (by kernel_rfl) (by kernel_rfl) (by kernel_rfl) (by kernel_rfl) (by kernel_rfl) dem_nil))))) ?_
        exact aw_ret ⟨.inr rfl, end_ok ⟨157, [1, 2], [(6, .b true)], []⟩
            (Ent.ren [] rfl rfl (by kernel_rfl) ⟨rfl, trivial⟩ trivial (by kernel_rfl)) rfl (by kernel_rfl) wr_nil (by kernel_rfl)⟩
       ·
        have h17p : (startE t r y) ≠ 0 := deq h17
        refine aw_d [(2, .dec false)]
         ⟨157, [1, 2], [(6, .b false)], []⟩
         [decide ((startE t r y) = 0) = false] (by kernel_rfl) (by kernel_rfl) (al1 h17) ?_
        exact aw_ret ⟨.inr rfl, end_ok ⟨157, [1, 2], [(6, .b true)], []⟩
            (Ent.ren [] rfl rfl (by kernel_rfl) ⟨(slot_b (a := false) rfl (by first | rfl | omega | assumption)), trivial⟩ trivial (by kernel_rfl)) rfl (by kernel_rfl) wr_nil (by kernel_rfl)⟩
     ·
      have h11p : (girthE t y) = 0 := dne h11
      refine aw_seq ?_
      have hgo := girthE_0.1 (by assumption)
      have hgt := hgo.1
      have hgy := hgo.2
      have h19 : ((decide ((girthR t y).low ≠ (girthV t y).low) || decide ((girthR t y).high ≠ (girthV t y).high))) = false := by simp_all [girthR, tapsR]
      refine aw_d [(2, .dec false), (6, .call [1] (.agg [.i ((girthV t y).low), .i ((girthV t y).high)]) []), (7, .dec false)]
       ⟨157, [1, 2], [(2, .i y), (3, .l (.ref 1003 0)), (4, .l (.ref 1004 0)), (13, .l (.ref 1013 0)), (14, .i (startE t r y)), (126, .b false)], [(1, some (tells_frK1 t)), (2, some (tells_frK2 r)), (1003, some (tells_frK3 t)), (1004, some (tells_frK4 r)), (1013, some (tells_frK10 t r y))]⟩
       [decide ((girthE t y) ≠ 0) = false, CallOK Try.prog 26 [.agg [.i t.year, .i t.glo, .i t.ghi, .i t.wlo, .i t.whi, .i t.health, .ls 1], .i y] [1] [some (tells_frK1 t)] (.agg [.i ((girthV t y).low), .i ((girthV t y).high)]) [], BinRun Try.prog .neq 23 (.tmp 121) (.tmp 124) (.agg #[.int .i64 ((girthR t y).low), .int .i64 ((girthR t y).high)]) (.agg #[.int .i64 ((girthV t y).low), .int .i64 ((girthV t y).high)]) (.bool false)] (by kernel_rfl) (by kernel_rfl) (al2 h11 (al2 (CallFr.to (refGirth_fr t y (by assumption) (by assumption)) [(1, 1)] (by kernel_rfl) (by kernel_rfl) (by kernel_rfl) (by kernel_rfl) (by kernel_rfl) (dem_cons rfl (le_ro rfl el_rfl) dem_nil)) (al1 (bin_neq_G ((girthR t y).low) ((girthR t y).high) ((girthV t y).low) ((girthV t y).high) h19)))) ?_
      refine aw_false rfl ?_
      refine aw_skip ?_
      refine aw_seq ?_
      refine aw_seq ?_
      refine aw_r [(3, .call [1, 2] (.i (startE t r y)) [])]
       ⟨157, [1, 2], [(2, .i y), (3, .l (.ref 1003 0)), (4, .l (.ref 1004 0)), (13, .l (.ref 1013 0)), (14, .i (startE t r y)), (17, .i (startE t r y))], [(1, some (tells_frK1 t)), (2, some (tells_frK2 r)), (1003, some (tells_frK3 t)), (1004, some (tells_frK4 r)), (1013, some (tells_frK10 t r y))]⟩
       [CallOK Try.prog 24 [.agg [.i t.year, .i t.glo, .i t.ghi, .i t.wlo, .i t.whi, .i t.health, .ls 1], .agg [.i r.slo, .i r.shi, .i r.ulo, .i r.uhi, .i r.hlo, .i r.hhi, .i r.apart, .i r.blo, .i r.bhi, .ls 2, .i r.n0, .i r.n1, .i r.n2, .i r.n3, .i r.n4, .i r.opn], .i y] [1, 2] [some (tells_frK1 t), some (tells_frK2 r)] (.i (startE t r y)) []] (by kernel_rfl) (al1 (CallFr.to (refStart_fr t r y (by first | omega | (simp; done) | assumption) (by first | omega | (simp; done) | assumption)) [(1, 1), (2, 2)] (by kernel_rfl) (by kernel_rfl) (by kernel_rfl) (by kernel_rfl) (by kernel_rfl) (dem_cons rfl (le_ro rfl el_rfl) (dem_cons rfl (le_ro rfl el_rfl) dem_nil)))) ?_
      refine aw_seq ?_
      refine aw_r []
       ⟨157, [1, 2], [(2, .i y), (3, .l (.ref 1003 0)), (4, .l (.ref 1004 0)), (13, .l (.ref 1013 0)), (14, .i (startE t r y)), (17, .i (startE t r y)), (132, .b (decide ((startE t r y) ≠ 0)))], [(1, some (tells_frK1 t)), (2, some (tells_frK2 r)), (1003, some (tells_frK3 t)), (1004, some (tells_frK4 r)), (1013, some (tells_frK10 t r y))]⟩
       [] (by kernel_rfl) trivial ?_
      refine aw_cond (b := decide ((startE t r y) ≠ 0)) rfl (fun h20 => ?_) (fun h20 => ?_)
      ·
       have h20p : (startE t r y) ≠ 0 := dtr h20
       refine aw_seq ?_
       have h21 : (decide ((startE t r y) = (startE t r y))) = true := by simp
       have h22 : ((decide ((tapsR t r y).low = 0) && decide ((tapsR t r y).high = 0))) = true := by simp_all [girthR, tapsR]
       refine aw_r [(3, .dec true), (6, .dec true), (9, .call [] (.b true) [])]
        ⟨157, [1, 2], [(6, .b true)], []⟩
        [decide ((startE t r y) = (startE t r y)) = true, BinRun Try.prog .eql 23 (.tmp 137) (.tmp 138) (.agg #[.int .i64 ((tapsR t r y).low), .int .i64 ((tapsR t r y).high)]) (.agg #[.int .i64 0, .int .i64 0]) (.bool true), CallOK Try.prog 14 [] [] [] (.b true) []] (by kernel_rfl) (al2 h21 (al2 (bin_eq_G ((tapsR t r y).low) ((tapsR t r y).high) 0 0 h22) (al1 (CallFr.to (known_fr ) [] (by kernel_rfl) (by kernel_rfl) (by kernel_rfl) (by kernel_rfl) (by kernel_rfl) dem_nil)))) ?_
       exact aw_ret (ret_then ⟨.inr rfl, end_ok ⟨157, [1, 2], [(6, .b true)], []⟩
           (Ent.ren [] rfl rfl (by kernel_rfl) ⟨rfl, trivial⟩ trivial (by kernel_rfl)) rfl (by kernel_rfl) wr_nil (by kernel_rfl)⟩)
      ·
       have h20p : (startE t r y) = 0 := dne h20
       refine aw_skip ?_
       refine aw_seq ?_
       rcases Bool.eq_false_or_eq_true (decide ((startE t r y) = 0)) with h23 | h23
       ·
        have h23p : (startE t r y) = 0 := dtr h23
        have h24 : ((decide ((tapsR t r y).low = (tapsV (openV t r y) (openV t r y).worst)) && decide ((tapsR t r y).high = (tapsV (openV t r y) (openV t r y).best)))) = true := by simp_all [girthR, tapsR]
        refine aw_d [(2, .dec true), (7, .call [1, 2] (.agg [.i (tapsV (openV t r y) (openV t r y).worst), .i (tapsV (openV t r y) (openV t r y).best)]) []), (8, .dec true), (11, .call [] (.b true) [])]
         ⟨157, [1, 2], [(6, .b true)], []⟩
         [decide ((startE t r y) = 0) = true, CallOK Try.prog 27 [.agg [.i t.year, .i t.glo, .i t.ghi, .i t.wlo, .i t.whi, .i t.health, .ls 1], .agg [.i r.slo, .i r.shi, .i r.ulo, .i r.uhi, .i r.hlo, .i r.hhi, .i r.apart, .i r.blo, .i r.bhi, .ls 2, .i r.n0, .i r.n1, .i r.n2, .i r.n3, .i r.n4, .i r.opn], .i y] [1, 2] [some (tells_frK1 t), some (tells_frK2 r)] (.agg [.i (tapsV (openV t r y) (openV t r y).worst), .i (tapsV (openV t r y) (openV t r y).best)]) [], BinRun Try.prog .eql 23 (.tmp 147) (.tmp 151) (.agg #[.int .i64 ((tapsR t r y).low), .int .i64 ((tapsR t r y).high)]) (.agg #[.int .i64 (tapsV (openV t r y) (openV t r y).worst), .int .i64 (tapsV (openV t r y) (openV t r y).best)]) (.bool true), CallOK Try.prog 14 [] [] [] (.b true) []] (by kernel_rfl) (by kernel_rfl) (al2 h23 (al2 (CallFr.to (refTaps_fr t r y (by first | omega | (simp; done) | assumption) (by first | omega | (simp; done) | assumption) (by assumption)) [(1, 1), (2, 2)] (by kernel_rfl) (by kernel_rfl) (by kernel_rfl) (by kernel_rfl) (by kernel_rfl) (dem_cons rfl (le_ro rfl el_rfl) (dem_cons rfl (le_ro rfl el_rfl) dem_nil))) (al2 (bin_eq_G ((tapsR t r y).low) ((tapsR t r y).high) (tapsV (openV t r y) (openV t r y).worst) (tapsV (openV t r y) (openV t r y).best) h24) (al1 (CallFr.to (known_fr ) [] (by kernel_rfl) (by kernel_rfl) (by kernel_rfl) (by kernel_rfl) (by kernel_rfl) dem_nil))))) ?_
        exact aw_ret ⟨.inr rfl, end_ok ⟨157, [1, 2], [(6, .b true)], []⟩
            (Ent.ren [] rfl rfl (by kernel_rfl) ⟨rfl, trivial⟩ trivial (by kernel_rfl)) rfl (by kernel_rfl) wr_nil (by kernel_rfl)⟩
       ·
        have h23p : (startE t r y) ≠ 0 := deq h23
        refine aw_d [(2, .dec false)]
         ⟨157, [1, 2], [(6, .b false)], []⟩
         [decide ((startE t r y) = 0) = false] (by kernel_rfl) (by kernel_rfl) (al1 h23) ?_
        exact aw_ret ⟨.inr rfl, end_ok ⟨157, [1, 2], [(6, .b true)], []⟩
            (Ent.ren [] rfl rfl (by kernel_rfl) ⟨(slot_b (a := false) rfl (by first | rfl | omega | assumption)), trivial⟩ trivial (by kernel_rfl)) rfl (by kernel_rfl) wr_nil (by kernel_rfl)⟩
   ·
    have h7p : (ruleE r) = 0 := dne h7
    refine aw_r [(2, .call [10230, 1] (.b true) []), (13, .dec false), (17, .call [1] (.b (treeB t)) []), (18, .dec false), (24, .call [2] (.b (ruleB r)) []), (25, .dec false), (30, .dec true), (35, .dec false), (38, .dec false)]
     ⟨157, [1, 2], [(2, .i y), (3, .l (.ref 1003 0)), (4, .l (.ref 1004 0)), (8, .l (.ref 1008 0)), (11, .l (.ref 1011 0)), (12, .i (girthE t y)), (13, .l (.ref 1013 0)), (14, .i (startE t r y)), (85, .b false)], [(1, some (tells_frK1 t)), (2, some (tells_frK2 r)), (1003, some (tells_frK3 t)), (1004, some (tells_frK4 r)), (1008, some (tells_frK8 r)), (1011, some (tells_frK9 t y)), (1013, some (tells_frK10 t r y)), (10250, some (tells_frK6 r))]⟩
     [CallOK Try.prog 21 [.agg [.i t.year, .i t.glo, .i t.ghi, .i t.wlo, .i t.whi, .i t.health, .ls 10230], .agg [.i t.year, .i t.glo, .i t.ghi, .i t.wlo, .i t.whi, .i t.health, .ls 1]] [10230, 1] [some (tells_frK5 t), some (tells_frK1 t)] (.b true) [], decide ((((r.sizes).length : Nat) : Int) ≠ ((r.sizes.length : Nat) : Int)) = false, CallOK Try.prog 22 [.agg [.i t.year, .i t.glo, .i t.ghi, .i t.wlo, .i t.whi, .i t.health, .ls 1]] [1] [some (tells_frK1 t)] (.b (treeB t)) [], BinRun Try.prog .neq 4 (.tmp 58) (.tmp 60) (.bool (decide ((treeE t) = 0))) (.bool (treeB t)) (.bool false), CallOK Try.prog 23 [.agg [.i r.slo, .i r.shi, .i r.ulo, .i r.uhi, .i r.hlo, .i r.hhi, .i r.apart, .i r.blo, .i r.bhi, .ls 2, .i r.n0, .i r.n1, .i r.n2, .i r.n3, .i r.n4, .i r.opn]] [2] [some (tells_frK2 r)] (.b (ruleB r)) [], BinRun Try.prog .neq 4 (.tmp 65) (.tmp 67) (.bool (decide ((ruleE r) = 0))) (.bool (ruleB r)) (.bool false), decide ((treeE t) ≠ 0) = true, decide ((treeE t) ≠ 2) = false, decide ((ruleE r) ≠ 0) = false] (by kernel_rfl) (al2 (CallFr.to (holesS_fr t (by first | omega | (simp; done) | assumption)) [(1, 10230), (2, 1)] (by kernel_rfl) (by kernel_rfl) (by kernel_rfl) (by kernel_rfl) (by kernel_rfl) (dem_cons rfl (le_vec_ro rfl el_rfl) (dem_cons rfl (le_ro rfl el_rfl) dem_nil))) (al2 h2 (al2 (CallFr.to (refTree_fr t (by first | omega | (simp; done) | assumption)) [(1, 1)] (by kernel_rfl) (by kernel_rfl) (by kernel_rfl) (by kernel_rfl) (by kernel_rfl) (dem_cons rfl (le_ro rfl el_rfl) dem_nil)) (al2 (bin_neq_bool (decide ((treeE t) = 0)) (treeB t) (h3)) (al2 (CallFr.to (refRules_fr r (by first | omega | (simp; done) | assumption)) [(2, 2)] (by kernel_rfl) (by kernel_rfl) (by kernel_rfl) (by kernel_rfl) (by kernel_rfl) (dem_cons rfl (le_ro rfl el_rfl) dem_nil)) (al2 (bin_neq_bool (decide ((ruleE r) = 0)) (ruleB r) (h4)) (al2 h5 (al2 h6 (al1 h7))))))))) ?_
    refine aw_false rfl ?_
    refine aw_skip ?_
    refine aw_seq ?_
    refine aw_seq ?_
    refine aw_r []
     ⟨157, [1, 2], [(2, .i y), (3, .l (.ref 1003 0)), (4, .l (.ref 1004 0)), (8, .l (.ref 1008 0)), (11, .l (.ref 1011 0)), (12, .i (girthE t y)), (13, .l (.ref 1013 0)), (14, .i (startE t r y)), (15, .i 0)], [(1, some (tells_frK1 t)), (2, some (tells_frK2 r)), (1003, some (tells_frK3 t)), (1004, some (tells_frK4 r)), (1008, some (tells_frK8 r)), (1011, some (tells_frK9 t y)), (1013, some (tells_frK10 t r y)), (10250, some (tells_frK6 r))]⟩
     [] (by kernel_rfl) trivial ?_
    refine aw_block ?_
    refine aw_loop (ι := Nat) (fun zz => ⟨157, [1, 2], [(2, .i y), (3, .l (.ref 1003 0)), (4, .l (.ref 1004 0)), (8, .l (.ref 1008 0)), (11, .l (.ref 1011 0)), (12, .i (girthE t y)), (13, .l (.ref 1013 0)), (14, .i (startE t r y)), (15, .i ((zz : Nat) : Int))], [(1, some (tells_frK1 t)), (2, some (tells_frK2 r)), (1003, some (tells_frK3 t)), (1004, some (tells_frK4 r)), (1008, some (tells_frK8 r)), (1011, some (tells_frK9 t y)), (1013, some (tells_frK10 t r y)), (10250, some (tells_frK6 r))]⟩) (fun zz => (zz ≤ r.sizes.length)) (fun zz => r.sizes.length - zz) 0 (by first | omega | rfl | assumption | (simp; done))
        (Ent.ren [] rfl rfl (by kernel_rfl) ⟨rfl, rfl, rfl, rfl, rfl, rfl, rfl, rfl, rfl, trivial⟩ (cro rfl (cro rfl (cbl rfl rfl (cbl rfl rfl (cbl rfl rfl (cbl rfl rfl (cbl rfl rfl (cve rfl trivial)))))))) (by kernel_rfl)) fun zz hp => ?_
    obtain ⟨i, rfl⟩ : ∃ x, x = zz := ⟨_, rfl⟩
    have hiL := hp
    show AW _ E _ _ ⟨157, [1, 2], [(2, .i y), (3, .l (.ref 1003 0)), (4, .l (.ref 1004 0)), (8, .l (.ref 1008 0)), (11, .l (.ref 1011 0)), (12, .i (girthE t y)), (13, .l (.ref 1013 0)), (14, .i (startE t r y)), (15, .i ((i : Nat) : Int))], [(1, some (tells_frK1 t)), (2, some (tells_frK2 r)), (1003, some (tells_frK3 t)), (1004, some (tells_frK4 r)), (1008, some (tells_frK8 r)), (1011, some (tells_frK9 t y)), (1013, some (tells_frK10 t r y)), (10250, some (tells_frK6 r))]⟩
    refine aw_seq ?_
    refine aw_seq ?_
    refine aw_r []
     ⟨157, [1, 2], [(2, .i y), (3, .l (.ref 1003 0)), (4, .l (.ref 1004 0)), (8, .l (.ref 1008 0)), (11, .l (.ref 1011 0)), (12, .i (girthE t y)), (13, .l (.ref 1013 0)), (14, .i (startE t r y)), (15, .i ((i : Nat) : Int)), (90, .b (decide (((i : Nat) : Int) < ((r.sizes.length : Nat) : Int))))], [(1, some (tells_frK1 t)), (2, some (tells_frK2 r)), (1003, some (tells_frK3 t)), (1004, some (tells_frK4 r)), (1008, some (tells_frK8 r)), (1011, some (tells_frK9 t y)), (1013, some (tells_frK10 t r y)), (10250, some (tells_frK6 r))]⟩
     [] (by kernel_rfl) trivial ?_
    refine aw_cond (b := decide (((i : Nat) : Int) < ((r.sizes.length : Nat) : Int))) rfl (fun h25 => ?_) (fun h25 => ?_)
    ·
     have h25p : ((i : Nat) : Int) < ((r.sizes.length : Nat) : Int) := dtr h25
     refine aw_skip ?_
     refine aw_seq ?_
     refine aw_block ?_
     refine aw_seq ?_
     have h26 : (decide ((ix r.sizes i).girth ≠ (ix r.sizes i).girth) || decide ((ix r.sizes i).taps ≠ (ix r.sizes i).taps)) = false := by simp
     refine aw_d [(3, .idx i), (8, .idx i), (10, .dec false)]
      ⟨157, [1, 2], [(2, .i y), (3, .l (.ref 1003 0)), (4, .l (.ref 1004 0)), (8, .l (.ref 1008 0)), (11, .l (.ref 1011 0)), (12, .i (girthE t y)), (13, .l (.ref 1013 0)), (14, .i (startE t r y)), (15, .i ((i : Nat) : Int)), (103, .b false)], [(1, some (tells_frK1 t)), (2, some (tells_frK2 r)), (1003, some (tells_frK3 t)), (1004, some (tells_frK4 r)), (1008, some (tells_frK8 r)), (1011, some (tells_frK9 t y)), (1013, some (tells_frK10 t r y)), (10250, some (tells_frK6 r))]⟩
      [((i : Nat) : Int) = ((i : Nat) : Int), i < (r.sizes).length, i < (r.sizes).length, ((i : Nat) : Int) = ((i : Nat) : Int), i < r.sizes.length, i < r.sizes.length, BinRun Try.prog .neq 45 (.tmp 97) (.tmp 102) (.agg #[.int .i64 ((ix r.sizes i).girth), .int .i64 ((ix r.sizes i).taps)]) (.agg #[.int .i64 ((ix r.sizes i).girth), .int .i64 ((ix r.sizes i).taps)]) (.bool false)] (by kernel_rfl) (by kernel_rfl) (al2 (by omega) (al2 (by omega) (al2 (by omega) (al2 (by omega) (al2 (by omega) (al2 (by omega) (al1 (bin_neq_Z ((ix r.sizes i).girth) ((ix r.sizes i).taps) ((ix r.sizes i).girth) ((ix r.sizes i).taps) h26)))))))) ?_
     refine aw_false rfl ?_
     refine aw_skip ?_
     refine aw_r [(1, .num (((i + 1) : Nat) : Int))]
      ⟨157, [1, 2], [(2, .i y), (3, .l (.ref 1003 0)), (4, .l (.ref 1004 0)), (8, .l (.ref 1008 0)), (11, .l (.ref 1011 0)), (12, .i (girthE t y)), (13, .l (.ref 1013 0)), (14, .i (startE t r y)), (15, .i (((i + 1) : Nat) : Int))], [(1, some (tells_frK1 t)), (2, some (tells_frK2 r)), (1003, some (tells_frK3 t)), (1004, some (tells_frK4 r)), (1008, some (tells_frK8 r)), (1011, some (tells_frK9 t y)), (1013, some (tells_frK10 t r y)), (10250, some (tells_frK6 r))]⟩
      [(((i : Nat) : Int) + 1) = (((i + 1) : Nat) : Int), -9223372036854775808 ≤ (((i + 1) : Nat) : Int) ∧ (((i + 1) : Nat) : Int) < 9223372036854775808] (by kernel_rfl) (al2 (by omega) (al1 (by omega))) ?_
     exact ⟨(i + 1), (by first | omega | rfl | assumption | (simp; done)), (show r.sizes.length - (i + 1) < r.sizes.length - i by first | omega | rfl | assumption),
         (Ent.ren [] rfl rfl (by kernel_rfl) ⟨rfl, rfl, rfl, rfl, rfl, rfl, rfl, rfl, rfl, trivial⟩ (cro rfl (cro rfl (cbl rfl rfl (cbl rfl rfl (cbl rfl rfl (cbl rfl rfl (cbl rfl rfl (cve rfl trivial)))))))) (by kernel_rfl))⟩
    ·
     have h25p : ((r.sizes.length : Nat) : Int) ≤ ((i : Nat) : Int) := dlt h25
     refine aw_exit (exit_then (exit_then (exit_in ?_)))
     refine aw_seq ?_
     refine aw_seq ?_
     refine aw_d [(1, .call [] (.agg [.i exRule.slo, .i exRule.shi, .i exRule.ulo, .i exRule.uhi, .i exRule.hlo, .i exRule.hhi, .i exRule.apart, .i exRule.blo, .i exRule.bhi, .ls 11050, .i exRule.n0, .i exRule.n1, .i exRule.n2, .i exRule.n3, .i exRule.n4, .i exRule.opn]) [(11050, some tells_frK11)]), (3, .call [1, 11050] (.i (startE t exRule y)) [])]
      ⟨157, [1, 2], [(2, .i y), (3, .l (.ref 1003 0)), (4, .l (.ref 1004 0)), (11, .l (.ref 1011 0)), (12, .i (girthE t y)), (13, .l (.ref 1013 0)), (14, .i (startE t r y)), (16, .i (startE t exRule y))], [(1, some (tells_frK1 t)), (2, some (tells_frK2 r)), (1003, some (tells_frK3 t)), (1004, some (tells_frK4 r)), (1011, some (tells_frK9 t y)), (1013, some (tells_frK10 t r y))]⟩
      [CallOK Try.prog 25 [] [] [] (.agg [.i exRule.slo, .i exRule.shi, .i exRule.ulo, .i exRule.uhi, .i exRule.hlo, .i exRule.hhi, .i exRule.apart, .i exRule.blo, .i exRule.bhi, .ls 11050, .i exRule.n0, .i exRule.n1, .i exRule.n2, .i exRule.n3, .i exRule.n4, .i exRule.opn]) [(11050, some tells_frK11)], CallOK Try.prog 24 [.agg [.i t.year, .i t.glo, .i t.ghi, .i t.wlo, .i t.whi, .i t.health, .ls 1], .agg [.i exRule.slo, .i exRule.shi, .i exRule.ulo, .i exRule.uhi, .i exRule.hlo, .i exRule.hhi, .i exRule.apart, .i exRule.blo, .i exRule.bhi, .ls 11050, .i exRule.n0, .i exRule.n1, .i exRule.n2, .i exRule.n3, .i exRule.n4, .i exRule.opn], .i y] [1, 11050] [some (tells_frK1 t), some tells_frK11] (.i (startE t exRule y)) []] (by kernel_rfl) (by kernel_rfl) (al2 (CallFr.to (rules_fr ) [(1, 11050)] (by kernel_rfl) (by kernel_rfl) (by kernel_rfl) (by kernel_rfl) (by kernel_rfl) dem_nil) (al1 (CallFr.to (refStart_fr t exRule y (by first | omega | (simp; done) | assumption) (by first | omega | (simp; done) | assumption)) [(1, 1), (2, 11050)] (by kernel_rfl) (by kernel_rfl) (by kernel_rfl) (by kernel_rfl) (by kernel_rfl) (dem_cons rfl (le_ro rfl el_rfl) (dem_cons rfl (le_vec_ro rfl el_rfl) dem_nil))))) ?_
     refine aw_seq ?_
     refine aw_ent (T := ⟨157, [1, 2], [(2, .i y), (3, .l (.ref 1003 0)), (4, .l (.ref 1004 0)), (11, .l (.ref 1011 0)), (12, .i (girthE t y)), (13, .l (.ref 1013 0)), (14, .i (startE t r y)), (16, .i (girthE t y))], [(1, some (tells_frK1 t)), (2, some (tells_frK2 r)), (1003, some (tells_frK3 t)), (1004, some (tells_frK4 r)), (1011, some (tells_frK9 t y)), (1013, some (tells_frK10 t r y))]⟩)
         (Ent.ren [] rfl rfl (by kernel_rfl) ⟨rfl, rfl, rfl, rfl, rfl, rfl, rfl, (slot_i rfl (by first | rfl | omega | assumption | (exact st_ex))), trivial⟩ (cro rfl (cro rfl (cbl rfl rfl (cbl rfl rfl (cbl rfl rfl (cbl rfl rfl trivial)))))) (by kernel_rfl)) ?_
     refine aw_r []
      ⟨157, [1, 2], [(2, .i y), (3, .l (.ref 1003 0)), (4, .l (.ref 1004 0)), (11, .l (.ref 1011 0)), (12, .i (girthE t y)), (13, .l (.ref 1013 0)), (14, .i (startE t r y)), (16, .i (girthE t y)), (109, .b (decide ((girthE t y) ≠ 0)))], [(1, some (tells_frK1 t)), (2, some (tells_frK2 r)), (1003, some (tells_frK3 t)), (1004, some (tells_frK4 r)), (1011, some (tells_frK9 t y)), (1013, some (tells_frK10 t r y))]⟩
      [] (by kernel_rfl) trivial ?_
     refine aw_cond (b := decide ((girthE t y) ≠ 0)) rfl (fun h27 => ?_) (fun h27 => ?_)
     ·
      have h27p : (girthE t y) ≠ 0 := dtr h27
      refine aw_seq ?_
      have h28 : (decide ((girthE t y) ≠ (girthE t y))) = false := by simp
      have h29 : ((decide ((girthR t y).low ≠ 0) || decide ((girthR t y).high ≠ 0))) = false := by simp_all [girthR, tapsR]
      refine aw_r [(3, .dec false), (6, .dec false)]
       ⟨157, [1, 2], [(2, .i y), (3, .l (.ref 1003 0)), (4, .l (.ref 1004 0)), (13, .l (.ref 1013 0)), (14, .i (startE t r y)), (117, .b false)], [(1, some (tells_frK1 t)), (2, some (tells_frK2 r)), (1003, some (tells_frK3 t)), (1004, some (tells_frK4 r)), (1013, some (tells_frK10 t r y))]⟩
       [decide ((girthE t y) ≠ (girthE t y)) = false, BinRun Try.prog .neq 23 (.tmp 114) (.tmp 115) (.agg #[.int .i64 ((girthR t y).low), .int .i64 ((girthR t y).high)]) (.agg #[.int .i64 0, .int .i64 0]) (.bool false)] (by kernel_rfl) (al2 h28 (al1 (bin_neq_G ((girthR t y).low) ((girthR t y).high) 0 0 h29))) ?_
      refine aw_false rfl ?_
      refine aw_skip ?_
      refine aw_seq ?_
      refine aw_seq ?_
      refine aw_r [(3, .call [1, 2] (.i (startE t r y)) [])]
       ⟨157, [1, 2], [(2, .i y), (3, .l (.ref 1003 0)), (4, .l (.ref 1004 0)), (13, .l (.ref 1013 0)), (14, .i (startE t r y)), (17, .i (startE t r y))], [(1, some (tells_frK1 t)), (2, some (tells_frK2 r)), (1003, some (tells_frK3 t)), (1004, some (tells_frK4 r)), (1013, some (tells_frK10 t r y))]⟩
       [CallOK Try.prog 24 [.agg [.i t.year, .i t.glo, .i t.ghi, .i t.wlo, .i t.whi, .i t.health, .ls 1], .agg [.i r.slo, .i r.shi, .i r.ulo, .i r.uhi, .i r.hlo, .i r.hhi, .i r.apart, .i r.blo, .i r.bhi, .ls 2, .i r.n0, .i r.n1, .i r.n2, .i r.n3, .i r.n4, .i r.opn], .i y] [1, 2] [some (tells_frK1 t), some (tells_frK2 r)] (.i (startE t r y)) []] (by kernel_rfl) (al1 (CallFr.to (refStart_fr t r y (by first | omega | (simp; done) | assumption) (by first | omega | (simp; done) | assumption)) [(1, 1), (2, 2)] (by kernel_rfl) (by kernel_rfl) (by kernel_rfl) (by kernel_rfl) (by kernel_rfl) (dem_cons rfl (le_ro rfl el_rfl) (dem_cons rfl (le_ro rfl el_rfl) dem_nil)))) ?_
      refine aw_seq ?_
      refine aw_r []
       ⟨157, [1, 2], [(2, .i y), (3, .l (.ref 1003 0)), (4, .l (.ref 1004 0)), (13, .l (.ref 1013 0)), (14, .i (startE t r y)), (17, .i (startE t r y)), (132, .b (decide ((startE t r y) ≠ 0)))], [(1, some (tells_frK1 t)), (2, some (tells_frK2 r)), (1003, some (tells_frK3 t)), (1004, some (tells_frK4 r)), (1013, some (tells_frK10 t r y))]⟩
       [] (by kernel_rfl) trivial ?_
      refine aw_cond (b := decide ((startE t r y) ≠ 0)) rfl (fun h30 => ?_) (fun h30 => ?_)
      ·
       have h30p : (startE t r y) ≠ 0 := dtr h30
       refine aw_seq ?_
       have h31 : (decide ((startE t r y) = (startE t r y))) = true := by simp
       have h32 : ((decide ((tapsR t r y).low = 0) && decide ((tapsR t r y).high = 0))) = true := by simp_all [girthR, tapsR]
       refine aw_r [(3, .dec true), (6, .dec true), (9, .call [] (.b true) [])]
        ⟨157, [1, 2], [(6, .b true)], []⟩
        [decide ((startE t r y) = (startE t r y)) = true, BinRun Try.prog .eql 23 (.tmp 137) (.tmp 138) (.agg #[.int .i64 ((tapsR t r y).low), .int .i64 ((tapsR t r y).high)]) (.agg #[.int .i64 0, .int .i64 0]) (.bool true), CallOK Try.prog 14 [] [] [] (.b true) []] (by kernel_rfl) (al2 h31 (al2 (bin_eq_G ((tapsR t r y).low) ((tapsR t r y).high) 0 0 h32) (al1 (CallFr.to (known_fr ) [] (by kernel_rfl) (by kernel_rfl) (by kernel_rfl) (by kernel_rfl) (by kernel_rfl) dem_nil)))) ?_
       exact aw_ret (ret_then ⟨.inr rfl, end_ok ⟨157, [1, 2], [(6, .b true)], []⟩
           (Ent.ren [] rfl rfl (by kernel_rfl) ⟨rfl, trivial⟩ trivial (by kernel_rfl)) rfl (by kernel_rfl) wr_nil (by kernel_rfl)⟩)
      ·
       have h30p : (startE t r y) = 0 := dne h30
       refine aw_skip ?_
       refine aw_seq ?_
       rcases Bool.eq_false_or_eq_true (decide ((startE t r y) = 0)) with h33 | h33
       ·
        have h33p : (startE t r y) = 0 := dtr h33
        have h34 : ((decide ((tapsR t r y).low = (tapsV (openV t r y) (openV t r y).worst)) && decide ((tapsR t r y).high = (tapsV (openV t r y) (openV t r y).best)))) = true := by simp_all [girthR, tapsR]
        refine aw_d [(2, .dec true), (7, .call [1, 2] (.agg [.i (tapsV (openV t r y) (openV t r y).worst), .i (tapsV (openV t r y) (openV t r y).best)]) []), (8, .dec true), (11, .call [] (.b true) [])]
         ⟨157, [1, 2], [(6, .b true)], []⟩
         [decide ((startE t r y) = 0) = true, CallOK Try.prog 27 [.agg [.i t.year, .i t.glo, .i t.ghi, .i t.wlo, .i t.whi, .i t.health, .ls 1], .agg [.i r.slo, .i r.shi, .i r.ulo, .i r.uhi, .i r.hlo, .i r.hhi, .i r.apart, .i r.blo, .i r.bhi, .ls 2, .i r.n0, .i r.n1, .i r.n2, .i r.n3, .i r.n4, .i r.opn], .i y] [1, 2] [some (tells_frK1 t), some (tells_frK2 r)] (.agg [.i (tapsV (openV t r y) (openV t r y).worst), .i (tapsV (openV t r y) (openV t r y).best)]) [], BinRun Try.prog .eql 23 (.tmp 147) (.tmp 151) (.agg #[.int .i64 ((tapsR t r y).low), .int .i64 ((tapsR t r y).high)]) (.agg #[.int .i64 (tapsV (openV t r y) (openV t r y).worst), .int .i64 (tapsV (openV t r y) (openV t r y).best)]) (.bool true), CallOK Try.prog 14 [] [] [] (.b true) []] (by kernel_rfl) (by kernel_rfl) (al2 h33 (al2 (CallFr.to (refTaps_fr t r y (by first | omega | (simp; done) | assumption) (by first | omega | (simp; done) | assumption) (by assumption)) [(1, 1), (2, 2)] (by kernel_rfl) (by kernel_rfl) (by kernel_rfl) (by kernel_rfl) (by kernel_rfl) (dem_cons rfl (le_ro rfl el_rfl) (dem_cons rfl (le_ro rfl el_rfl) dem_nil))) (al2 (bin_eq_G ((tapsR t r y).low) ((tapsR t r y).high) (tapsV (openV t r y) (openV t r y).worst) (tapsV (openV t r y) (openV t r y).best) h34) (al1 (CallFr.to (known_fr ) [] (by kernel_rfl) (by kernel_rfl) (by kernel_rfl) (by kernel_rfl) (by kernel_rfl) dem_nil))))) ?_
        exact aw_ret ⟨.inr rfl, end_ok ⟨157, [1, 2], [(6, .b true)], []⟩
            (Ent.ren [] rfl rfl (by kernel_rfl) ⟨rfl, trivial⟩ trivial (by kernel_rfl)) rfl (by kernel_rfl) wr_nil (by kernel_rfl)⟩
       ·
        have h33p : (startE t r y) ≠ 0 := deq h33
        refine aw_d [(2, .dec false)]
         ⟨157, [1, 2], [(6, .b false)], []⟩
         [decide ((startE t r y) = 0) = false] (by kernel_rfl) (by kernel_rfl) (al1 h33) ?_
        exact aw_ret ⟨.inr rfl, end_ok ⟨157, [1, 2], [(6, .b true)], []⟩
            (Ent.ren [] rfl rfl (by kernel_rfl) ⟨(slot_b (a := false) rfl (by first | rfl | omega | assumption)), trivial⟩ trivial (by kernel_rfl)) rfl (by kernel_rfl) wr_nil (by kernel_rfl)⟩
     ·
      have h27p : (girthE t y) = 0 := dne h27
      refine aw_seq ?_
      have hgo := girthE_0.1 (by assumption)
      have hgt := hgo.1
      have hgy := hgo.2
      have h35 : ((decide ((girthR t y).low ≠ (girthV t y).low) || decide ((girthR t y).high ≠ (girthV t y).high))) = false := by simp_all [girthR, tapsR]
      refine aw_d [(2, .dec false), (6, .call [1] (.agg [.i ((girthV t y).low), .i ((girthV t y).high)]) []), (7, .dec false)]
       ⟨157, [1, 2], [(2, .i y), (3, .l (.ref 1003 0)), (4, .l (.ref 1004 0)), (13, .l (.ref 1013 0)), (14, .i (startE t r y)), (126, .b false)], [(1, some (tells_frK1 t)), (2, some (tells_frK2 r)), (1003, some (tells_frK3 t)), (1004, some (tells_frK4 r)), (1013, some (tells_frK10 t r y))]⟩
       [decide ((girthE t y) ≠ 0) = false, CallOK Try.prog 26 [.agg [.i t.year, .i t.glo, .i t.ghi, .i t.wlo, .i t.whi, .i t.health, .ls 1], .i y] [1] [some (tells_frK1 t)] (.agg [.i ((girthV t y).low), .i ((girthV t y).high)]) [], BinRun Try.prog .neq 23 (.tmp 121) (.tmp 124) (.agg #[.int .i64 ((girthR t y).low), .int .i64 ((girthR t y).high)]) (.agg #[.int .i64 ((girthV t y).low), .int .i64 ((girthV t y).high)]) (.bool false)] (by kernel_rfl) (by kernel_rfl) (al2 h27 (al2 (CallFr.to (refGirth_fr t y (by assumption) (by assumption)) [(1, 1)] (by kernel_rfl) (by kernel_rfl) (by kernel_rfl) (by kernel_rfl) (by kernel_rfl) (dem_cons rfl (le_ro rfl el_rfl) dem_nil)) (al1 (bin_neq_G ((girthR t y).low) ((girthR t y).high) ((girthV t y).low) ((girthV t y).high) h35)))) ?_
      refine aw_false rfl ?_
      refine aw_skip ?_
      refine aw_seq ?_
      refine aw_seq ?_
      refine aw_r [(3, .call [1, 2] (.i (startE t r y)) [])]
       ⟨157, [1, 2], [(2, .i y), (3, .l (.ref 1003 0)), (4, .l (.ref 1004 0)), (13, .l (.ref 1013 0)), (14, .i (startE t r y)), (17, .i (startE t r y))], [(1, some (tells_frK1 t)), (2, some (tells_frK2 r)), (1003, some (tells_frK3 t)), (1004, some (tells_frK4 r)), (1013, some (tells_frK10 t r y))]⟩
       [CallOK Try.prog 24 [.agg [.i t.year, .i t.glo, .i t.ghi, .i t.wlo, .i t.whi, .i t.health, .ls 1], .agg [.i r.slo, .i r.shi, .i r.ulo, .i r.uhi, .i r.hlo, .i r.hhi, .i r.apart, .i r.blo, .i r.bhi, .ls 2, .i r.n0, .i r.n1, .i r.n2, .i r.n3, .i r.n4, .i r.opn], .i y] [1, 2] [some (tells_frK1 t), some (tells_frK2 r)] (.i (startE t r y)) []] (by kernel_rfl) (al1 (CallFr.to (refStart_fr t r y (by first | omega | (simp; done) | assumption) (by first | omega | (simp; done) | assumption)) [(1, 1), (2, 2)] (by kernel_rfl) (by kernel_rfl) (by kernel_rfl) (by kernel_rfl) (by kernel_rfl) (dem_cons rfl (le_ro rfl el_rfl) (dem_cons rfl (le_ro rfl el_rfl) dem_nil)))) ?_
      refine aw_seq ?_
      refine aw_r []
       ⟨157, [1, 2], [(2, .i y), (3, .l (.ref 1003 0)), (4, .l (.ref 1004 0)), (13, .l (.ref 1013 0)), (14, .i (startE t r y)), (17, .i (startE t r y)), (132, .b (decide ((startE t r y) ≠ 0)))], [(1, some (tells_frK1 t)), (2, some (tells_frK2 r)), (1003, some (tells_frK3 t)), (1004, some (tells_frK4 r)), (1013, some (tells_frK10 t r y))]⟩
       [] (by kernel_rfl) trivial ?_
      refine aw_cond (b := decide ((startE t r y) ≠ 0)) rfl (fun h36 => ?_) (fun h36 => ?_)
      ·
       have h36p : (startE t r y) ≠ 0 := dtr h36
       refine aw_seq ?_
       have h37 : (decide ((startE t r y) = (startE t r y))) = true := by simp
       have h38 : ((decide ((tapsR t r y).low = 0) && decide ((tapsR t r y).high = 0))) = true := by simp_all [girthR, tapsR]
       refine aw_r [(3, .dec true), (6, .dec true), (9, .call [] (.b true) [])]
        ⟨157, [1, 2], [(6, .b true)], []⟩
        [decide ((startE t r y) = (startE t r y)) = true, BinRun Try.prog .eql 23 (.tmp 137) (.tmp 138) (.agg #[.int .i64 ((tapsR t r y).low), .int .i64 ((tapsR t r y).high)]) (.agg #[.int .i64 0, .int .i64 0]) (.bool true), CallOK Try.prog 14 [] [] [] (.b true) []] (by kernel_rfl) (al2 h37 (al2 (bin_eq_G ((tapsR t r y).low) ((tapsR t r y).high) 0 0 h38) (al1 (CallFr.to (known_fr ) [] (by kernel_rfl) (by kernel_rfl) (by kernel_rfl) (by kernel_rfl) (by kernel_rfl) dem_nil)))) ?_
       exact aw_ret (ret_then ⟨.inr rfl, end_ok ⟨157, [1, 2], [(6, .b true)], []⟩
           (Ent.ren [] rfl rfl (by kernel_rfl) ⟨rfl, trivial⟩ trivial (by kernel_rfl)) rfl (by kernel_rfl) wr_nil (by kernel_rfl)⟩)
      ·
       have h36p : (startE t r y) = 0 := dne h36
       refine aw_skip ?_
       refine aw_seq ?_
       rcases Bool.eq_false_or_eq_true (decide ((startE t r y) = 0)) with h39 | h39
       ·
        have h39p : (startE t r y) = 0 := dtr h39
        have h40 : ((decide ((tapsR t r y).low = (tapsV (openV t r y) (openV t r y).worst)) && decide ((tapsR t r y).high = (tapsV (openV t r y) (openV t r y).best)))) = true := by simp_all [girthR, tapsR]
        refine aw_d [(2, .dec true), (7, .call [1, 2] (.agg [.i (tapsV (openV t r y) (openV t r y).worst), .i (tapsV (openV t r y) (openV t r y).best)]) []), (8, .dec true), (11, .call [] (.b true) [])]
         ⟨157, [1, 2], [(6, .b true)], []⟩
         [decide ((startE t r y) = 0) = true, CallOK Try.prog 27 [.agg [.i t.year, .i t.glo, .i t.ghi, .i t.wlo, .i t.whi, .i t.health, .ls 1], .agg [.i r.slo, .i r.shi, .i r.ulo, .i r.uhi, .i r.hlo, .i r.hhi, .i r.apart, .i r.blo, .i r.bhi, .ls 2, .i r.n0, .i r.n1, .i r.n2, .i r.n3, .i r.n4, .i r.opn], .i y] [1, 2] [some (tells_frK1 t), some (tells_frK2 r)] (.agg [.i (tapsV (openV t r y) (openV t r y).worst), .i (tapsV (openV t r y) (openV t r y).best)]) [], BinRun Try.prog .eql 23 (.tmp 147) (.tmp 151) (.agg #[.int .i64 ((tapsR t r y).low), .int .i64 ((tapsR t r y).high)]) (.agg #[.int .i64 (tapsV (openV t r y) (openV t r y).worst), .int .i64 (tapsV (openV t r y) (openV t r y).best)]) (.bool true), CallOK Try.prog 14 [] [] [] (.b true) []] (by kernel_rfl) (by kernel_rfl) (al2 h39 (al2 (CallFr.to (refTaps_fr t r y (by first | omega | (simp; done) | assumption) (by first | omega | (simp; done) | assumption) (by assumption)) [(1, 1), (2, 2)] (by kernel_rfl) (by kernel_rfl) (by kernel_rfl) (by kernel_rfl) (by kernel_rfl) (dem_cons rfl (le_ro rfl el_rfl) (dem_cons rfl (le_ro rfl el_rfl) dem_nil))) (al2 (bin_eq_G ((tapsR t r y).low) ((tapsR t r y).high) (tapsV (openV t r y) (openV t r y).worst) (tapsV (openV t r y) (openV t r y).best) h40) (al1 (CallFr.to (known_fr ) [] (by kernel_rfl) (by kernel_rfl) (by kernel_rfl) (by kernel_rfl) (by kernel_rfl) dem_nil))))) ?_
        exact aw_ret ⟨.inr rfl, end_ok ⟨157, [1, 2], [(6, .b true)], []⟩
            (Ent.ren [] rfl rfl (by kernel_rfl) ⟨rfl, trivial⟩ trivial (by kernel_rfl)) rfl (by kernel_rfl) wr_nil (by kernel_rfl)⟩
       ·
        have h39p : (startE t r y) ≠ 0 := deq h39
        refine aw_d [(2, .dec false)]
         ⟨157, [1, 2], [(6, .b false)], []⟩
         [decide ((startE t r y) = 0) = false] (by kernel_rfl) (by kernel_rfl) (al1 h39) ?_
        exact aw_ret ⟨.inr rfl, end_ok ⟨157, [1, 2], [(6, .b true)], []⟩
            (Ent.ren [] rfl rfl (by kernel_rfl) ⟨(slot_b (a := false) rfl (by first | rfl | omega | assumption)), trivial⟩ trivial (by kernel_rfl)) rfl (by kernel_rfl) wr_nil (by kernel_rfl)⟩
  ·
   have h5p : (treeE t) = 0 := dne h5
   rcases Bool.eq_false_or_eq_true (decide ((ruleE r) ≠ 0)) with h41 | h41
   ·
    have h41p : (ruleE r) ≠ 0 := dtr h41
    refine aw_r [(2, .call [10230, 1] (.b true) []), (13, .dec false), (17, .call [1] (.b (treeB t)) []), (18, .dec false), (24, .call [2] (.b (ruleB r)) []), (25, .dec false), (30, .dec false), (38, .dec true)]
     ⟨157, [1, 2], [(2, .i y), (3, .l (.ref 1003 0)), (4, .l (.ref 1004 0)), (8, .l (.ref 1008 0)), (11, .l (.ref 1011 0)), (12, .i (girthE t y)), (13, .l (.ref 1013 0)), (14, .i (startE t r y)), (85, .b (decide ((ruleE r) ≠ 2)))], [(1, some (tells_frK1 t)), (2, some (tells_frK2 r)), (1003, some (tells_frK3 t)), (1004, some (tells_frK4 r)), (1008, some (tells_frK8 r)), (1011, some (tells_frK9 t y)), (1013, some (tells_frK10 t r y)), (10250, some (tells_frK6 r))]⟩
     [CallOK Try.prog 21 [.agg [.i t.year, .i t.glo, .i t.ghi, .i t.wlo, .i t.whi, .i t.health, .ls 10230], .agg [.i t.year, .i t.glo, .i t.ghi, .i t.wlo, .i t.whi, .i t.health, .ls 1]] [10230, 1] [some (tells_frK5 t), some (tells_frK1 t)] (.b true) [], decide ((((r.sizes).length : Nat) : Int) ≠ ((r.sizes.length : Nat) : Int)) = false, CallOK Try.prog 22 [.agg [.i t.year, .i t.glo, .i t.ghi, .i t.wlo, .i t.whi, .i t.health, .ls 1]] [1] [some (tells_frK1 t)] (.b (treeB t)) [], BinRun Try.prog .neq 4 (.tmp 58) (.tmp 60) (.bool (decide ((treeE t) = 0))) (.bool (treeB t)) (.bool false), CallOK Try.prog 23 [.agg [.i r.slo, .i r.shi, .i r.ulo, .i r.uhi, .i r.hlo, .i r.hhi, .i r.apart, .i r.blo, .i r.bhi, .ls 2, .i r.n0, .i r.n1, .i r.n2, .i r.n3, .i r.n4, .i r.opn]] [2] [some (tells_frK2 r)] (.b (ruleB r)) [], BinRun Try.prog .neq 4 (.tmp 65) (.tmp 67) (.bool (decide ((ruleE r) = 0))) (.bool (ruleB r)) (.bool false), decide ((treeE t) ≠ 0) = false, decide ((ruleE r) ≠ 0) = true] (by kernel_rfl) (al2 (CallFr.to (holesS_fr t (by first | omega | (simp; done) | assumption)) [(1, 10230), (2, 1)] (by kernel_rfl) (by kernel_rfl) (by kernel_rfl) (by kernel_rfl) (by kernel_rfl) (dem_cons rfl (le_vec_ro rfl el_rfl) (dem_cons rfl (le_ro rfl el_rfl) dem_nil))) (al2 h2 (al2 (CallFr.to (refTree_fr t (by first | omega | (simp; done) | assumption)) [(1, 1)] (by kernel_rfl) (by kernel_rfl) (by kernel_rfl) (by kernel_rfl) (by kernel_rfl) (dem_cons rfl (le_ro rfl el_rfl) dem_nil)) (al2 (bin_neq_bool (decide ((treeE t) = 0)) (treeB t) (h3)) (al2 (CallFr.to (refRules_fr r (by first | omega | (simp; done) | assumption)) [(2, 2)] (by kernel_rfl) (by kernel_rfl) (by kernel_rfl) (by kernel_rfl) (by kernel_rfl) (dem_cons rfl (le_ro rfl el_rfl) dem_nil)) (al2 (bin_neq_bool (decide ((ruleE r) = 0)) (ruleB r) (h4)) (al2 h5 (al1 h41)))))))) ?_
    have h42 : (decide ((ruleE r) ≠ 2)) = false := by first | exact treeE_2 (by assumption) | exact ruleE_2 (by assumption)
    refine aw_cond (b := decide ((ruleE r) ≠ 2)) rfl (fun h => Bool.noConfusion (h42.symm.trans h)) (fun _ => ?_)
    refine aw_skip ?_
    refine aw_seq ?_
    refine aw_seq ?_
    refine aw_r []
     ⟨157, [1, 2], [(2, .i y), (3, .l (.ref 1003 0)), (4, .l (.ref 1004 0)), (8, .l (.ref 1008 0)), (11, .l (.ref 1011 0)), (12, .i (girthE t y)), (13, .l (.ref 1013 0)), (14, .i (startE t r y)), (15, .i 0)], [(1, some (tells_frK1 t)), (2, some (tells_frK2 r)), (1003, some (tells_frK3 t)), (1004, some (tells_frK4 r)), (1008, some (tells_frK8 r)), (1011, some (tells_frK9 t y)), (1013, some (tells_frK10 t r y)), (10250, some (tells_frK6 r))]⟩
     [] (by kernel_rfl) trivial ?_
    refine aw_block ?_
    refine aw_loop (ι := Nat) (fun zz => ⟨157, [1, 2], [(2, .i y), (3, .l (.ref 1003 0)), (4, .l (.ref 1004 0)), (8, .l (.ref 1008 0)), (11, .l (.ref 1011 0)), (12, .i (girthE t y)), (13, .l (.ref 1013 0)), (14, .i (startE t r y)), (15, .i ((zz : Nat) : Int))], [(1, some (tells_frK1 t)), (2, some (tells_frK2 r)), (1003, some (tells_frK3 t)), (1004, some (tells_frK4 r)), (1008, some (tells_frK8 r)), (1011, some (tells_frK9 t y)), (1013, some (tells_frK10 t r y)), (10250, some (tells_frK6 r))]⟩) (fun zz => (zz ≤ r.sizes.length)) (fun zz => r.sizes.length - zz) 0 (by first | omega | rfl | assumption | (simp; done))
        (Ent.ren [] rfl rfl (by kernel_rfl) ⟨rfl, rfl, rfl, rfl, rfl, rfl, rfl, rfl, rfl, trivial⟩ (cro rfl (cro rfl (cbl rfl rfl (cbl rfl rfl (cbl rfl rfl (cbl rfl rfl (cbl rfl rfl (cve rfl trivial)))))))) (by kernel_rfl)) fun zz hp => ?_
    obtain ⟨i, rfl⟩ : ∃ x, x = zz := ⟨_, rfl⟩
    have hiL := hp
    show AW _ E _ _ ⟨157, [1, 2], [(2, .i y), (3, .l (.ref 1003 0)), (4, .l (.ref 1004 0)), (8, .l (.ref 1008 0)), (11, .l (.ref 1011 0)), (12, .i (girthE t y)), (13, .l (.ref 1013 0)), (14, .i (startE t r y)), (15, .i ((i : Nat) : Int))], [(1, some (tells_frK1 t)), (2, some (tells_frK2 r)), (1003, some (tells_frK3 t)), (1004, some (tells_frK4 r)), (1008, some (tells_frK8 r)), (1011, some (tells_frK9 t y)), (1013, some (tells_frK10 t r y)), (10250, some (tells_frK6 r))]⟩
    refine aw_seq ?_
    refine aw_seq ?_
    refine aw_r []
     ⟨157, [1, 2], [(2, .i y), (3, .l (.ref 1003 0)), (4, .l (.ref 1004 0)), (8, .l (.ref 1008 0)), (11, .l (.ref 1011 0)), (12, .i (girthE t y)), (13, .l (.ref 1013 0)), (14, .i (startE t r y)), (15, .i ((i : Nat) : Int)), (90, .b (decide (((i : Nat) : Int) < ((r.sizes.length : Nat) : Int))))], [(1, some (tells_frK1 t)), (2, some (tells_frK2 r)), (1003, some (tells_frK3 t)), (1004, some (tells_frK4 r)), (1008, some (tells_frK8 r)), (1011, some (tells_frK9 t y)), (1013, some (tells_frK10 t r y)), (10250, some (tells_frK6 r))]⟩
     [] (by kernel_rfl) trivial ?_
    refine aw_cond (b := decide (((i : Nat) : Int) < ((r.sizes.length : Nat) : Int))) rfl (fun h43 => ?_) (fun h43 => ?_)
    ·
     have h43p : ((i : Nat) : Int) < ((r.sizes.length : Nat) : Int) := dtr h43
     refine aw_skip ?_
     refine aw_seq ?_
     refine aw_block ?_
     refine aw_seq ?_
     have h44 : (decide ((ix r.sizes i).girth ≠ (ix r.sizes i).girth) || decide ((ix r.sizes i).taps ≠ (ix r.sizes i).taps)) = false := by simp
     refine aw_d [(3, .idx i), (8, .idx i), (10, .dec false)]
      ⟨157, [1, 2], [(2, .i y), (3, .l (.ref 1003 0)), (4, .l (.ref 1004 0)), (8, .l (.ref 1008 0)), (11, .l (.ref 1011 0)), (12, .i (girthE t y)), (13, .l (.ref 1013 0)), (14, .i (startE t r y)), (15, .i ((i : Nat) : Int)), (103, .b false)], [(1, some (tells_frK1 t)), (2, some (tells_frK2 r)), (1003, some (tells_frK3 t)), (1004, some (tells_frK4 r)), (1008, some (tells_frK8 r)), (1011, some (tells_frK9 t y)), (1013, some (tells_frK10 t r y)), (10250, some (tells_frK6 r))]⟩
      [((i : Nat) : Int) = ((i : Nat) : Int), i < (r.sizes).length, i < (r.sizes).length, ((i : Nat) : Int) = ((i : Nat) : Int), i < r.sizes.length, i < r.sizes.length, BinRun Try.prog .neq 45 (.tmp 97) (.tmp 102) (.agg #[.int .i64 ((ix r.sizes i).girth), .int .i64 ((ix r.sizes i).taps)]) (.agg #[.int .i64 ((ix r.sizes i).girth), .int .i64 ((ix r.sizes i).taps)]) (.bool false)] (by kernel_rfl) (by kernel_rfl) (al2 (by omega) (al2 (by omega) (al2 (by omega) (al2 (by omega) (al2 (by omega) (al2 (by omega) (al1 (bin_neq_Z ((ix r.sizes i).girth) ((ix r.sizes i).taps) ((ix r.sizes i).girth) ((ix r.sizes i).taps) h44)))))))) ?_
     refine aw_false rfl ?_
     refine aw_skip ?_
     refine aw_r [(1, .num (((i + 1) : Nat) : Int))]
      ⟨157, [1, 2], [(2, .i y), (3, .l (.ref 1003 0)), (4, .l (.ref 1004 0)), (8, .l (.ref 1008 0)), (11, .l (.ref 1011 0)), (12, .i (girthE t y)), (13, .l (.ref 1013 0)), (14, .i (startE t r y)), (15, .i (((i + 1) : Nat) : Int))], [(1, some (tells_frK1 t)), (2, some (tells_frK2 r)), (1003, some (tells_frK3 t)), (1004, some (tells_frK4 r)), (1008, some (tells_frK8 r)), (1011, some (tells_frK9 t y)), (1013, some (tells_frK10 t r y)), (10250, some (tells_frK6 r))]⟩
      [(((i : Nat) : Int) + 1) = (((i + 1) : Nat) : Int), -9223372036854775808 ≤ (((i + 1) : Nat) : Int) ∧ (((i + 1) : Nat) : Int) < 9223372036854775808] (by kernel_rfl) (al2 (by omega) (al1 (by omega))) ?_
     exact ⟨(i + 1), (by first | omega | rfl | assumption | (simp; done)), (show r.sizes.length - (i + 1) < r.sizes.length - i by first | omega | rfl | assumption),
         (Ent.ren [] rfl rfl (by kernel_rfl) ⟨rfl, rfl, rfl, rfl, rfl, rfl, rfl, rfl, rfl, trivial⟩ (cro rfl (cro rfl (cbl rfl rfl (cbl rfl rfl (cbl rfl rfl (cbl rfl rfl (cbl rfl rfl (cve rfl trivial)))))))) (by kernel_rfl))⟩
    ·
     have h43p : ((r.sizes.length : Nat) : Int) ≤ ((i : Nat) : Int) := dlt h43
     refine aw_exit (exit_then (exit_then (exit_in ?_)))
     refine aw_seq ?_
     refine aw_seq ?_
     refine aw_d [(1, .call [] (.agg [.i exRule.slo, .i exRule.shi, .i exRule.ulo, .i exRule.uhi, .i exRule.hlo, .i exRule.hhi, .i exRule.apart, .i exRule.blo, .i exRule.bhi, .ls 11050, .i exRule.n0, .i exRule.n1, .i exRule.n2, .i exRule.n3, .i exRule.n4, .i exRule.opn]) [(11050, some tells_frK11)]), (3, .call [1, 11050] (.i (startE t exRule y)) [])]
      ⟨157, [1, 2], [(2, .i y), (3, .l (.ref 1003 0)), (4, .l (.ref 1004 0)), (11, .l (.ref 1011 0)), (12, .i (girthE t y)), (13, .l (.ref 1013 0)), (14, .i (startE t r y)), (16, .i (startE t exRule y))], [(1, some (tells_frK1 t)), (2, some (tells_frK2 r)), (1003, some (tells_frK3 t)), (1004, some (tells_frK4 r)), (1011, some (tells_frK9 t y)), (1013, some (tells_frK10 t r y))]⟩
      [CallOK Try.prog 25 [] [] [] (.agg [.i exRule.slo, .i exRule.shi, .i exRule.ulo, .i exRule.uhi, .i exRule.hlo, .i exRule.hhi, .i exRule.apart, .i exRule.blo, .i exRule.bhi, .ls 11050, .i exRule.n0, .i exRule.n1, .i exRule.n2, .i exRule.n3, .i exRule.n4, .i exRule.opn]) [(11050, some tells_frK11)], CallOK Try.prog 24 [.agg [.i t.year, .i t.glo, .i t.ghi, .i t.wlo, .i t.whi, .i t.health, .ls 1], .agg [.i exRule.slo, .i exRule.shi, .i exRule.ulo, .i exRule.uhi, .i exRule.hlo, .i exRule.hhi, .i exRule.apart, .i exRule.blo, .i exRule.bhi, .ls 11050, .i exRule.n0, .i exRule.n1, .i exRule.n2, .i exRule.n3, .i exRule.n4, .i exRule.opn], .i y] [1, 11050] [some (tells_frK1 t), some tells_frK11] (.i (startE t exRule y)) []] (by kernel_rfl) (by kernel_rfl) (al2 (CallFr.to (rules_fr ) [(1, 11050)] (by kernel_rfl) (by kernel_rfl) (by kernel_rfl) (by kernel_rfl) (by kernel_rfl) dem_nil) (al1 (CallFr.to (refStart_fr t exRule y (by first | omega | (simp; done) | assumption) (by first | omega | (simp; done) | assumption)) [(1, 1), (2, 11050)] (by kernel_rfl) (by kernel_rfl) (by kernel_rfl) (by kernel_rfl) (by kernel_rfl) (dem_cons rfl (le_ro rfl el_rfl) (dem_cons rfl (le_vec_ro rfl el_rfl) dem_nil))))) ?_
     refine aw_seq ?_
     refine aw_ent (T := ⟨157, [1, 2], [(2, .i y), (3, .l (.ref 1003 0)), (4, .l (.ref 1004 0)), (11, .l (.ref 1011 0)), (12, .i (girthE t y)), (13, .l (.ref 1013 0)), (14, .i (startE t r y)), (16, .i (girthE t y))], [(1, some (tells_frK1 t)), (2, some (tells_frK2 r)), (1003, some (tells_frK3 t)), (1004, some (tells_frK4 r)), (1011, some (tells_frK9 t y)), (1013, some (tells_frK10 t r y))]⟩)
         (Ent.ren [] rfl rfl (by kernel_rfl) ⟨rfl, rfl, rfl, rfl, rfl, rfl, rfl, (slot_i rfl (by first | rfl | omega | assumption | (exact st_ex))), trivial⟩ (cro rfl (cro rfl (cbl rfl rfl (cbl rfl rfl (cbl rfl rfl (cbl rfl rfl trivial)))))) (by kernel_rfl)) ?_
     refine aw_r []
      ⟨157, [1, 2], [(2, .i y), (3, .l (.ref 1003 0)), (4, .l (.ref 1004 0)), (11, .l (.ref 1011 0)), (12, .i (girthE t y)), (13, .l (.ref 1013 0)), (14, .i (startE t r y)), (16, .i (girthE t y)), (109, .b (decide ((girthE t y) ≠ 0)))], [(1, some (tells_frK1 t)), (2, some (tells_frK2 r)), (1003, some (tells_frK3 t)), (1004, some (tells_frK4 r)), (1011, some (tells_frK9 t y)), (1013, some (tells_frK10 t r y))]⟩
      [] (by kernel_rfl) trivial ?_
     refine aw_cond (b := decide ((girthE t y) ≠ 0)) rfl (fun h45 => ?_) (fun h45 => ?_)
     ·
      have h45p : (girthE t y) ≠ 0 := dtr h45
      refine aw_seq ?_
      have h46 : (decide ((girthE t y) ≠ (girthE t y))) = false := by simp
      have h47 : ((decide ((girthR t y).low ≠ 0) || decide ((girthR t y).high ≠ 0))) = false := by simp_all [girthR, tapsR]
      refine aw_r [(3, .dec false), (6, .dec false)]
       ⟨157, [1, 2], [(2, .i y), (3, .l (.ref 1003 0)), (4, .l (.ref 1004 0)), (13, .l (.ref 1013 0)), (14, .i (startE t r y)), (117, .b false)], [(1, some (tells_frK1 t)), (2, some (tells_frK2 r)), (1003, some (tells_frK3 t)), (1004, some (tells_frK4 r)), (1013, some (tells_frK10 t r y))]⟩
       [decide ((girthE t y) ≠ (girthE t y)) = false, BinRun Try.prog .neq 23 (.tmp 114) (.tmp 115) (.agg #[.int .i64 ((girthR t y).low), .int .i64 ((girthR t y).high)]) (.agg #[.int .i64 0, .int .i64 0]) (.bool false)] (by kernel_rfl) (al2 h46 (al1 (bin_neq_G ((girthR t y).low) ((girthR t y).high) 0 0 h47))) ?_
      refine aw_false rfl ?_
      refine aw_skip ?_
      refine aw_seq ?_
      refine aw_seq ?_
      refine aw_r [(3, .call [1, 2] (.i (startE t r y)) [])]
       ⟨157, [1, 2], [(2, .i y), (3, .l (.ref 1003 0)), (4, .l (.ref 1004 0)), (13, .l (.ref 1013 0)), (14, .i (startE t r y)), (17, .i (startE t r y))], [(1, some (tells_frK1 t)), (2, some (tells_frK2 r)), (1003, some (tells_frK3 t)), (1004, some (tells_frK4 r)), (1013, some (tells_frK10 t r y))]⟩
       [CallOK Try.prog 24 [.agg [.i t.year, .i t.glo, .i t.ghi, .i t.wlo, .i t.whi, .i t.health, .ls 1], .agg [.i r.slo, .i r.shi, .i r.ulo, .i r.uhi, .i r.hlo, .i r.hhi, .i r.apart, .i r.blo, .i r.bhi, .ls 2, .i r.n0, .i r.n1, .i r.n2, .i r.n3, .i r.n4, .i r.opn], .i y] [1, 2] [some (tells_frK1 t), some (tells_frK2 r)] (.i (startE t r y)) []] (by kernel_rfl) (al1 (CallFr.to (refStart_fr t r y (by first | omega | (simp; done) | assumption) (by first | omega | (simp; done) | assumption)) [(1, 1), (2, 2)] (by kernel_rfl) (by kernel_rfl) (by kernel_rfl) (by kernel_rfl) (by kernel_rfl) (dem_cons rfl (le_ro rfl el_rfl) (dem_cons rfl (le_ro rfl el_rfl) dem_nil)))) ?_
      refine aw_seq ?_
      refine aw_r []
       ⟨157, [1, 2], [(2, .i y), (3, .l (.ref 1003 0)), (4, .l (.ref 1004 0)), (13, .l (.ref 1013 0)), (14, .i (startE t r y)), (17, .i (startE t r y)), (132, .b (decide ((startE t r y) ≠ 0)))], [(1, some (tells_frK1 t)), (2, some (tells_frK2 r)), (1003, some (tells_frK3 t)), (1004, some (tells_frK4 r)), (1013, some (tells_frK10 t r y))]⟩
       [] (by kernel_rfl) trivial ?_
      refine aw_cond (b := decide ((startE t r y) ≠ 0)) rfl (fun h48 => ?_) (fun h48 => ?_)
      ·
       have h48p : (startE t r y) ≠ 0 := dtr h48
       refine aw_seq ?_
       have h49 : (decide ((startE t r y) = (startE t r y))) = true := by simp
       have h50 : ((decide ((tapsR t r y).low = 0) && decide ((tapsR t r y).high = 0))) = true := by simp_all [girthR, tapsR]
       refine aw_r [(3, .dec true), (6, .dec true), (9, .call [] (.b true) [])]
        ⟨157, [1, 2], [(6, .b true)], []⟩
        [decide ((startE t r y) = (startE t r y)) = true, BinRun Try.prog .eql 23 (.tmp 137) (.tmp 138) (.agg #[.int .i64 ((tapsR t r y).low), .int .i64 ((tapsR t r y).high)]) (.agg #[.int .i64 0, .int .i64 0]) (.bool true), CallOK Try.prog 14 [] [] [] (.b true) []] (by kernel_rfl) (al2 h49 (al2 (bin_eq_G ((tapsR t r y).low) ((tapsR t r y).high) 0 0 h50) (al1 (CallFr.to (known_fr ) [] (by kernel_rfl) (by kernel_rfl) (by kernel_rfl) (by kernel_rfl) (by kernel_rfl) dem_nil)))) ?_
       exact aw_ret (ret_then ⟨.inr rfl, end_ok ⟨157, [1, 2], [(6, .b true)], []⟩
           (Ent.ren [] rfl rfl (by kernel_rfl) ⟨rfl, trivial⟩ trivial (by kernel_rfl)) rfl (by kernel_rfl) wr_nil (by kernel_rfl)⟩)
      ·
       have h48p : (startE t r y) = 0 := dne h48
       refine aw_skip ?_
       refine aw_seq ?_
       rcases Bool.eq_false_or_eq_true (decide ((startE t r y) = 0)) with h51 | h51
       ·
        have h51p : (startE t r y) = 0 := dtr h51
        have h52 : ((decide ((tapsR t r y).low = (tapsV (openV t r y) (openV t r y).worst)) && decide ((tapsR t r y).high = (tapsV (openV t r y) (openV t r y).best)))) = true := by simp_all [girthR, tapsR]
        refine aw_d [(2, .dec true), (7, .call [1, 2] (.agg [.i (tapsV (openV t r y) (openV t r y).worst), .i (tapsV (openV t r y) (openV t r y).best)]) []), (8, .dec true), (11, .call [] (.b true) [])]
         ⟨157, [1, 2], [(6, .b true)], []⟩
         [decide ((startE t r y) = 0) = true, CallOK Try.prog 27 [.agg [.i t.year, .i t.glo, .i t.ghi, .i t.wlo, .i t.whi, .i t.health, .ls 1], .agg [.i r.slo, .i r.shi, .i r.ulo, .i r.uhi, .i r.hlo, .i r.hhi, .i r.apart, .i r.blo, .i r.bhi, .ls 2, .i r.n0, .i r.n1, .i r.n2, .i r.n3, .i r.n4, .i r.opn], .i y] [1, 2] [some (tells_frK1 t), some (tells_frK2 r)] (.agg [.i (tapsV (openV t r y) (openV t r y).worst), .i (tapsV (openV t r y) (openV t r y).best)]) [], BinRun Try.prog .eql 23 (.tmp 147) (.tmp 151) (.agg #[.int .i64 ((tapsR t r y).low), .int .i64 ((tapsR t r y).high)]) (.agg #[.int .i64 (tapsV (openV t r y) (openV t r y).worst), .int .i64 (tapsV (openV t r y) (openV t r y).best)]) (.bool true), CallOK Try.prog 14 [] [] [] (.b true) []] (by kernel_rfl) (by kernel_rfl) (al2 h51 (al2 (CallFr.to (refTaps_fr t r y (by first | omega | (simp; done) | assumption) (by first | omega | (simp; done) | assumption) (by assumption)) [(1, 1), (2, 2)] (by kernel_rfl) (by kernel_rfl) (by kernel_rfl) (by kernel_rfl) (by kernel_rfl) (dem_cons rfl (le_ro rfl el_rfl) (dem_cons rfl (le_ro rfl el_rfl) dem_nil))) (al2 (bin_eq_G ((tapsR t r y).low) ((tapsR t r y).high) (tapsV (openV t r y) (openV t r y).worst) (tapsV (openV t r y) (openV t r y).best) h52) (al1 (CallFr.to (known_fr ) [] (by kernel_rfl) (by kernel_rfl) (by kernel_rfl) (by kernel_rfl) (by kernel_rfl) dem_nil))))) ?_
        exact aw_ret ⟨.inr rfl, end_ok ⟨157, [1, 2], [(6, .b true)], []⟩
            (Ent.ren [] rfl rfl (by kernel_rfl) ⟨rfl, trivial⟩ trivial (by kernel_rfl)) rfl (by kernel_rfl) wr_nil (by kernel_rfl)⟩
       ·
        have h51p : (startE t r y) ≠ 0 := deq h51
        refine aw_d [(2, .dec false)]
         ⟨157, [1, 2], [(6, .b false)], []⟩
         [decide ((startE t r y) = 0) = false] (by kernel_rfl) (by kernel_rfl) (al1 h51) ?_
        exact aw_ret ⟨.inr rfl, end_ok ⟨157, [1, 2], [(6, .b true)], []⟩
            (Ent.ren [] rfl rfl (by kernel_rfl) ⟨(slot_b (a := false) rfl (by first | rfl | omega | assumption)), trivial⟩ trivial (by kernel_rfl)) rfl (by kernel_rfl) wr_nil (by kernel_rfl)⟩
     ·
      have h45p : (girthE t y) = 0 := dne h45
      refine aw_seq ?_
      have hgo := girthE_0.1 (by assumption)
      have hgt := hgo.1
      have hgy := hgo.2
      have h53 : ((decide ((girthR t y).low ≠ (girthV t y).low) || decide ((girthR t y).high ≠ (girthV t y).high))) = false := by simp_all [girthR, tapsR]
      refine aw_d [(2, .dec false), (6, .call [1] (.agg [.i ((girthV t y).low), .i ((girthV t y).high)]) []), (7, .dec false)]
       ⟨157, [1, 2], [(2, .i y), (3, .l (.ref 1003 0)), (4, .l (.ref 1004 0)), (13, .l (.ref 1013 0)), (14, .i (startE t r y)), (126, .b false)], [(1, some (tells_frK1 t)), (2, some (tells_frK2 r)), (1003, some (tells_frK3 t)), (1004, some (tells_frK4 r)), (1013, some (tells_frK10 t r y))]⟩
       [decide ((girthE t y) ≠ 0) = false, CallOK Try.prog 26 [.agg [.i t.year, .i t.glo, .i t.ghi, .i t.wlo, .i t.whi, .i t.health, .ls 1], .i y] [1] [some (tells_frK1 t)] (.agg [.i ((girthV t y).low), .i ((girthV t y).high)]) [], BinRun Try.prog .neq 23 (.tmp 121) (.tmp 124) (.agg #[.int .i64 ((girthR t y).low), .int .i64 ((girthR t y).high)]) (.agg #[.int .i64 ((girthV t y).low), .int .i64 ((girthV t y).high)]) (.bool false)] (by kernel_rfl) (by kernel_rfl) (al2 h45 (al2 (CallFr.to (refGirth_fr t y (by assumption) (by assumption)) [(1, 1)] (by kernel_rfl) (by kernel_rfl) (by kernel_rfl) (by kernel_rfl) (by kernel_rfl) (dem_cons rfl (le_ro rfl el_rfl) dem_nil)) (al1 (bin_neq_G ((girthR t y).low) ((girthR t y).high) ((girthV t y).low) ((girthV t y).high) h53)))) ?_
      refine aw_false rfl ?_
      refine aw_skip ?_
      refine aw_seq ?_
      refine aw_seq ?_
      refine aw_r [(3, .call [1, 2] (.i (startE t r y)) [])]
       ⟨157, [1, 2], [(2, .i y), (3, .l (.ref 1003 0)), (4, .l (.ref 1004 0)), (13, .l (.ref 1013 0)), (14, .i (startE t r y)), (17, .i (startE t r y))], [(1, some (tells_frK1 t)), (2, some (tells_frK2 r)), (1003, some (tells_frK3 t)), (1004, some (tells_frK4 r)), (1013, some (tells_frK10 t r y))]⟩
       [CallOK Try.prog 24 [.agg [.i t.year, .i t.glo, .i t.ghi, .i t.wlo, .i t.whi, .i t.health, .ls 1], .agg [.i r.slo, .i r.shi, .i r.ulo, .i r.uhi, .i r.hlo, .i r.hhi, .i r.apart, .i r.blo, .i r.bhi, .ls 2, .i r.n0, .i r.n1, .i r.n2, .i r.n3, .i r.n4, .i r.opn], .i y] [1, 2] [some (tells_frK1 t), some (tells_frK2 r)] (.i (startE t r y)) []] (by kernel_rfl) (al1 (CallFr.to (refStart_fr t r y (by first | omega | (simp; done) | assumption) (by first | omega | (simp; done) | assumption)) [(1, 1), (2, 2)] (by kernel_rfl) (by kernel_rfl) (by kernel_rfl) (by kernel_rfl) (by kernel_rfl) (dem_cons rfl (le_ro rfl el_rfl) (dem_cons rfl (le_ro rfl el_rfl) dem_nil)))) ?_
      refine aw_seq ?_
      refine aw_r []
       ⟨157, [1, 2], [(2, .i y), (3, .l (.ref 1003 0)), (4, .l (.ref 1004 0)), (13, .l (.ref 1013 0)), (14, .i (startE t r y)), (17, .i (startE t r y)), (132, .b (decide ((startE t r y) ≠ 0)))], [(1, some (tells_frK1 t)), (2, some (tells_frK2 r)), (1003, some (tells_frK3 t)), (1004, some (tells_frK4 r)), (1013, some (tells_frK10 t r y))]⟩
       [] (by kernel_rfl) trivial ?_
      refine aw_cond (b := decide ((startE t r y) ≠ 0)) rfl (fun h54 => ?_) (fun h54 => ?_)
      ·
       have h54p : (startE t r y) ≠ 0 := dtr h54
       refine aw_seq ?_
       have h55 : (decide ((startE t r y) = (startE t r y))) = true := by simp
       have h56 : ((decide ((tapsR t r y).low = 0) && decide ((tapsR t r y).high = 0))) = true := by simp_all [girthR, tapsR]
       refine aw_r [(3, .dec true), (6, .dec true), (9, .call [] (.b true) [])]
        ⟨157, [1, 2], [(6, .b true)], []⟩
        [decide ((startE t r y) = (startE t r y)) = true, BinRun Try.prog .eql 23 (.tmp 137) (.tmp 138) (.agg #[.int .i64 ((tapsR t r y).low), .int .i64 ((tapsR t r y).high)]) (.agg #[.int .i64 0, .int .i64 0]) (.bool true), CallOK Try.prog 14 [] [] [] (.b true) []] (by kernel_rfl) (al2 h55 (al2 (bin_eq_G ((tapsR t r y).low) ((tapsR t r y).high) 0 0 h56) (al1 (CallFr.to (known_fr ) [] (by kernel_rfl) (by kernel_rfl) (by kernel_rfl) (by kernel_rfl) (by kernel_rfl) dem_nil)))) ?_
       exact aw_ret (ret_then ⟨.inr rfl, end_ok ⟨157, [1, 2], [(6, .b true)], []⟩
           (Ent.ren [] rfl rfl (by kernel_rfl) ⟨rfl, trivial⟩ trivial (by kernel_rfl)) rfl (by kernel_rfl) wr_nil (by kernel_rfl)⟩)
      ·
       have h54p : (startE t r y) = 0 := dne h54
       refine aw_skip ?_
       refine aw_seq ?_
       rcases Bool.eq_false_or_eq_true (decide ((startE t r y) = 0)) with h57 | h57
       ·
        have h57p : (startE t r y) = 0 := dtr h57
        have h58 : ((decide ((tapsR t r y).low = (tapsV (openV t r y) (openV t r y).worst)) && decide ((tapsR t r y).high = (tapsV (openV t r y) (openV t r y).best)))) = true := by simp_all [girthR, tapsR]
        refine aw_d [(2, .dec true), (7, .call [1, 2] (.agg [.i (tapsV (openV t r y) (openV t r y).worst), .i (tapsV (openV t r y) (openV t r y).best)]) []), (8, .dec true), (11, .call [] (.b true) [])]
         ⟨157, [1, 2], [(6, .b true)], []⟩
         [decide ((startE t r y) = 0) = true, CallOK Try.prog 27 [.agg [.i t.year, .i t.glo, .i t.ghi, .i t.wlo, .i t.whi, .i t.health, .ls 1], .agg [.i r.slo, .i r.shi, .i r.ulo, .i r.uhi, .i r.hlo, .i r.hhi, .i r.apart, .i r.blo, .i r.bhi, .ls 2, .i r.n0, .i r.n1, .i r.n2, .i r.n3, .i r.n4, .i r.opn], .i y] [1, 2] [some (tells_frK1 t), some (tells_frK2 r)] (.agg [.i (tapsV (openV t r y) (openV t r y).worst), .i (tapsV (openV t r y) (openV t r y).best)]) [], BinRun Try.prog .eql 23 (.tmp 147) (.tmp 151) (.agg #[.int .i64 ((tapsR t r y).low), .int .i64 ((tapsR t r y).high)]) (.agg #[.int .i64 (tapsV (openV t r y) (openV t r y).worst), .int .i64 (tapsV (openV t r y) (openV t r y).best)]) (.bool true), CallOK Try.prog 14 [] [] [] (.b true) []] (by kernel_rfl) (by kernel_rfl) (al2 h57 (al2 (CallFr.to (refTaps_fr t r y (by first | omega | (simp; done) | assumption) (by first | omega | (simp; done) | assumption) (by assumption)) [(1, 1), (2, 2)] (by kernel_rfl) (by kernel_rfl) (by kernel_rfl) (by kernel_rfl) (by kernel_rfl) (dem_cons rfl (le_ro rfl el_rfl) (dem_cons rfl (le_ro rfl el_rfl) dem_nil))) (al2 (bin_eq_G ((tapsR t r y).low) ((tapsR t r y).high) (tapsV (openV t r y) (openV t r y).worst) (tapsV (openV t r y) (openV t r y).best) h58) (al1 (CallFr.to (known_fr ) [] (by kernel_rfl) (by kernel_rfl) (by kernel_rfl) (by kernel_rfl) (by kernel_rfl) dem_nil))))) ?_
        exact aw_ret ⟨.inr rfl, end_ok ⟨157, [1, 2], [(6, .b true)], []⟩
            (Ent.ren [] rfl rfl (by kernel_rfl) ⟨rfl, trivial⟩ trivial (by kernel_rfl)) rfl (by kernel_rfl) wr_nil (by kernel_rfl)⟩
       ·
        have h57p : (startE t r y) ≠ 0 := deq h57
        refine aw_d [(2, .dec false)]
         ⟨157, [1, 2], [(6, .b false)], []⟩
         [decide ((startE t r y) = 0) = false] (by kernel_rfl) (by kernel_rfl) (al1 h57) ?_
        exact aw_ret ⟨.inr rfl, end_ok ⟨157, [1, 2], [(6, .b true)], []⟩
            (Ent.ren [] rfl rfl (by kernel_rfl) ⟨(slot_b (a := false) rfl (by first | rfl | omega | assumption)), trivial⟩ trivial (by kernel_rfl)) rfl (by kernel_rfl) wr_nil (by kernel_rfl)⟩
   ·
    have h41p : (ruleE r) = 0 := dne h41
    refine aw_r [(2, .call [10230, 1] (.b true) []), (13, .dec false), (17, .call [1] (.b (treeB t)) []), (18, .dec false), (24, .call [2] (.b (ruleB r)) []), (25, .dec false), (30, .dec false), (38, .dec false)]
     ⟨157, [1, 2], [(2, .i y), (3, .l (.ref 1003 0)), (4, .l (.ref 1004 0)), (8, .l (.ref 1008 0)), (11, .l (.ref 1011 0)), (12, .i (girthE t y)), (13, .l (.ref 1013 0)), (14, .i (startE t r y)), (85, .b false)], [(1, some (tells_frK1 t)), (2, some (tells_frK2 r)), (1003, some (tells_frK3 t)), (1004, some (tells_frK4 r)), (1008, some (tells_frK8 r)), (1011, some (tells_frK9 t y)), (1013, some (tells_frK10 t r y)), (10250, some (tells_frK6 r))]⟩
     [CallOK Try.prog 21 [.agg [.i t.year, .i t.glo, .i t.ghi, .i t.wlo, .i t.whi, .i t.health, .ls 10230], .agg [.i t.year, .i t.glo, .i t.ghi, .i t.wlo, .i t.whi, .i t.health, .ls 1]] [10230, 1] [some (tells_frK5 t), some (tells_frK1 t)] (.b true) [], decide ((((r.sizes).length : Nat) : Int) ≠ ((r.sizes.length : Nat) : Int)) = false, CallOK Try.prog 22 [.agg [.i t.year, .i t.glo, .i t.ghi, .i t.wlo, .i t.whi, .i t.health, .ls 1]] [1] [some (tells_frK1 t)] (.b (treeB t)) [], BinRun Try.prog .neq 4 (.tmp 58) (.tmp 60) (.bool (decide ((treeE t) = 0))) (.bool (treeB t)) (.bool false), CallOK Try.prog 23 [.agg [.i r.slo, .i r.shi, .i r.ulo, .i r.uhi, .i r.hlo, .i r.hhi, .i r.apart, .i r.blo, .i r.bhi, .ls 2, .i r.n0, .i r.n1, .i r.n2, .i r.n3, .i r.n4, .i r.opn]] [2] [some (tells_frK2 r)] (.b (ruleB r)) [], BinRun Try.prog .neq 4 (.tmp 65) (.tmp 67) (.bool (decide ((ruleE r) = 0))) (.bool (ruleB r)) (.bool false), decide ((treeE t) ≠ 0) = false, decide ((ruleE r) ≠ 0) = false] (by kernel_rfl) (al2 (CallFr.to (holesS_fr t (by first | omega | (simp; done) | assumption)) [(1, 10230), (2, 1)] (by kernel_rfl) (by kernel_rfl) (by kernel_rfl) (by kernel_rfl) (by kernel_rfl) (dem_cons rfl (le_vec_ro rfl el_rfl) (dem_cons rfl (le_ro rfl el_rfl) dem_nil))) (al2 h2 (al2 (CallFr.to (refTree_fr t (by first | omega | (simp; done) | assumption)) [(1, 1)] (by kernel_rfl) (by kernel_rfl) (by kernel_rfl) (by kernel_rfl) (by kernel_rfl) (dem_cons rfl (le_ro rfl el_rfl) dem_nil)) (al2 (bin_neq_bool (decide ((treeE t) = 0)) (treeB t) (h3)) (al2 (CallFr.to (refRules_fr r (by first | omega | (simp; done) | assumption)) [(2, 2)] (by kernel_rfl) (by kernel_rfl) (by kernel_rfl) (by kernel_rfl) (by kernel_rfl) (dem_cons rfl (le_ro rfl el_rfl) dem_nil)) (al2 (bin_neq_bool (decide ((ruleE r) = 0)) (ruleB r) (h4)) (al2 h5 (al1 h41)))))))) ?_
    refine aw_false rfl ?_
    refine aw_skip ?_
    refine aw_seq ?_
    refine aw_seq ?_
    refine aw_r []
     ⟨157, [1, 2], [(2, .i y), (3, .l (.ref 1003 0)), (4, .l (.ref 1004 0)), (8, .l (.ref 1008 0)), (11, .l (.ref 1011 0)), (12, .i (girthE t y)), (13, .l (.ref 1013 0)), (14, .i (startE t r y)), (15, .i 0)], [(1, some (tells_frK1 t)), (2, some (tells_frK2 r)), (1003, some (tells_frK3 t)), (1004, some (tells_frK4 r)), (1008, some (tells_frK8 r)), (1011, some (tells_frK9 t y)), (1013, some (tells_frK10 t r y)), (10250, some (tells_frK6 r))]⟩
     [] (by kernel_rfl) trivial ?_
    refine aw_block ?_
    refine aw_loop (ι := Nat) (fun zz => ⟨157, [1, 2], [(2, .i y), (3, .l (.ref 1003 0)), (4, .l (.ref 1004 0)), (8, .l (.ref 1008 0)), (11, .l (.ref 1011 0)), (12, .i (girthE t y)), (13, .l (.ref 1013 0)), (14, .i (startE t r y)), (15, .i ((zz : Nat) : Int))], [(1, some (tells_frK1 t)), (2, some (tells_frK2 r)), (1003, some (tells_frK3 t)), (1004, some (tells_frK4 r)), (1008, some (tells_frK8 r)), (1011, some (tells_frK9 t y)), (1013, some (tells_frK10 t r y)), (10250, some (tells_frK6 r))]⟩) (fun zz => (zz ≤ r.sizes.length)) (fun zz => r.sizes.length - zz) 0 (by first | omega | rfl | assumption | (simp; done))
        (Ent.ren [] rfl rfl (by kernel_rfl) ⟨rfl, rfl, rfl, rfl, rfl, rfl, rfl, rfl, rfl, trivial⟩ (cro rfl (cro rfl (cbl rfl rfl (cbl rfl rfl (cbl rfl rfl (cbl rfl rfl (cbl rfl rfl (cve rfl trivial)))))))) (by kernel_rfl)) fun zz hp => ?_
    obtain ⟨i, rfl⟩ : ∃ x, x = zz := ⟨_, rfl⟩
    have hiL := hp
    show AW _ E _ _ ⟨157, [1, 2], [(2, .i y), (3, .l (.ref 1003 0)), (4, .l (.ref 1004 0)), (8, .l (.ref 1008 0)), (11, .l (.ref 1011 0)), (12, .i (girthE t y)), (13, .l (.ref 1013 0)), (14, .i (startE t r y)), (15, .i ((i : Nat) : Int))], [(1, some (tells_frK1 t)), (2, some (tells_frK2 r)), (1003, some (tells_frK3 t)), (1004, some (tells_frK4 r)), (1008, some (tells_frK8 r)), (1011, some (tells_frK9 t y)), (1013, some (tells_frK10 t r y)), (10250, some (tells_frK6 r))]⟩
    refine aw_seq ?_
    refine aw_seq ?_
    refine aw_r []
     ⟨157, [1, 2], [(2, .i y), (3, .l (.ref 1003 0)), (4, .l (.ref 1004 0)), (8, .l (.ref 1008 0)), (11, .l (.ref 1011 0)), (12, .i (girthE t y)), (13, .l (.ref 1013 0)), (14, .i (startE t r y)), (15, .i ((i : Nat) : Int)), (90, .b (decide (((i : Nat) : Int) < ((r.sizes.length : Nat) : Int))))], [(1, some (tells_frK1 t)), (2, some (tells_frK2 r)), (1003, some (tells_frK3 t)), (1004, some (tells_frK4 r)), (1008, some (tells_frK8 r)), (1011, some (tells_frK9 t y)), (1013, some (tells_frK10 t r y)), (10250, some (tells_frK6 r))]⟩
     [] (by kernel_rfl) trivial ?_
    refine aw_cond (b := decide (((i : Nat) : Int) < ((r.sizes.length : Nat) : Int))) rfl (fun h59 => ?_) (fun h59 => ?_)
    ·
     have h59p : ((i : Nat) : Int) < ((r.sizes.length : Nat) : Int) := dtr h59
     refine aw_skip ?_
     refine aw_seq ?_
     refine aw_block ?_
     refine aw_seq ?_
     have h60 : (decide ((ix r.sizes i).girth ≠ (ix r.sizes i).girth) || decide ((ix r.sizes i).taps ≠ (ix r.sizes i).taps)) = false := by simp
     refine aw_d [(3, .idx i), (8, .idx i), (10, .dec false)]
      ⟨157, [1, 2], [(2, .i y), (3, .l (.ref 1003 0)), (4, .l (.ref 1004 0)), (8, .l (.ref 1008 0)), (11, .l (.ref 1011 0)), (12, .i (girthE t y)), (13, .l (.ref 1013 0)), (14, .i (startE t r y)), (15, .i ((i : Nat) : Int)), (103, .b false)], [(1, some (tells_frK1 t)), (2, some (tells_frK2 r)), (1003, some (tells_frK3 t)), (1004, some (tells_frK4 r)), (1008, some (tells_frK8 r)), (1011, some (tells_frK9 t y)), (1013, some (tells_frK10 t r y)), (10250, some (tells_frK6 r))]⟩
      [((i : Nat) : Int) = ((i : Nat) : Int), i < (r.sizes).length, i < (r.sizes).length, ((i : Nat) : Int) = ((i : Nat) : Int), i < r.sizes.length, i < r.sizes.length, BinRun Try.prog .neq 45 (.tmp 97) (.tmp 102) (.agg #[.int .i64 ((ix r.sizes i).girth), .int .i64 ((ix r.sizes i).taps)]) (.agg #[.int .i64 ((ix r.sizes i).girth), .int .i64 ((ix r.sizes i).taps)]) (.bool false)] (by kernel_rfl) (by kernel_rfl) (al2 (by omega) (al2 (by omega) (al2 (by omega) (al2 (by omega) (al2 (by omega) (al2 (by omega) (al1 (bin_neq_Z ((ix r.sizes i).girth) ((ix r.sizes i).taps) ((ix r.sizes i).girth) ((ix r.sizes i).taps) h60)))))))) ?_
     refine aw_false rfl ?_
     refine aw_skip ?_
     refine aw_r [(1, .num (((i + 1) : Nat) : Int))]
      ⟨157, [1, 2], [(2, .i y), (3, .l (.ref 1003 0)), (4, .l (.ref 1004 0)), (8, .l (.ref 1008 0)), (11, .l (.ref 1011 0)), (12, .i (girthE t y)), (13, .l (.ref 1013 0)), (14, .i (startE t r y)), (15, .i (((i + 1) : Nat) : Int))], [(1, some (tells_frK1 t)), (2, some (tells_frK2 r)), (1003, some (tells_frK3 t)), (1004, some (tells_frK4 r)), (1008, some (tells_frK8 r)), (1011, some (tells_frK9 t y)), (1013, some (tells_frK10 t r y)), (10250, some (tells_frK6 r))]⟩
      [(((i : Nat) : Int) + 1) = (((i + 1) : Nat) : Int), -9223372036854775808 ≤ (((i + 1) : Nat) : Int) ∧ (((i + 1) : Nat) : Int) < 9223372036854775808] (by kernel_rfl) (al2 (by omega) (al1 (by omega))) ?_
     exact ⟨(i + 1), (by first | omega | rfl | assumption | (simp; done)), (show r.sizes.length - (i + 1) < r.sizes.length - i by first | omega | rfl | assumption),
         (Ent.ren [] rfl rfl (by kernel_rfl) ⟨rfl, rfl, rfl, rfl, rfl, rfl, rfl, rfl, rfl, trivial⟩ (cro rfl (cro rfl (cbl rfl rfl (cbl rfl rfl (cbl rfl rfl (cbl rfl rfl (cbl rfl rfl (cve rfl trivial)))))))) (by kernel_rfl))⟩
    ·
     have h59p : ((r.sizes.length : Nat) : Int) ≤ ((i : Nat) : Int) := dlt h59
     refine aw_exit (exit_then (exit_then (exit_in ?_)))
     refine aw_seq ?_
     refine aw_seq ?_
     refine aw_d [(1, .call [] (.agg [.i exRule.slo, .i exRule.shi, .i exRule.ulo, .i exRule.uhi, .i exRule.hlo, .i exRule.hhi, .i exRule.apart, .i exRule.blo, .i exRule.bhi, .ls 11050, .i exRule.n0, .i exRule.n1, .i exRule.n2, .i exRule.n3, .i exRule.n4, .i exRule.opn]) [(11050, some tells_frK11)]), (3, .call [1, 11050] (.i (startE t exRule y)) [])]
      ⟨157, [1, 2], [(2, .i y), (3, .l (.ref 1003 0)), (4, .l (.ref 1004 0)), (11, .l (.ref 1011 0)), (12, .i (girthE t y)), (13, .l (.ref 1013 0)), (14, .i (startE t r y)), (16, .i (startE t exRule y))], [(1, some (tells_frK1 t)), (2, some (tells_frK2 r)), (1003, some (tells_frK3 t)), (1004, some (tells_frK4 r)), (1011, some (tells_frK9 t y)), (1013, some (tells_frK10 t r y))]⟩
      [CallOK Try.prog 25 [] [] [] (.agg [.i exRule.slo, .i exRule.shi, .i exRule.ulo, .i exRule.uhi, .i exRule.hlo, .i exRule.hhi, .i exRule.apart, .i exRule.blo, .i exRule.bhi, .ls 11050, .i exRule.n0, .i exRule.n1, .i exRule.n2, .i exRule.n3, .i exRule.n4, .i exRule.opn]) [(11050, some tells_frK11)], CallOK Try.prog 24 [.agg [.i t.year, .i t.glo, .i t.ghi, .i t.wlo, .i t.whi, .i t.health, .ls 1], .agg [.i exRule.slo, .i exRule.shi, .i exRule.ulo, .i exRule.uhi, .i exRule.hlo, .i exRule.hhi, .i exRule.apart, .i exRule.blo, .i exRule.bhi, .ls 11050, .i exRule.n0, .i exRule.n1, .i exRule.n2, .i exRule.n3, .i exRule.n4, .i exRule.opn], .i y] [1, 11050] [some (tells_frK1 t), some tells_frK11] (.i (startE t exRule y)) []] (by kernel_rfl) (by kernel_rfl) (al2 (CallFr.to (rules_fr ) [(1, 11050)] (by kernel_rfl) (by kernel_rfl) (by kernel_rfl) (by kernel_rfl) (by kernel_rfl) dem_nil) (al1 (CallFr.to (refStart_fr t exRule y (by first | omega | (simp; done) | assumption) (by first | omega | (simp; done) | assumption)) [(1, 1), (2, 11050)] (by kernel_rfl) (by kernel_rfl) (by kernel_rfl) (by kernel_rfl) (by kernel_rfl) (dem_cons rfl (le_ro rfl el_rfl) (dem_cons rfl (le_vec_ro rfl el_rfl) dem_nil))))) ?_
     refine aw_seq ?_
     refine aw_ent (T := ⟨157, [1, 2], [(2, .i y), (3, .l (.ref 1003 0)), (4, .l (.ref 1004 0)), (11, .l (.ref 1011 0)), (12, .i (girthE t y)), (13, .l (.ref 1013 0)), (14, .i (startE t r y)), (16, .i (girthE t y))], [(1, some (tells_frK1 t)), (2, some (tells_frK2 r)), (1003, some (tells_frK3 t)), (1004, some (tells_frK4 r)), (1011, some (tells_frK9 t y)), (1013, some (tells_frK10 t r y))]⟩)
         (Ent.ren [] rfl rfl (by kernel_rfl) ⟨rfl, rfl, rfl, rfl, rfl, rfl, rfl, (slot_i rfl (by first | rfl | omega | assumption | (exact st_ex))), trivial⟩ (cro rfl (cro rfl (cbl rfl rfl (cbl rfl rfl (cbl rfl rfl (cbl rfl rfl trivial)))))) (by kernel_rfl)) ?_
     refine aw_r []
      ⟨157, [1, 2], [(2, .i y), (3, .l (.ref 1003 0)), (4, .l (.ref 1004 0)), (11, .l (.ref 1011 0)), (12, .i (girthE t y)), (13, .l (.ref 1013 0)), (14, .i (startE t r y)), (16, .i (girthE t y)), (109, .b (decide ((girthE t y) ≠ 0)))], [(1, some (tells_frK1 t)), (2, some (tells_frK2 r)), (1003, some (tells_frK3 t)), (1004, some (tells_frK4 r)), (1011, some (tells_frK9 t y)), (1013, some (tells_frK10 t r y))]⟩
      [] (by kernel_rfl) trivial ?_
     refine aw_cond (b := decide ((girthE t y) ≠ 0)) rfl (fun h61 => ?_) (fun h61 => ?_)
     ·
      have h61p : (girthE t y) ≠ 0 := dtr h61
      refine aw_seq ?_
      have h62 : (decide ((girthE t y) ≠ (girthE t y))) = false := by simp
      have h63 : ((decide ((girthR t y).low ≠ 0) || decide ((girthR t y).high ≠ 0))) = false := by simp_all [girthR, tapsR]
      refine aw_r [(3, .dec false), (6, .dec false)]
       ⟨157, [1, 2], [(2, .i y), (3, .l (.ref 1003 0)), (4, .l (.ref 1004 0)), (13, .l (.ref 1013 0)), (14, .i (startE t r y)), (117, .b false)], [(1, some (tells_frK1 t)), (2, some (tells_frK2 r)), (1003, some (tells_frK3 t)), (1004, some (tells_frK4 r)), (1013, some (tells_frK10 t r y))]⟩
       [decide ((girthE t y) ≠ (girthE t y)) = false, BinRun Try.prog .neq 23 (.tmp 114) (.tmp 115) (.agg #[.int .i64 ((girthR t y).low), .int .i64 ((girthR t y).high)]) (.agg #[.int .i64 0, .int .i64 0]) (.bool false)] (by kernel_rfl) (al2 h62 (al1 (bin_neq_G ((girthR t y).low) ((girthR t y).high) 0 0 h63))) ?_
      refine aw_false rfl ?_
      refine aw_skip ?_
      refine aw_seq ?_
      refine aw_seq ?_
      refine aw_r [(3, .call [1, 2] (.i (startE t r y)) [])]
       ⟨157, [1, 2], [(2, .i y), (3, .l (.ref 1003 0)), (4, .l (.ref 1004 0)), (13, .l (.ref 1013 0)), (14, .i (startE t r y)), (17, .i (startE t r y))], [(1, some (tells_frK1 t)), (2, some (tells_frK2 r)), (1003, some (tells_frK3 t)), (1004, some (tells_frK4 r)), (1013, some (tells_frK10 t r y))]⟩
       [CallOK Try.prog 24 [.agg [.i t.year, .i t.glo, .i t.ghi, .i t.wlo, .i t.whi, .i t.health, .ls 1], .agg [.i r.slo, .i r.shi, .i r.ulo, .i r.uhi, .i r.hlo, .i r.hhi, .i r.apart, .i r.blo, .i r.bhi, .ls 2, .i r.n0, .i r.n1, .i r.n2, .i r.n3, .i r.n4, .i r.opn], .i y] [1, 2] [some (tells_frK1 t), some (tells_frK2 r)] (.i (startE t r y)) []] (by kernel_rfl) (al1 (CallFr.to (refStart_fr t r y (by first | omega | (simp; done) | assumption) (by first | omega | (simp; done) | assumption)) [(1, 1), (2, 2)] (by kernel_rfl) (by kernel_rfl) (by kernel_rfl) (by kernel_rfl) (by kernel_rfl) (dem_cons rfl (le_ro rfl el_rfl) (dem_cons rfl (le_ro rfl el_rfl) dem_nil)))) ?_
      refine aw_seq ?_
      refine aw_r []
       ⟨157, [1, 2], [(2, .i y), (3, .l (.ref 1003 0)), (4, .l (.ref 1004 0)), (13, .l (.ref 1013 0)), (14, .i (startE t r y)), (17, .i (startE t r y)), (132, .b (decide ((startE t r y) ≠ 0)))], [(1, some (tells_frK1 t)), (2, some (tells_frK2 r)), (1003, some (tells_frK3 t)), (1004, some (tells_frK4 r)), (1013, some (tells_frK10 t r y))]⟩
       [] (by kernel_rfl) trivial ?_
      refine aw_cond (b := decide ((startE t r y) ≠ 0)) rfl (fun h64 => ?_) (fun h64 => ?_)
      ·
       have h64p : (startE t r y) ≠ 0 := dtr h64
       refine aw_seq ?_
       have h65 : (decide ((startE t r y) = (startE t r y))) = true := by simp
       have h66 : ((decide ((tapsR t r y).low = 0) && decide ((tapsR t r y).high = 0))) = true := by simp_all [girthR, tapsR]
       refine aw_r [(3, .dec true), (6, .dec true), (9, .call [] (.b true) [])]
        ⟨157, [1, 2], [(6, .b true)], []⟩
        [decide ((startE t r y) = (startE t r y)) = true, BinRun Try.prog .eql 23 (.tmp 137) (.tmp 138) (.agg #[.int .i64 ((tapsR t r y).low), .int .i64 ((tapsR t r y).high)]) (.agg #[.int .i64 0, .int .i64 0]) (.bool true), CallOK Try.prog 14 [] [] [] (.b true) []] (by kernel_rfl) (al2 h65 (al2 (bin_eq_G ((tapsR t r y).low) ((tapsR t r y).high) 0 0 h66) (al1 (CallFr.to (known_fr ) [] (by kernel_rfl) (by kernel_rfl) (by kernel_rfl) (by kernel_rfl) (by kernel_rfl) dem_nil)))) ?_
       exact aw_ret (ret_then ⟨.inr rfl, end_ok ⟨157, [1, 2], [(6, .b true)], []⟩
           (Ent.ren [] rfl rfl (by kernel_rfl) ⟨rfl, trivial⟩ trivial (by kernel_rfl)) rfl (by kernel_rfl) wr_nil (by kernel_rfl)⟩)
      ·
       have h64p : (startE t r y) = 0 := dne h64
       refine aw_skip ?_
       refine aw_seq ?_
       rcases Bool.eq_false_or_eq_true (decide ((startE t r y) = 0)) with h67 | h67
       ·
        have h67p : (startE t r y) = 0 := dtr h67
        have h68 : ((decide ((tapsR t r y).low = (tapsV (openV t r y) (openV t r y).worst)) && decide ((tapsR t r y).high = (tapsV (openV t r y) (openV t r y).best)))) = true := by simp_all [girthR, tapsR]
        refine aw_d [(2, .dec true), (7, .call [1, 2] (.agg [.i (tapsV (openV t r y) (openV t r y).worst), .i (tapsV (openV t r y) (openV t r y).best)]) []), (8, .dec true), (11, .call [] (.b true) [])]
         ⟨157, [1, 2], [(6, .b true)], []⟩
         [decide ((startE t r y) = 0) = true, CallOK Try.prog 27 [.agg [.i t.year, .i t.glo, .i t.ghi, .i t.wlo, .i t.whi, .i t.health, .ls 1], .agg [.i r.slo, .i r.shi, .i r.ulo, .i r.uhi, .i r.hlo, .i r.hhi, .i r.apart, .i r.blo, .i r.bhi, .ls 2, .i r.n0, .i r.n1, .i r.n2, .i r.n3, .i r.n4, .i r.opn], .i y] [1, 2] [some (tells_frK1 t), some (tells_frK2 r)] (.agg [.i (tapsV (openV t r y) (openV t r y).worst), .i (tapsV (openV t r y) (openV t r y).best)]) [], BinRun Try.prog .eql 23 (.tmp 147) (.tmp 151) (.agg #[.int .i64 ((tapsR t r y).low), .int .i64 ((tapsR t r y).high)]) (.agg #[.int .i64 (tapsV (openV t r y) (openV t r y).worst), .int .i64 (tapsV (openV t r y) (openV t r y).best)]) (.bool true), CallOK Try.prog 14 [] [] [] (.b true) []] (by kernel_rfl) (by kernel_rfl) (al2 h67 (al2 (CallFr.to (refTaps_fr t r y (by first | omega | (simp; done) | assumption) (by first | omega | (simp; done) | assumption) (by assumption)) [(1, 1), (2, 2)] (by kernel_rfl) (by kernel_rfl) (by kernel_rfl) (by kernel_rfl) (by kernel_rfl) (dem_cons rfl (le_ro rfl el_rfl) (dem_cons rfl (le_ro rfl el_rfl) dem_nil))) (al2 (bin_eq_G ((tapsR t r y).low) ((tapsR t r y).high) (tapsV (openV t r y) (openV t r y).worst) (tapsV (openV t r y) (openV t r y).best) h68) (al1 (CallFr.to (known_fr ) [] (by kernel_rfl) (by kernel_rfl) (by kernel_rfl) (by kernel_rfl) (by kernel_rfl) dem_nil))))) ?_
        exact aw_ret ⟨.inr rfl, end_ok ⟨157, [1, 2], [(6, .b true)], []⟩
            (Ent.ren [] rfl rfl (by kernel_rfl) ⟨rfl, trivial⟩ trivial (by kernel_rfl)) rfl (by kernel_rfl) wr_nil (by kernel_rfl)⟩
       ·
        have h67p : (startE t r y) ≠ 0 := deq h67
        refine aw_d [(2, .dec false)]
         ⟨157, [1, 2], [(6, .b false)], []⟩
         [decide ((startE t r y) = 0) = false] (by kernel_rfl) (by kernel_rfl) (al1 h67) ?_
        exact aw_ret ⟨.inr rfl, end_ok ⟨157, [1, 2], [(6, .b true)], []⟩
            (Ent.ren [] rfl rfl (by kernel_rfl) ⟨(slot_b (a := false) rfl (by first | rfl | omega | assumption)), trivial⟩ trivial (by kernel_rfl)) rfl (by kernel_rfl) wr_nil (by kernel_rfl)⟩
     ·
      have h61p : (girthE t y) = 0 := dne h61
      refine aw_seq ?_
      have hgo := girthE_0.1 (by assumption)
      have hgt := hgo.1
      have hgy := hgo.2
      have h69 : ((decide ((girthR t y).low ≠ (girthV t y).low) || decide ((girthR t y).high ≠ (girthV t y).high))) = false := by simp_all [girthR, tapsR]
      refine aw_d [(2, .dec false), (6, .call [1] (.agg [.i ((girthV t y).low), .i ((girthV t y).high)]) []), (7, .dec false)]
       ⟨157, [1, 2], [(2, .i y), (3, .l (.ref 1003 0)), (4, .l (.ref 1004 0)), (13, .l (.ref 1013 0)), (14, .i (startE t r y)), (126, .b false)], [(1, some (tells_frK1 t)), (2, some (tells_frK2 r)), (1003, some (tells_frK3 t)), (1004, some (tells_frK4 r)), (1013, some (tells_frK10 t r y))]⟩
       [decide ((girthE t y) ≠ 0) = false, CallOK Try.prog 26 [.agg [.i t.year, .i t.glo, .i t.ghi, .i t.wlo, .i t.whi, .i t.health, .ls 1], .i y] [1] [some (tells_frK1 t)] (.agg [.i ((girthV t y).low), .i ((girthV t y).high)]) [], BinRun Try.prog .neq 23 (.tmp 121) (.tmp 124) (.agg #[.int .i64 ((girthR t y).low), .int .i64 ((girthR t y).high)]) (.agg #[.int .i64 ((girthV t y).low), .int .i64 ((girthV t y).high)]) (.bool false)] (by kernel_rfl) (by kernel_rfl) (al2 h61 (al2 (CallFr.to (refGirth_fr t y (by assumption) (by assumption)) [(1, 1)] (by kernel_rfl) (by kernel_rfl) (by kernel_rfl) (by kernel_rfl) (by kernel_rfl) (dem_cons rfl (le_ro rfl el_rfl) dem_nil)) (al1 (bin_neq_G ((girthR t y).low) ((girthR t y).high) ((girthV t y).low) ((girthV t y).high) h69)))) ?_
      refine aw_false rfl ?_
      refine aw_skip ?_
      refine aw_seq ?_
      refine aw_seq ?_
      refine aw_r [(3, .call [1, 2] (.i (startE t r y)) [])]
       ⟨157, [1, 2], [(2, .i y), (3, .l (.ref 1003 0)), (4, .l (.ref 1004 0)), (13, .l (.ref 1013 0)), (14, .i (startE t r y)), (17, .i (startE t r y))], [(1, some (tells_frK1 t)), (2, some (tells_frK2 r)), (1003, some (tells_frK3 t)), (1004, some (tells_frK4 r)), (1013, some (tells_frK10 t r y))]⟩
       [CallOK Try.prog 24 [.agg [.i t.year, .i t.glo, .i t.ghi, .i t.wlo, .i t.whi, .i t.health, .ls 1], .agg [.i r.slo, .i r.shi, .i r.ulo, .i r.uhi, .i r.hlo, .i r.hhi, .i r.apart, .i r.blo, .i r.bhi, .ls 2, .i r.n0, .i r.n1, .i r.n2, .i r.n3, .i r.n4, .i r.opn], .i y] [1, 2] [some (tells_frK1 t), some (tells_frK2 r)] (.i (startE t r y)) []] (by kernel_rfl) (al1 (CallFr.to (refStart_fr t r y (by first | omega | (simp; done) | assumption) (by first | omega | (simp; done) | assumption)) [(1, 1), (2, 2)] (by kernel_rfl) (by kernel_rfl) (by kernel_rfl) (by kernel_rfl) (by kernel_rfl) (dem_cons rfl (le_ro rfl el_rfl) (dem_cons rfl (le_ro rfl el_rfl) dem_nil)))) ?_
      refine aw_seq ?_
      refine aw_r []
       ⟨157, [1, 2], [(2, .i y), (3, .l (.ref 1003 0)), (4, .l (.ref 1004 0)), (13, .l (.ref 1013 0)), (14, .i (startE t r y)), (17, .i (startE t r y)), (132, .b (decide ((startE t r y) ≠ 0)))], [(1, some (tells_frK1 t)), (2, some (tells_frK2 r)), (1003, some (tells_frK3 t)), (1004, some (tells_frK4 r)), (1013, some (tells_frK10 t r y))]⟩
       [] (by kernel_rfl) trivial ?_
      refine aw_cond (b := decide ((startE t r y) ≠ 0)) rfl (fun h70 => ?_) (fun h70 => ?_)
      ·
       have h70p : (startE t r y) ≠ 0 := dtr h70
       refine aw_seq ?_
       have h71 : (decide ((startE t r y) = (startE t r y))) = true := by simp
       have h72 : ((decide ((tapsR t r y).low = 0) && decide ((tapsR t r y).high = 0))) = true := by simp_all [girthR, tapsR]
       refine aw_r [(3, .dec true), (6, .dec true), (9, .call [] (.b true) [])]
        ⟨157, [1, 2], [(6, .b true)], []⟩
        [decide ((startE t r y) = (startE t r y)) = true, BinRun Try.prog .eql 23 (.tmp 137) (.tmp 138) (.agg #[.int .i64 ((tapsR t r y).low), .int .i64 ((tapsR t r y).high)]) (.agg #[.int .i64 0, .int .i64 0]) (.bool true), CallOK Try.prog 14 [] [] [] (.b true) []] (by kernel_rfl) (al2 h71 (al2 (bin_eq_G ((tapsR t r y).low) ((tapsR t r y).high) 0 0 h72) (al1 (CallFr.to (known_fr ) [] (by kernel_rfl) (by kernel_rfl) (by kernel_rfl) (by kernel_rfl) (by kernel_rfl) dem_nil)))) ?_
       exact aw_ret (ret_then ⟨.inr rfl, end_ok ⟨157, [1, 2], [(6, .b true)], []⟩
           (Ent.ren [] rfl rfl (by kernel_rfl) ⟨rfl, trivial⟩ trivial (by kernel_rfl)) rfl (by kernel_rfl) wr_nil (by kernel_rfl)⟩)
      ·
       have h70p : (startE t r y) = 0 := dne h70
       refine aw_skip ?_
       refine aw_seq ?_
       rcases Bool.eq_false_or_eq_true (decide ((startE t r y) = 0)) with h73 | h73
       ·
        have h73p : (startE t r y) = 0 := dtr h73
        have h74 : ((decide ((tapsR t r y).low = (tapsV (openV t r y) (openV t r y).worst)) && decide ((tapsR t r y).high = (tapsV (openV t r y) (openV t r y).best)))) = true := by simp_all [girthR, tapsR]
        refine aw_d [(2, .dec true), (7, .call [1, 2] (.agg [.i (tapsV (openV t r y) (openV t r y).worst), .i (tapsV (openV t r y) (openV t r y).best)]) []), (8, .dec true), (11, .call [] (.b true) [])]
         ⟨157, [1, 2], [(6, .b true)], []⟩
         [decide ((startE t r y) = 0) = true, CallOK Try.prog 27 [.agg [.i t.year, .i t.glo, .i t.ghi, .i t.wlo, .i t.whi, .i t.health, .ls 1], .agg [.i r.slo, .i r.shi, .i r.ulo, .i r.uhi, .i r.hlo, .i r.hhi, .i r.apart, .i r.blo, .i r.bhi, .ls 2, .i r.n0, .i r.n1, .i r.n2, .i r.n3, .i r.n4, .i r.opn], .i y] [1, 2] [some (tells_frK1 t), some (tells_frK2 r)] (.agg [.i (tapsV (openV t r y) (openV t r y).worst), .i (tapsV (openV t r y) (openV t r y).best)]) [], BinRun Try.prog .eql 23 (.tmp 147) (.tmp 151) (.agg #[.int .i64 ((tapsR t r y).low), .int .i64 ((tapsR t r y).high)]) (.agg #[.int .i64 (tapsV (openV t r y) (openV t r y).worst), .int .i64 (tapsV (openV t r y) (openV t r y).best)]) (.bool true), CallOK Try.prog 14 [] [] [] (.b true) []] (by kernel_rfl) (by kernel_rfl) (al2 h73 (al2 (CallFr.to (refTaps_fr t r y (by first | omega | (simp; done) | assumption) (by first | omega | (simp; done) | assumption) (by assumption)) [(1, 1), (2, 2)] (by kernel_rfl) (by kernel_rfl) (by kernel_rfl) (by kernel_rfl) (by kernel_rfl) (dem_cons rfl (le_ro rfl el_rfl) (dem_cons rfl (le_ro rfl el_rfl) dem_nil))) (al2 (bin_eq_G ((tapsR t r y).low) ((tapsR t r y).high) (tapsV (openV t r y) (openV t r y).worst) (tapsV (openV t r y) (openV t r y).best) h74) (al1 (CallFr.to (known_fr ) [] (by kernel_rfl) (by kernel_rfl) (by kernel_rfl) (by kernel_rfl) (by kernel_rfl) dem_nil))))) ?_
        exact aw_ret ⟨.inr rfl, end_ok ⟨157, [1, 2], [(6, .b true)], []⟩
            (Ent.ren [] rfl rfl (by kernel_rfl) ⟨rfl, trivial⟩ trivial (by kernel_rfl)) rfl (by kernel_rfl) wr_nil (by kernel_rfl)⟩
       ·
        have h73p : (startE t r y) ≠ 0 := deq h73
        refine aw_d [(2, .dec false)]
         ⟨157, [1, 2], [(6, .b false)], []⟩
         [decide ((startE t r y) = 0) = false] (by kernel_rfl) (by kernel_rfl) (al1 h73) ?_
        exact aw_ret ⟨.inr rfl, end_ok ⟨157, [1, 2], [(6, .b true)], []⟩
            (Ent.ren [] rfl rfl (by kernel_rfl) ⟨(slot_b (a := false) rfl (by first | rfl | omega | assumption)), trivial⟩ trivial (by kernel_rfl)) rfl (by kernel_rfl) wr_nil (by kernel_rfl)⟩
end Go.Proofs.Ytbpblhmigijkaaa
