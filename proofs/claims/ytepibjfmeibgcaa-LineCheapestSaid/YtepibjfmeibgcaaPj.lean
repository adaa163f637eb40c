/- LinePlans, walked. -/
import Derived.Test.YtepibjfmeibgcaaPn
import Derived.Test.YtepibjfmeibgcaaProg
namespace Go.Proofs.Ytepibjfmeibgcaa
open Go.RowKit
set_option linter.unusedVariables false
theorem bin_neq_bore {xo yo : Operand} (a0 a1 b0 b1 : Int) {r : Bool} (h : (decide (a0 ≠ b0) || decide (a1 ≠ b1)) = r) : BinRun Try.prog .neq 38 xo yo (.agg #[.int .i64 a0, .int .i64 a1]) (.agg #[.int .i64 b0, .int .i64 b1]) (.bool r) := by
 subst h
 intro w
 have h1 : Try.prog.eqGuardType Try.prog.depth 38 = false := by kernel_rfl
 have h2 : Try.prog.stoodInHeld 38 = false := by kernel_rfl
 have h3 : Try.prog.underlying 38 = some (.struct (Try.prog.fieldsOf 38)) := by kernel_rfl
 have h4 : Try.prog.underlying 3 = some (.int .i64) := by kernel_rfl
 have h5 : (Try.prog.fieldsOf 38).toList = [⟨"Size", 3, 0, false, "", "", 0⟩, ⟨"Price", 3, 1, false, "", "", 8⟩] := by kernel_rfl
 have p0 : ∀ w, (part 3 #[.int .i64 a0, .int .i64 a1] 0).run Try.prog w = .ok (.int .i64 a0) w := fun _ => by kernel_rfl
 have q0 : ∀ w, (part 3 #[.int .i64 b0, .int .i64 b1] 0).run Try.prog w = .ok (.int .i64 b0) w := fun _ => by kernel_rfl
 have p1 : ∀ w, (part 3 #[.int .i64 a0, .int .i64 a1] 1).run Try.prog w = .ok (.int .i64 a1) w := fun _ => by kernel_rfl
 have q1 : ∀ w, (part 3 #[.int .i64 b0, .int .i64 b1] 1).run Try.prog w = .ok (.int .i64 b1) w := fun _ => by kernel_rfl
 have g1 : ∀ w (u v : Int), (Op.equalIn 9999 3 (.int .i64 u) (.int .i64 v)).run Try.prog w = .ok (u == v) w := fun w u v => run_equalIn_int w 9998 _ _ _ u v h4
 have g2 : ∀ w, (Op.equalIn 10000 38 (.agg #[.int .i64 a0, .int .i64 a1]) (.agg #[.int .i64 b0, .int .i64 b1])).run Try.prog w = .ok ((a0 == b0) && (a1 == b1)) w := fun w => by
  rw [run_equalIn_agg w 9999 _ _ _ h3 h2, h5]
  simp only [Op.eqFields, Sem.run_bind, p0, q0, p1, q1, g1, Result.andThen_ok]
  cases e0 : (a0 == b0) <;> cases e1 : (a1 == b1) <;> simp [Sem.run_bind, p0, q0, p1, q1, g1, e0, e1]
 rw [Sem.run_bind, run_eqGuard_agg _ _ _ _ _ _ _ h1]
 simp only [Result.andThen_ok]
 rw [run_neq_struct, g2]
 by_cases e0 : a0 = b0 <;> by_cases e1 : a1 = b1 <;> simp [e0, e1, Result.andThen]
theorem bin_eq_bore {xo yo : Operand} (a0 a1 b0 b1 : Int) {r : Bool} (h : (decide (a0 = b0) && decide (a1 = b1)) = r) : BinRun Try.prog .eql 38 xo yo (.agg #[.int .i64 a0, .int .i64 a1]) (.agg #[.int .i64 b0, .int .i64 b1]) (.bool r) := by
 subst h
 intro w
 have h1 : Try.prog.eqGuardType Try.prog.depth 38 = false := by kernel_rfl
 have h2 : Try.prog.stoodInHeld 38 = false := by kernel_rfl
 have h3 : Try.prog.underlying 38 = some (.struct (Try.prog.fieldsOf 38)) := by kernel_rfl
 have h4 : Try.prog.underlying 3 = some (.int .i64) := by kernel_rfl
 have h5 : (Try.prog.fieldsOf 38).toList = [⟨"Size", 3, 0, false, "", "", 0⟩, ⟨"Price", 3, 1, false, "", "", 8⟩] := by kernel_rfl
 have p0 : ∀ w, (part 3 #[.int .i64 a0, .int .i64 a1] 0).run Try.prog w = .ok (.int .i64 a0) w := fun _ => by kernel_rfl
 have q0 : ∀ w, (part 3 #[.int .i64 b0, .int .i64 b1] 0).run Try.prog w = .ok (.int .i64 b0) w := fun _ => by kernel_rfl
 have p1 : ∀ w, (part 3 #[.int .i64 a0, .int .i64 a1] 1).run Try.prog w = .ok (.int .i64 a1) w := fun _ => by kernel_rfl
 have q1 : ∀ w, (part 3 #[.int .i64 b0, .int .i64 b1] 1).run Try.prog w = .ok (.int .i64 b1) w := fun _ => by kernel_rfl
 have g1 : ∀ w (u v : Int), (Op.equalIn 9999 3 (.int .i64 u) (.int .i64 v)).run Try.prog w = .ok (u == v) w := fun w u v => run_equalIn_int w 9998 _ _ _ u v h4
 have g2 : ∀ w, (Op.equalIn 10000 38 (.agg #[.int .i64 a0, .int .i64 a1]) (.agg #[.int .i64 b0, .int .i64 b1])).run Try.prog w = .ok ((a0 == b0) && (a1 == b1)) w := fun w => by
  rw [run_equalIn_agg w 9999 _ _ _ h3 h2, h5]
  simp only [Op.eqFields, Sem.run_bind, p0, q0, p1, q1, g1, Result.andThen_ok]
  cases e0 : (a0 == b0) <;> cases e1 : (a1 == b1) <;> simp [Sem.run_bind, p0, q0, p1, q1, g1, e0, e1]
 rw [Sem.run_bind, run_eqGuard_agg _ _ _ _ _ _ _ h1]
 simp only [Result.andThen_ok]
 rw [run_eql_struct, g2]
 by_cases e0 : a0 = b0 <;> by_cases e1 : a1 = b1 <;> simp [e0, e1, Result.andThen]
def greatR (n : Net) (flows : List Rng) : Bool := decide (70 < n.pipes.length ∨ 70 < flows.length)
theorem planA_len (n : Net) (flows : List Rng) (bores : List Bor) (need : Int) : (planA n flows bores need).1.length ≤ 60 := by
  by_cases h1 : flowE n flows [] = 0
  · by_cases h2 : chV bores need = 0
    · rw [planA_ok h1 h2]
      obtain ⟨hok, _⟩ := flowE_zero h1
      have hl := netB_len hok
      unfold planF
      split
      · unfold planL
        have := plF_len (atL n.pipes (loadT n flows) bores need) (n.pipes.drop 1) [n.pump] []
        rw [List.length_drop] at this
        simp only [List.length_nil] at this
        simp only
        omega
      · simp
    · rw [planA_ch h1 h2]; simp
  · rw [planA_flow h1]; simp
def great_nrK1 (n : Net) : Cn := .ro 5 n.pipes.length (Lst eP n.pipes)
def great_nrK2 (flows : List Rng) : Cn := .ro 2 flows.length (Lst eR flows)
set_option maxRecDepth 100000 in
theorem great_nr (n : Net) (flows : List Rng) (hn : n.pipes.length ≤ maxLen) (hf : flows.length ≤ maxLen) : CallFr Try.prog 14 [.agg [.i n.pump, .ls 1], .ls 2, .l (.v (.slice none 0 0))] [1, 2] [some (.ro 5 n.pipes.length (Lst eP n.pipes)), some (.ro 2 flows.length (Lst eR flows))] (.b (greatR n flows)) [] := by
 have hML : maxLen = 9223372036854775807 := rfl
 refine callFr_of (fn := Try.f14) (by kernel_rfl) rfl (by kernel_rfl) (by kernel_rfl) fun E => ?_
 refine aw_ent (T := ⟨21, [1, 2], [(0, .agg [.i n.pump, .ls 1]), (1, .ls 2), (2, .l (.v (.slice none 0 0)))], [(1, some (great_nrK1 n)), (2, some (great_nrK2 flows))]⟩) (Ent.refl _) ?_
 refine aw_seq ?_
 refine aw_r [(0, .new 1003)]
  ⟨21, [1, 2], [(1, .ls 2), (2, .l (.v (.slice none 0 0))), (3, .l (.ref 1003 0))], [(1, some (great_nrK1 n)), (2, some (great_nrK2 flows)), (1003, some (.blk 24 [.i n.pump, .ls 1]))]⟩
  [] (by kernel_rfl) trivial ?_
 refine aw_seq ?_
 rcases Bool.eq_false_or_eq_true (decide (70 < ((n.pipes.length : Nat) : Int))) with h1 | h1
 ·
  have h1p : 70 < ((n.pipes.length : Nat) : Int) := dtr h1
  refine aw_r [(4, .dec true)]
   ⟨21, [1, 2], [(6, .b true)], []⟩
   [decide (70 < ((n.pipes.length : Nat) : Int)) = true] (by kernel_rfl) (al1 h1) ?_
  exact aw_ret ⟨.inr rfl, end_ok ⟨21, [1, 2], [(6, .b (greatR n flows))], []⟩
      (Ent.ren [] rfl rfl (by kernel_rfl) ⟨(slot_b (a := true) rfl (by first | rfl | omega | assumption | (exact (decide_eq_true (by omega)).symm) | (exact (decide_eq_false (by omega)).symm))), trivial⟩ trivial (by kernel_rfl)) rfl (by kernel_rfl) wr_nil (by kernel_rfl)⟩
 ·
  have h1p : ((n.pipes.length : Nat) : Int) ≤ 70 := dlt h1
  rcases Bool.eq_false_or_eq_true (decide (70 < ((flows.length : Nat) : Int))) with h2 | h2
  ·
   have h2p : 70 < ((flows.length : Nat) : Int) := dtr h2
   refine aw_r [(4, .dec false), (9, .dec true)]
    ⟨21, [1, 2], [(6, .b true)], []⟩
    [decide (70 < ((n.pipes.length : Nat) : Int)) = false, decide (70 < ((flows.length : Nat) : Int)) = true] (by kernel_rfl) (al2 h1 (al1 h2)) ?_
   exact aw_ret ⟨.inr rfl, end_ok ⟨21, [1, 2], [(6, .b (greatR n flows))], []⟩
       (Ent.ren [] rfl rfl (by kernel_rfl) ⟨(slot_b (a := true) rfl (by first | rfl | omega | assumption | (exact (decide_eq_true (by omega)).symm) | (exact (decide_eq_false (by omega)).symm))), trivial⟩ trivial (by kernel_rfl)) rfl (by kernel_rfl) wr_nil (by kernel_rfl)⟩
  ·
   have h2p : ((flows.length : Nat) : Int) ≤ 70 := dlt h2
   refine aw_r [(4, .dec false), (9, .dec false)]
    ⟨21, [1, 2], [(6, .b (decide ((70 : Int) < (0 : Int))))], []⟩
    [decide (70 < ((n.pipes.length : Nat) : Int)) = false, decide (70 < ((flows.length : Nat) : Int)) = false] (by kernel_rfl) (al2 h1 (al1 h2)) ?_
   exact aw_ret ⟨.inr rfl, end_ok ⟨21, [1, 2], [(6, .b (greatR n flows))], []⟩
       (Ent.ren [] rfl rfl (by kernel_rfl) ⟨(slot_b (a := decide ((70 : Int) < (0 : Int))) rfl (by first | rfl | omega | assumption | (exact (decide_eq_true (by omega)).symm) | (exact (decide_eq_false (by omega)).symm))), trivial⟩ trivial (by kernel_rfl)) rfl (by kernel_rfl) wr_nil (by kernel_rfl)⟩
def plans_frK1 (n : Net) : Cn := .ro 5 n.pipes.length (Lst eP n.pipes)
def plans_frK2 (flows : List Rng) : Cn := .ro 2 flows.length (Lst eR flows)
def plans_frK3 (bores : List Bor) : Cn := .ro 2 bores.length (Lst eO bores)
def plans_frK4 (bores : List Bor) : Cn := .vec 38 2 bores.length (Lst eO bores)
def plans_frK5 (n : Net) : Cn := .vec 54 5 ((n.pipes).length) (Lst eP n.pipes)
def plans_frK6 (flows : List Rng) : Cn := .vec 52 2 ((flows).length) (Lst eR flows)
def plans_frK7 (n : Net) (flows : List Rng) (bores : List Bor) (need : Int) : Cn := .vec 3 1 ((planA n flows bores need).1.length) (Lst eI ((planA n flows bores need).1))
set_option maxRecDepth 100000 in
theorem plans_fr (n : Net) (flows : List Rng) (bores : List Bor) (need : Int) (hn : n.pipes.length ≤ maxLen) (hf : flows.length ≤ maxLen) (hb : bores.length ≤ maxLen) : CallFr Try.prog 3 [.agg [.i n.pump, .ls 1], .ls 2, .agg [.ls 3, .i need]] [1, 2, 3] [some (.ro 5 n.pipes.length (Lst eP n.pipes)), some (.ro 2 flows.length (Lst eR flows)), some (.ro 2 bores.length (Lst eO bores))] (.b true) [] := by
 have hML : maxLen = 9223372036854775807 := rfl
 refine callFr_of (fn := Try.f3) (by kernel_rfl) rfl (by kernel_rfl) (by kernel_rfl) fun E => ?_
 refine aw_ent (T := ⟨84, [1, 2, 3], [(0, .agg [.i n.pump, .ls 1]), (1, .ls 2), (2, .agg [.ls 3, .i need])], [(1, some (plans_frK1 n)), (2, some (plans_frK2 flows)), (3, some (plans_frK3 bores))]⟩) (Ent.refl _) ?_
 refine aw_seq ?_
 refine aw_r [(0, .new 1003), (1, .new 1005)]
  ⟨84, [1, 2, 3], [(1, .ls 2), (3, .l (.ref 1003 0)), (5, .l (.ref 1005 0))], [(1, some (plans_frK1 n)), (2, some (plans_frK2 flows)), (3, some (plans_frK3 bores)), (1003, some (.blk 24 [.i n.pump, .ls 1])), (1005, some (.blk 28 [.ls 3, .i need]))]⟩
  [] (by kernel_rfl) trivial ?_
 refine aw_seq ?_
 refine aw_seq ?_
 rcases Bool.eq_false_or_eq_true ((greatR n flows)) with h1 | h1
 ·
  refine aw_r [(2, .call [1, 2] (.b (greatR n flows)) []), (3, .dec true)]
   ⟨84, [1, 2, 3], [(1, .ls 2), (3, .l (.ref 1003 0)), (5, .l (.ref 1005 0)), (23, .b true)], [(1, some (plans_frK1 n)), (2, some (plans_frK2 flows)), (3, some (plans_frK3 bores)), (1003, some (.blk 24 [.i n.pump, .ls 1])), (1005, some (.blk 28 [.ls 3, .i need]))]⟩
   [CallOK Try.prog 14 [.agg [.i n.pump, .ls 1], .ls 2, .l (.v (.slice none 0 0))] [1, 2] [some (plans_frK1 n), some (plans_frK2 flows)] (.b (greatR n flows)) [], (greatR n flows) = true] (by kernel_rfl) (al2 (CallFr.to (great_nr n flows (by omega) (by omega)) [(1, 1), (2, 2)] (by kernel_rfl) (by kernel_rfl) (by kernel_rfl) (by kernel_rfl) (by kernel_rfl) (dem_cons rfl (le_ro rfl el_rfl) (dem_cons rfl (le_ro rfl el_rfl) dem_nil))) (al1 h1)) ?_
  refine aw_true rfl ?_
  refine aw_seq ?_
  refine aw_r [(0, .call [] (.b true) [])]
   ⟨84, [1, 2, 3], [(6, .b true)], []⟩
   [CallOK Try.prog 15 [] [] [] (.b true) []] (by kernel_rfl) (al1 (CallFr.to (known_fr ) [] (by kernel_rfl) (by kernel_rfl) (by kernel_rfl) (by kernel_rfl) (by kernel_rfl) dem_nil)) ?_
  exact aw_ret (ret_then ⟨.inr rfl, end_ok ⟨84, [1, 2, 3], [(6, .b true)], []⟩
      (Ent.ren [] rfl rfl (by kernel_rfl) ⟨rfl, trivial⟩ trivial (by kernel_rfl)) rfl (by kernel_rfl) wr_nil (by kernel_rfl)⟩)
 ·
  have hgr := of_decide_eq_false h1
  refine aw_r [(2, .call [1, 2] (.b (greatR n flows)) []), (3, .dec false)]
   ⟨84, [1, 2, 3], [(1, .ls 2), (3, .l (.ref 1003 0)), (5, .l (.ref 1005 0)), (23, .b (decide (8 < ((bores.length : Nat) : Int))))], [(1, some (plans_frK1 n)), (2, some (plans_frK2 flows)), (3, some (plans_frK3 bores)), (1003, some (.blk 24 [.i n.pump, .ls 1])), (1005, some (.blk 28 [.ls 3, .i need]))]⟩
   [CallOK Try.prog 14 [.agg [.i n.pump, .ls 1], .ls 2, .l (.v (.slice none 0 0))] [1, 2] [some (plans_frK1 n), some (plans_frK2 flows)] (.b (greatR n flows)) [], (greatR n flows) = false] (by kernel_rfl) (al2 (CallFr.to (great_nr n flows (by omega) (by omega)) [(1, 1), (2, 2)] (by kernel_rfl) (by kernel_rfl) (by kernel_rfl) (by kernel_rfl) (by kernel_rfl) (dem_cons rfl (le_ro rfl el_rfl) (dem_cons rfl (le_ro rfl el_rfl) dem_nil))) (al1 h1)) ?_
  refine aw_cond (b := decide (8 < ((bores.length : Nat) : Int))) rfl (fun h2 => ?_) (fun h2 => ?_)
  ·
   have h2p : 8 < ((bores.length : Nat) : Int) := dtr h2
   refine aw_seq ?_
   refine aw_r [(0, .call [] (.b true) [])]
    ⟨84, [1, 2, 3], [(6, .b true)], []⟩
    [CallOK Try.prog 15 [] [] [] (.b true) []] (by kernel_rfl) (al1 (CallFr.to (known_fr ) [] (by kernel_rfl) (by kernel_rfl) (by kernel_rfl) (by kernel_rfl) (by kernel_rfl) dem_nil)) ?_
   exact aw_ret (ret_then ⟨.inr rfl, end_ok ⟨84, [1, 2, 3], [(6, .b true)], []⟩
       (Ent.ren [] rfl rfl (by kernel_rfl) ⟨rfl, trivial⟩ trivial (by kernel_rfl)) rfl (by kernel_rfl) wr_nil (by kernel_rfl)⟩)
  ·
   have h2p : ((bores.length : Nat) : Int) ≤ 8 := dlt h2
   refine aw_skip ?_
   refine aw_seq ?_
   refine aw_r [(0, .new 1025), (3, .lst 1028 bores.length (Lst eO bores))]
    ⟨84, [1, 2, 3], [(1, .ls 2), (3, .l (.ref 1003 0)), (5, .l (.ref 1005 0)), (7, .ls 1028)], [(1, some (plans_frK1 n)), (2, some (plans_frK2 flows)), (3, some (plans_frK3 bores)), (1003, some (.blk 24 [.i n.pump, .ls 1])), (1005, some (.blk 28 [.ls 3, .i need])), (1028, some (plans_frK4 bores))]⟩
    [0 + bores.length ≤ 1000000000000, (0 + bores.length) * 16 ≤ 140737488355328, AppOk 2 0 bores.length (exEl 2 []) (Lst eO bores) bores.length (Lst eO bores)] (by kernel_rfl) (al2 (by omega) (al2 (by omega) (al1 (app_nil (by first | omega | rfl | assumption))))) ?_
   refine aw_seq ?_
   refine aw_d [(1, .call [1] (.agg [.i n.pump, .ls 10310]) [(10310, some (plans_frK5 n))]), (3, .call [2] (.ls 10330) [(10330, some (plans_frK6 flows))]), (7, .call [10310, 10330, 1028] (.tup [.one (.ls 10370), .one (.i ((planA n flows bores need).2.1)), .one (.i ((planA n flows bores need).2.2))]) [(10370, some (plans_frK7 n flows bores need))])]
    ⟨84, [1, 2, 3], [(1, .ls 2), (3, .l (.ref 1003 0)), (5, .l (.ref 1005 0)), (7, .ls 1028), (8, .ls 10370), (9, .i ((planA n flows bores need).2.1)), (10, .i ((planA n flows bores need).2.2))], [(1, some (plans_frK1 n)), (2, some (plans_frK2 flows)), (3, some (plans_frK3 bores)), (1003, some (.blk 24 [.i n.pump, .ls 1])), (1005, some (.blk 28 [.ls 3, .i need])), (1028, some (plans_frK4 bores)), (10370, some (plans_frK7 n flows bores need))]⟩
    [CallOK Try.prog 17 [.agg [.i n.pump, .ls 1]] [1] [some (plans_frK1 n)] (.agg [.i n.pump, .ls 10310]) [(10310, some (plans_frK5 n))], CallOK Try.prog 18 [.ls 2] [2] [some (plans_frK2 flows)] (.ls 10330) [(10330, some (plans_frK6 flows))], CallOK Try.prog 16 [.agg [.i n.pump, .ls 10310], .ls 10330, .ls 1028, .i need] [10310, 10330, 1028] [some (plans_frK5 n), some (plans_frK6 flows), some (plans_frK4 bores)] (.tup [.one (.ls 10370), .one (.i ((planA n flows bores need).2.1)), .one (.i ((planA n flows bores need).2.2))]) [(10370, some (plans_frK7 n flows bores need))]] (by kernel_rfl) (by kernel_rfl) (al2 (CallFr.to (own_fr n (by first | omega | (dsimp only; omega))) [(1, 1), (2, 10310)] (by kernel_rfl) (by kernel_rfl) (by kernel_rfl) (by kernel_rfl) (by kernel_rfl) (dem_cons rfl (le_ro rfl el_rfl) dem_nil)) (al2 (CallFr.to (ranges_fr flows (by first | omega | (rw [pairT_len] <;> omega))) [(1, 2), (2, 10330)] (by kernel_rfl) (by kernel_rfl) (by kernel_rfl) (by kernel_rfl) (by kernel_rfl) (dem_cons rfl (le_ro rfl el_rfl) dem_nil)) (al1 (CallFr.to (Plan_fr n flows bores need (by omega) (by omega) (by omega)) [(1, 10310), (2, 10330), (3, 1028), (4, 10370)] (by kernel_rfl) (by kernel_rfl) (by kernel_rfl) (by kernel_rfl) (by kernel_rfl) (dem_cons rfl (le_vec_ro rfl el_rfl) (dem_cons rfl (le_vec_ro rfl el_rfl) (dem_cons rfl (le_vec_ro rfl el_rfl) dem_nil))))))) ?_
   refine aw_seq ?_
   refine aw_r [(6, .call [1, 2, 3] (.tup [.one (.ls 10480), .one (.i ((planA n flows bores need).2.1)), .one (.i ((planA n flows bores need).2.2))]) [(10480, some (plans_frK7 n flows bores need))])]
    ⟨84, [1, 2, 3], [(5, .l (.ref 1005 0)), (7, .ls 1028), (8, .ls 10370), (9, .i ((planA n flows bores need).2.1)), (10, .i ((planA n flows bores need).2.2)), (11, .ls 10480), (12, .i ((planA n flows bores need).2.1)), (13, .i ((planA n flows bores need).2.2))], [(3, some (plans_frK3 bores)), (1005, some (.blk 28 [.ls 3, .i need])), (1028, some (plans_frK4 bores)), (10370, some (plans_frK7 n flows bores need)), (10480, some (plans_frK7 n flows bores need))]⟩
    [CallOK Try.prog 19 [.agg [.i n.pump, .ls 1], .ls 2, .ls 3, .i need] [1, 2, 3] [some (plans_frK1 n), some (plans_frK2 flows), some (plans_frK3 bores)] (.tup [.one (.ls 10480), .one (.i ((planA n flows bores need).2.1)), .one (.i ((planA n flows bores need).2.2))]) [(10480, some (plans_frK7 n flows bores need))]] (by kernel_rfl) (al1 (CallFr.to (refPlan_fr n flows bores need (by omega) (by omega) (by omega)) [(1, 1), (2, 2), (3, 3), (9, 10480)] (by kernel_rfl) (by kernel_rfl) (by kernel_rfl) (by kernel_rfl) (by kernel_rfl) (dem_cons rfl (le_ro rfl el_rfl) (dem_cons rfl (le_ro rfl el_rfl) (dem_cons rfl (le_ro rfl el_rfl) dem_nil))))) ?_
   refine aw_seq ?_
   refine aw_seq ?_
   refine aw_r []
    ⟨84, [1, 2, 3], [(5, .l (.ref 1005 0)), (7, .ls 1028), (8, .ls 10370), (9, .i ((planA n flows bores need).2.1)), (10, .i ((planA n flows bores need).2.2)), (11, .ls 10480), (12, .i ((planA n flows bores need).2.1)), (13, .i ((planA n flows bores need).2.2)), (14, .i 0)], [(3, some (plans_frK3 bores)), (1005, some (.blk 28 [.ls 3, .i need])), (1028, some (plans_frK4 bores)), (10370, some (plans_frK7 n flows bores need)), (10480, some (plans_frK7 n flows bores need))]⟩
    [] (by kernel_rfl) trivial ?_
   refine aw_block ?_
   refine aw_loop (ι := Nat) (fun zz => ⟨84, [1, 2, 3], [(5, .l (.ref 1005 0)), (7, .ls 1028), (8, .ls 10370), (9, .i ((planA n flows bores need).2.1)), (10, .i ((planA n flows bores need).2.2)), (11, .ls 10480), (12, .i ((planA n flows bores need).2.1)), (13, .i ((planA n flows bores need).2.2)), (14, .i ((zz : Nat) : Int))], [(3, some (plans_frK3 bores)), (1005, some (.blk 28 [.ls 3, .i need])), (1028, some (plans_frK4 bores)), (10370, some (plans_frK7 n flows bores need)), (10480, some (plans_frK7 n flows bores need))]⟩) (fun zz => (zz ≤ bores.length)) (fun zz => bores.length - zz) 0 (by first | omega | rfl | assumption | (simp; done))
       (Ent.ren [] rfl rfl (by kernel_rfl) ⟨rfl, rfl, rfl, rfl, rfl, rfl, rfl, rfl, rfl, trivial⟩ (cro rfl (cbl rfl rfl (cve rfl (cve rfl (cve rfl trivial))))) (by kernel_rfl)) fun zz hp => ?_
   obtain ⟨i, rfl⟩ : ∃ x, x = zz := ⟨_, rfl⟩
   have hi := hp
   show AW _ E _ _ ⟨84, [1, 2, 3], [(5, .l (.ref 1005 0)), (7, .ls 1028), (8, .ls 10370), (9, .i ((planA n flows bores need).2.1)), (10, .i ((planA n flows bores need).2.2)), (11, .ls 10480), (12, .i ((planA n flows bores need).2.1)), (13, .i ((planA n flows bores need).2.2)), (14, .i ((i : Nat) : Int))], [(3, some (plans_frK3 bores)), (1005, some (.blk 28 [.ls 3, .i need])), (1028, some (plans_frK4 bores)), (10370, some (plans_frK7 n flows bores need)), (10480, some (plans_frK7 n flows bores need))]⟩
   refine aw_seq ?_
   refine aw_seq ?_
   refine aw_r []
    ⟨84, [1, 2, 3], [(5, .l (.ref 1005 0)), (7, .ls 1028), (8, .ls 10370), (9, .i ((planA n flows bores need).2.1)), (10, .i ((planA n flows bores need).2.2)), (11, .ls 10480), (12, .i ((planA n flows bores need).2.1)), (13, .i ((planA n flows bores need).2.2)), (14, .i ((i : Nat) : Int)), (55, .b (decide (((i : Nat) : Int) < ((bores.length : Nat) : Int))))], [(3, some (plans_frK3 bores)), (1005, some (.blk 28 [.ls 3, .i need])), (1028, some (plans_frK4 bores)), (10370, some (plans_frK7 n flows bores need)), (10480, some (plans_frK7 n flows bores need))]⟩
    [] (by kernel_rfl) trivial ?_
   refine aw_cond (b := decide (((i : Nat) : Int) < ((bores.length : Nat) : Int))) rfl (fun h3 => ?_) (fun h3 => ?_)
   ·
    have h3p : ((i : Nat) : Int) < ((bores.length : Nat) : Int) := dtr h3
    refine aw_skip ?_
    refine aw_seq ?_
    refine aw_block ?_
    refine aw_seq ?_
    have h4 : (decide ((ix bores i).size ≠ (ix bores i).size) || decide ((ix bores i).price ≠ (ix bores i).price)) = false := by simp
    refine aw_d [(2, .idx i), (7, .idx i), (9, .dec false)]
     ⟨84, [1, 2, 3], [(5, .l (.ref 1005 0)), (7, .ls 1028), (8, .ls 10370), (9, .i ((planA n flows bores need).2.1)), (10, .i ((planA n flows bores need).2.2)), (11, .ls 10480), (12, .i ((planA n flows bores need).2.1)), (13, .i ((planA n flows bores need).2.2)), (14, .i ((i : Nat) : Int)), (67, .b false)], [(3, some (plans_frK3 bores)), (1005, some (.blk 28 [.ls 3, .i need])), (1028, some (plans_frK4 bores)), (10370, some (plans_frK7 n flows bores need)), (10480, some (plans_frK7 n flows bores need))]⟩
     [((i : Nat) : Int) = ((i : Nat) : Int), i < bores.length, i < bores.length, ((i : Nat) : Int) = ((i : Nat) : Int), i < bores.length, i < bores.length, BinRun Try.prog .neq 38 (.tmp 61) (.tmp 66) (.agg #[.int .i64 ((ix bores i).size), .int .i64 ((ix bores i).price)]) (.agg #[.int .i64 ((ix bores i).size), .int .i64 ((ix bores i).price)]) (.bool false)] (by kernel_rfl) (by kernel_rfl) (al2 (by omega) (al2 (by omega) (al2 (by omega) (al2 (by omega) (al2 (by omega) (al2 (by omega) (al1 (bin_neq_bore ((ix bores i).size) ((ix bores i).price) ((ix bores i).size) ((ix bores i).price) h4)))))))) ?_
    refine aw_false rfl ?_
    refine aw_skip ?_
    refine aw_r [(1, .num (((i + 1) : Nat) : Int))]
     ⟨84, [1, 2, 3], [(5, .l (.ref 1005 0)), (7, .ls 1028), (8, .ls 10370), (9, .i ((planA n flows bores need).2.1)), (10, .i ((planA n flows bores need).2.2)), (11, .ls 10480), (12, .i ((planA n flows bores need).2.1)), (13, .i ((planA n flows bores need).2.2)), (14, .i (((i + 1) : Nat) : Int))], [(3, some (plans_frK3 bores)), (1005, some (.blk 28 [.ls 3, .i need])), (1028, some (plans_frK4 bores)), (10370, some (plans_frK7 n flows bores need)), (10480, some (plans_frK7 n flows bores need))]⟩
     [(((i : Nat) : Int) + 1) = (((i + 1) : Nat) : Int), -9223372036854775808 ≤ (((i + 1) : Nat) : Int) ∧ (((i + 1) : Nat) : Int) < 9223372036854775808] (by kernel_rfl) (al2 (by omega) (al1 (by omega))) ?_
    exact ⟨i + 1, (by first | omega | rfl | assumption | (simp; done)), (show bores.length - (i + 1) < bores.length - i by first | omega | rfl | assumption),
        (Ent.ren [] rfl rfl (by kernel_rfl) ⟨rfl, rfl, rfl, rfl, rfl, rfl, rfl, rfl, rfl, trivial⟩ (cro rfl (cbl rfl rfl (cve rfl (cve rfl (cve rfl trivial))))) (by kernel_rfl))⟩
   ·
    have h3p : ((bores.length : Nat) : Int) ≤ ((i : Nat) : Int) := dlt h3
    refine aw_exit (exit_then (exit_then (exit_in ?_)))
    refine aw_seq ?_
    have hpl : (planA n flows bores need).1.length ≤ 60 := planA_len n flows bores need
    have h5 : (decide ((planA n flows bores need).2.2 = (planA n flows bores need).2.2)) = true := by simp
    have h6 : (decide ((planA n flows bores need).2.1 = (planA n flows bores need).2.1)) = true := by simp
    have h7 : (decide (((planA n flows bores need).1) = ((planA n flows bores need).1))) = true := by simp
    refine aw_r [(3, .dec true), (8, .dec true), (11, .call [10370, 10480] (.b (decide (((planA n flows bores need).1) = ((planA n flows bores need).1)))) []), (13, .dec true), (14, .call [] (.b true) [])]
     ⟨84, [1, 2, 3], [(6, .b true)], []⟩
     [decide ((planA n flows bores need).2.2 = (planA n flows bores need).2.2) = true, decide ((planA n flows bores need).2.1 = (planA n flows bores need).2.1) = true, CallOK Try.prog 20 [.ls 10370, .ls 10480] [10370, 10480] [some (plans_frK7 n flows bores need), some (plans_frK7 n flows bores need)] (.b (decide (((planA n flows bores need).1) = ((planA n flows bores need).1)))) [], decide (((planA n flows bores need).1) = ((planA n flows bores need).1)) = true, CallOK Try.prog 15 [] [] [] (.b true) []] (by kernel_rfl) (al2 h5 (al2 h6 (al2 (CallFr.to (equal_fr ((planA n flows bores need).1) ((planA n flows bores need).1) (by omega) (by omega)) [(1, 10370), (2, 10480)] (by kernel_rfl) (by kernel_rfl) (by kernel_rfl) (by kernel_rfl) (by kernel_rfl) (dem_cons rfl (le_vec_ro rfl el_rfl) (dem_cons rfl (le_vec_ro rfl el_rfl) dem_nil))) (al2 h7 (al1 (CallFr.to (known_fr ) [] (by kernel_rfl) (by kernel_rfl) (by kernel_rfl) (by kernel_rfl) (by kernel_rfl) dem_nil)))))) ?_
    exact aw_ret ⟨.inr rfl, end_ok ⟨84, [1, 2, 3], [(6, .b true)], []⟩
        (Ent.ren [] rfl rfl (by kernel_rfl) ⟨rfl, trivial⟩ trivial (by kernel_rfl)) rfl (by kernel_rfl) wr_nil (by kernel_rfl)⟩
end Go.Proofs.Ytepibjfmeibgcaa
