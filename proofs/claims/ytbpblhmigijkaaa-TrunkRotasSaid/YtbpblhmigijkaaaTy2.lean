/- Structs and lists compared. -/
import Derived.Test.YtbpblhmigijkaaaTxa
namespace Go.Proofs.Ytbpblhmigijkaaa
open Go.RowKit
set_option linter.unusedVariables false
set_option linter.unusedSimpArgs false
theorem bin_eq_G {xo yo : Operand} (a0 a1 b0 b1 : Int) {r : Bool} (h : (decide (a0 = b0) && decide (a1 = b1)) = r) : BinRun Try.prog .eql 23 xo yo (.agg #[.int .i64 a0, .int .i64 a1]) (.agg #[.int .i64 b0, .int .i64 b1]) (.bool r) := by
 subst h
 intro w
 have h1 : Try.prog.eqGuardType Try.prog.depth 23 = false := by kernel_rfl
 have h2 : Try.prog.stoodInHeld 23 = false := by kernel_rfl
 have h3 : Try.prog.underlying 23 = some (.struct (Try.prog.fieldsOf 23)) := by kernel_rfl
 have h4 : Try.prog.underlying 3 = some (.int .i64) := by kernel_rfl
 have h5 : (Try.prog.fieldsOf 23).toList = [⟨"Low", 3, 0, false, "", "", 0⟩, ⟨"High", 3, 1, false, "", "", 8⟩] := by kernel_rfl
 have p0 : ∀ w, (part 3 #[.int .i64 a0, .int .i64 a1] 0).run Try.prog w = .ok (.int .i64 a0) w := fun _ => by kernel_rfl
 have q0 : ∀ w, (part 3 #[.int .i64 b0, .int .i64 b1] 0).run Try.prog w = .ok (.int .i64 b0) w := fun _ => by kernel_rfl
 have p1 : ∀ w, (part 3 #[.int .i64 a0, .int .i64 a1] 1).run Try.prog w = .ok (.int .i64 a1) w := fun _ => by kernel_rfl
 have q1 : ∀ w, (part 3 #[.int .i64 b0, .int .i64 b1] 1).run Try.prog w = .ok (.int .i64 b1) w := fun _ => by kernel_rfl
 have g1 : ∀ w (u v : Int), (Op.equalIn 9999 3 (.int .i64 u) (.int .i64 v)).run Try.prog w = .ok (u == v) w := fun w u v => run_equalIn_int w 9998 _ _ _ u v h4
 have g2 : ∀ w, (Op.equalIn 10000 23 (.agg #[.int .i64 a0, .int .i64 a1]) (.agg #[.int .i64 b0, .int .i64 b1])).run Try.prog w = .ok ((a0 == b0) && (a1 == b1)) w := fun w => by
  rw [run_equalIn_agg w 9999 _ _ _ h3 h2, h5]
  simp only [Op.eqFields, Sem.run_bind, p0, q0, p1, q1, g1, Result.andThen_ok]
  cases e0 : (a0 == b0) <;> cases e1 : (a1 == b1) <;> simp [Sem.run_bind, p0, q0, p1, q1, g1, e0, e1]
 rw [Sem.run_bind, run_eqGuard_agg _ _ _ _ _ _ _ h1]
 simp only [Result.andThen_ok]
 rw [run_eql_struct, g2]
 by_cases e0 : a0 = b0 <;> by_cases e1 : a1 = b1 <;> simp [e0, e1, Result.andThen]
theorem bin_neq_S {xo yo : Operand} (a0 a1 b0 b1 : Int) {r : Bool} (h : (decide (a0 ≠ b0) || decide (a1 ≠ b1)) = r) : BinRun Try.prog .neq 72 xo yo (.agg #[.int .i64 a0, .int .i64 a1]) (.agg #[.int .i64 b0, .int .i64 b1]) (.bool r) := by
 subst h
 intro w
 have h1 : Try.prog.eqGuardType Try.prog.depth 72 = false := by kernel_rfl
 have h2 : Try.prog.stoodInHeld 72 = false := by kernel_rfl
 have h3 : Try.prog.underlying 72 = some (.struct (Try.prog.fieldsOf 72)) := by kernel_rfl
 have h4 : Try.prog.underlying 3 = some (.int .i64) := by kernel_rfl
 have h5 : (Try.prog.fieldsOf 72).toList = [⟨"Angle", 3, 0, false, "", "", 0⟩, ⟨"Height", 3, 1, false, "", "", 8⟩] := by kernel_rfl
 have p0 : ∀ w, (part 3 #[.int .i64 a0, .int .i64 a1] 0).run Try.prog w = .ok (.int .i64 a0) w := fun _ => by kernel_rfl
 have q0 : ∀ w, (part 3 #[.int .i64 b0, .int .i64 b1] 0).run Try.prog w = .ok (.int .i64 b0) w := fun _ => by kernel_rfl
 have p1 : ∀ w, (part 3 #[.int .i64 a0, .int .i64 a1] 1).run Try.prog w = .ok (.int .i64 a1) w := fun _ => by kernel_rfl
 have q1 : ∀ w, (part 3 #[.int .i64 b0, .int .i64 b1] 1).run Try.prog w = .ok (.int .i64 b1) w := fun _ => by kernel_rfl
 have g1 : ∀ w (u v : Int), (Op.equalIn 9999 3 (.int .i64 u) (.int .i64 v)).run Try.prog w = .ok (u == v) w := fun w u v => run_equalIn_int w 9998 _ _ _ u v h4
 have g2 : ∀ w, (Op.equalIn 10000 72 (.agg #[.int .i64 a0, .int .i64 a1]) (.agg #[.int .i64 b0, .int .i64 b1])).run Try.prog w = .ok ((a0 == b0) && (a1 == b1)) w := fun w => by
  rw [run_equalIn_agg w 9999 _ _ _ h3 h2, h5]
  simp only [Op.eqFields, Sem.run_bind, p0, q0, p1, q1, g1, Result.andThen_ok]
  cases e0 : (a0 == b0) <;> cases e1 : (a1 == b1) <;> simp [Sem.run_bind, p0, q0, p1, q1, g1, e0, e1]
 rw [Sem.run_bind, run_eqGuard_agg _ _ _ _ _ _ _ h1]
 simp only [Result.andThen_ok]
 rw [run_neq_struct, g2]
 by_cases e0 : a0 = b0 <;> by_cases e1 : a1 = b1 <;> simp [e0, e1, Result.andThen]
theorem bin_eq_S {xo yo : Operand} (a0 a1 b0 b1 : Int) {r : Bool} (h : (decide (a0 = b0) && decide (a1 = b1)) = r) : BinRun Try.prog .eql 72 xo yo (.agg #[.int .i64 a0, .int .i64 a1]) (.agg #[.int .i64 b0, .int .i64 b1]) (.bool r) := by
 subst h
 intro w
 have h1 : Try.prog.eqGuardType Try.prog.depth 72 = false := by kernel_rfl
 have h2 : Try.prog.stoodInHeld 72 = false := by kernel_rfl
 have h3 : Try.prog.underlying 72 = some (.struct (Try.prog.fieldsOf 72)) := by kernel_rfl
 have h4 : Try.prog.underlying 3 = some (.int .i64) := by kernel_rfl
 have h5 : (Try.prog.fieldsOf 72).toList = [⟨"Angle", 3, 0, false, "", "", 0⟩, ⟨"Height", 3, 1, false, "", "", 8⟩] := by kernel_rfl
 have p0 : ∀ w, (part 3 #[.int .i64 a0, .int .i64 a1] 0).run Try.prog w = .ok (.int .i64 a0) w := fun _ => by kernel_rfl
 have q0 : ∀ w, (part 3 #[.int .i64 b0, .int .i64 b1] 0).run Try.prog w = .ok (.int .i64 b0) w := fun _ => by kernel_rfl
 have p1 : ∀ w, (part 3 #[.int .i64 a0, .int .i64 a1] 1).run Try.prog w = .ok (.int .i64 a1) w := fun _ => by kernel_rfl
 have q1 : ∀ w, (part 3 #[.int .i64 b0, .int .i64 b1] 1).run Try.prog w = .ok (.int .i64 b1) w := fun _ => by kernel_rfl
 have g1 : ∀ w (u v : Int), (Op.equalIn 9999 3 (.int .i64 u) (.int .i64 v)).run Try.prog w = .ok (u == v) w := fun w u v => run_equalIn_int w 9998 _ _ _ u v h4
 have g2 : ∀ w, (Op.equalIn 10000 72 (.agg #[.int .i64 a0, .int .i64 a1]) (.agg #[.int .i64 b0, .int .i64 b1])).run Try.prog w = .ok ((a0 == b0) && (a1 == b1)) w := fun w => by
  rw [run_equalIn_agg w 9999 _ _ _ h3 h2, h5]
  simp only [Op.eqFields, Sem.run_bind, p0, q0, p1, q1, g1, Result.andThen_ok]
  cases e0 : (a0 == b0) <;> cases e1 : (a1 == b1) <;> simp [Sem.run_bind, p0, q0, p1, q1, g1, e0, e1]
 rw [Sem.run_bind, run_eqGuard_agg _ _ _ _ _ _ _ h1]
 simp only [Result.andThen_ok]
 rw [run_eql_struct, g2]
 by_cases e0 : a0 = b0 <;> by_cases e1 : a1 = b1 <;> simp [e0, e1, Result.andThen]
def spotsS_frH1 (l : List Spt) : List (Nat × Option Cn) := [(1, some (.ro 2 l.length (Lst eS l))), (2, some (.ro 2 l.length (Lst eS l)))]
set_option maxRecDepth 100000 in
theorem spotsS_fr (l : List Spt) (hl : l.length ≤ 1000000) : CallFr Try.prog 35 [.ls 1, .ls 2] [1, 2] [some (.ro 2 l.length (Lst eS l)), some (.ro 2 l.length (Lst eS l))] (.b true) [] := by
 refine callFr_of (fn := Try.f35) (by kernel_rfl) rfl (by kernel_rfl) (by kernel_rfl) fun E => ?_
 refine aw_ent (T := ⟨26, [1, 2], [(0, .ls 1), (1, .ls 2)], (spotsS_frH1 l)⟩) (Ent.refl _) ?_
 apply aw_seq
 refine awr []
  ⟨26, [1, 2], [(0, .ls 1), (1, .ls 2)], (spotsS_frH1 l)⟩
  [] trivial ?_
 apply aw_seq
 apply aw_seq
 refine awr []
  ⟨26, [1, 2], [(0, .ls 1), (1, .ls 2), (10, .b (decide ((l.length : Int) ≠ (l.length : Int))))], (spotsS_frH1 l)⟩
  [] trivial ?_
 have h1 : (decide ((l.length : Int) ≠ (l.length : Int))) = false := by simp
 refine aw_cond (b := decide ((l.length : Int) ≠ (l.length : Int))) rfl (fun h => Bool.noConfusion (h1.symm.trans h)) (fun _ => ?_)
 apply aw_skip
 apply aw_seq
 apply aw_seq
 refine awr []
  ⟨26, [1, 2], [(0, .ls 1), (1, .ls 2), (5, .i 0)], (spotsS_frH1 l)⟩
  [] trivial ?_
 apply aw_block
 refine aw_loop (ι := Nat) (fun zz => ⟨26, [1, 2], [(0, .ls 1), (1, .ls 2), (5, .i (zz : Int))], (spotsS_frH1 l)⟩) (fun zz => (zz ≤ l.length)) (fun zz => l.length - zz) 0 (by first | omega | rfl | assumption | (simp; done))
     (enr [] ⟨rfl, rfl, rfl, trivial⟩ (cro rfl (cro rfl trivial))) fun zz hp => ?_
 obtain ⟨i, rfl⟩ : ∃ x, x = zz := ⟨_, rfl⟩
 have hiL := hp
 show AW _ E _ _ ⟨26, [1, 2], [(0, .ls 1), (1, .ls 2), (5, .i (i : Int))], (spotsS_frH1 l)⟩
 apply aw_seq
 apply aw_seq
 refine awr []
  ⟨26, [1, 2], [(0, .ls 1), (1, .ls 2), (5, .i (i : Int)), (14, .b (decide ((i : Int) < (l.length : Int))))], (spotsS_frH1 l)⟩
  [] trivial ?_
 refine aw_cond (b := decide ((i : Int) < (l.length : Int))) rfl (fun h2 => ?_) (fun h2 => ?_)
 ·
  have h2p : (i : Int) < (l.length : Int) := dtr h2
  apply aw_skip
  apply aw_seq
  apply aw_block
  apply aw_seq
  have h3 : (decide ((ix l i).angle ≠ (ix l i).angle) || decide ((ix l i).height ≠ (ix l i).height)) = false := by simp
  refine awd [(2, .idx i), (6, .idx i), (8, .dec false)]
   ⟨26, [1, 2], [(0, .ls 1), (1, .ls 2), (5, .i (i : Int)), (25, .b false)], (spotsS_frH1 l)⟩
   [(i : Int) = (i : Int), i < l.length, i < l.length, (i : Int) = (i : Int), i < l.length, i < l.length, BinRun Try.prog .neq 72 (.tmp 20) (.tmp 24) (.agg #[.int .i64 ((ix l i).angle), .int .i64 ((ix l i).height)]) (.agg #[.int .i64 ((ix l i).angle), .int .i64 ((ix l i).height)]) (.bool false)] (al2 (by omega) (al2 (by omega) (al2 (by omega) (al2 (by omega) (al2 (by omega) (al2 (by omega) (al1 (bin_neq_S ((ix l i).angle) ((ix l i).height) ((ix l i).angle) ((ix l i).height) h3)))))))) ?_
  refine aw_false rfl ?_
  apply aw_skip
  refine awr [(1, .num (((i + 1) : Nat) : Int))]
   ⟨26, [1, 2], [(0, .ls 1), (1, .ls 2), (5, .i (((i + 1) : Nat) : Int))], (spotsS_frH1 l)⟩
   [((i : Int) + 1) = (((i + 1) : Nat) : Int), -9223372036854775808 ≤ (((i + 1) : Nat) : Int) ∧ (((i + 1) : Nat) : Int) < 9223372036854775808] (al2 (by omega) (al1 (by omega))) ?_
  exact ⟨(i + 1), (by first | omega | rfl | assumption | (simp; done)), (show l.length - (i + 1) < l.length - i by first | omega | rfl | assumption),
      (enr [] ⟨rfl, rfl, rfl, trivial⟩ (cro rfl (cro rfl trivial)))⟩
 ·
  have h2p : (l.length : Int) ≤ (i : Int) := dlt h2
  refine aw_exit (exit_then (exit_then (exit_in ?_)))
  apply aw_seq
  refine awr []
   ⟨26, [1, 2], [(4, .b true)], []⟩
   [] trivial ?_
  exact aw_ret ⟨.inr rfl, eok ⟨26, [1, 2], [(4, .b true)], []⟩
      (enr [] ⟨rfl, trivial⟩ trivial) wr_nil⟩
end Go.Proofs.Ytbpblhmigijkaaa
