/- Structs and lists compared. -/
import Derived.Test.YtbpblhmigijkaaaTxa
namespace Go.Proofs.Ytbpblhmigijkaaa
open Go.RowKit
set_option linter.unusedVariables false
set_option linter.unusedSimpArgs false
theorem bin_neq_G {xo yo : Operand} (a0 a1 b0 b1 : Int) {r : Bool} (h : (decide (a0 ≠ b0) || decide (a1 ≠ b1)) = r) : BinRun Try.prog .neq 23 xo yo (.agg #[.int .i64 a0, .int .i64 a1]) (.agg #[.int .i64 b0, .int .i64 b1]) (.bool r) := by
 subst h
 intro w
 have h1 : Try.prog.eqGuardType Try.prog.depth 23 = false := by kernel_rfl
 have h2 : Try.prog.stoodInHeld 23 = false := by kernel_rfl
 have h3 : Try.prog.underlying 23 = some (.struct (Try.prog.fieldsOf 23)) := by kernel_rfl
 have h4 : Try.prog.underlying 3 = some (.int .i64) := by kernel_rfl
 have h5 : (Try.prog.fieldsOf 23).toList = [⟨"Low", 3, 0, false, "", "", 0⟩, ⟨"High", 3, 1, false, "", "", 8⟩] := by kernel_rfl
 have p0 : ∀ w, (part 3 #[.int .i64 a0, .int .i64 a1] 0).run Try.prog w = .ok (.int .i64 a0) w := fun _ => by kernel_rfl
 have q0 : ∀ w, (part 3 #[.int .i64 b0, .int .i64 b1] 0).run Try.prog w = .ok (.int .i64 b0) w := fun _ => by kernel_rfl
 have p1 : ∀ w, (part 3 #[.int .i64 a0, .int .i64 a1] 1).run Try.prog w = .ok (.int .i64 a1) w := fun _ => by kernel_rfl
 have q1 : ∀ w, (part 3 #[.int .i64 b0, .int .i64 b1] 1).run Try.prog w = .ok (.int .i64 b1) w := fun _ => by kernel_rfl
 have g1 : ∀ w (u v : Int), (Op.equalIn 9999 3 (.int .i64 u) (.int .i64 v)).run Try.prog w = .ok (u == v) w := fun w u v => run_equalIn_int w 9998 _ _ _ u v h4
 have g2 : ∀ w, (Op.equalIn 10000 23 (.agg #[.int .i64 a0, .int .i64 a1]) (.agg #[.int .i64 b0, .int .i64 b1])).run Try.prog w = .ok ((a0 == b0) && (a1 == b1)) w := fun w => by
  rw [run_equalIn_agg w 9999 _ _ _ h3 h2, h5]
  simp only [Op.eqFields, Sem.run_bind, p0, q0, p1, q1, g1, Result.andThen_ok]
  cases e0 : (a0 == b0) <;> cases e1 : (a1 == b1) <;> simp [Sem.run_bind, p0, q0, p1, q1, g1, e0, e1]
 rw [Sem.run_bind, run_eqGuard_agg _ _ _ _ _ _ _ h1]
 simp only [Result.andThen_ok]
 rw [run_neq_struct, g2]
 by_cases e0 : a0 = b0 <;> by_cases e1 : a1 = b1 <;> simp [e0, e1, Result.andThen]
theorem bin_eq_G {xo yo : Operand} (a0 a1 b0 b1 : Int) {r : Bool} (h : (decide (a0 = b0) && decide (a1 = b1)) = r) : BinRun Try.prog .eql 23 xo yo (.agg #[.int .i64 a0, .int .i64 a1]) (.agg #[.int .i64 b0, .int .i64 b1]) (.bool r) := by
 subst h
 intro w
 have h1 : Try.prog.eqGuardType Try.prog.depth 23 = false := by kernel_rfl
 have h2 : Try.prog.stoodInHeld 23 = false := by kernel_rfl
 have h3 : Try.prog.underlying 23 = some (.struct (Try.prog.fieldsOf 23)) := by kernel_rfl
 have h4 : Try.prog.underlying 3 = some (.int .i64) := by kernel_rfl
 have h5 : (Try.prog.fieldsOf 23).toList = [⟨"Low", 3, 0, false, "", "", 0⟩, ⟨"High", 3, 1, false, "", "", 8⟩] := by kernel_rfl
 have p0 : ∀ w, (part 3 #[.int .i64 a0, .int .i64 a1] 0).run Try.prog w = .ok (.int .i64 a0) w := fun _ => by kernel_rfl
 have q0 : ∀ w, (part 3 #[.int .i64 b0, .int .i64 b1] 0).run Try.prog w = .ok (.int .i64 b0) w := fun _ => by kernel_rfl
 have p1 : ∀ w, (part 3 #[.int .i64 a0, .int .i64 a1] 1).run Try.prog w = .ok (.int .i64 a1) w := fun _ => by kernel_rfl
 have q1 : ∀ w, (part 3 #[.int .i64 b0, .int .i64 b1] 1).run Try.prog w = .ok (.int .i64 b1) w := fun _ => by kernel_rfl
 have g1 : ∀ w (u v : Int), (Op.equalIn 9999 3 (.int .i64 u) (.int .i64 v)).run Try.prog w = .ok (u == v) w := fun w u v => run_equalIn_int w 9998 _ _ _ u v h4
 have g2 : ∀ w, (Op.equalIn 10000 23 (.agg #[.int .i64 a0, .int .i64 a1]) (.agg #[.int .i64 b0, .int .i64 b1])).run Try.prog w = .ok ((a0 == b0) && (a1 == b1)) w := fun w => by
  rw [run_equalIn_agg w 9999 _ _ _ h3 h2, h5]
  simp only [Op.eqFields, Sem.run_bind, p0, q0, p1, q1, g1, Result.andThen_ok]
  cases e0 : (a0 == b0) <;> cases e1 : (a1 == b1) <;> simp [Sem.run_bind, p0, q0, p1, q1, g1, e0, e1]
 rw [Sem.run_bind, run_eqGuard_agg _ _ _ _ _ _ _ h1]
 simp only [Result.andThen_ok]
 rw [run_eql_struct, g2]
 by_cases e0 : a0 = b0 <;> by_cases e1 : a1 = b1 <;> simp [e0, e1, Result.andThen]
theorem bin_neq_Z {xo yo : Operand} (a0 a1 b0 b1 : Int) {r : Bool} (h : (decide (a0 ≠ b0) || decide (a1 ≠ b1)) = r) : BinRun Try.prog .neq 45 xo yo (.agg #[.int .i64 a0, .int .i64 a1]) (.agg #[.int .i64 b0, .int .i64 b1]) (.bool r) := by
 subst h
 intro w
 have h1 : Try.prog.eqGuardType Try.prog.depth 45 = false := by kernel_rfl
 have h2 : Try.prog.stoodInHeld 45 = false := by kernel_rfl
 have h3 : Try.prog.underlying 45 = some (.struct (Try.prog.fieldsOf 45)) := by kernel_rfl
 have h4 : Try.prog.underlying 3 = some (.int .i64) := by kernel_rfl
 have h5 : (Try.prog.fieldsOf 45).toList = [⟨"Girth", 3, 0, false, "", "", 0⟩, ⟨"Taps", 3, 1, false, "", "", 8⟩] := by kernel_rfl
 have p0 : ∀ w, (part 3 #[.int .i64 a0, .int .i64 a1] 0).run Try.prog w = .ok (.int .i64 a0) w := fun _ => by kernel_rfl
 have q0 : ∀ w, (part 3 #[.int .i64 b0, .int .i64 b1] 0).run Try.prog w = .ok (.int .i64 b0) w := fun _ => by kernel_rfl
 have p1 : ∀ w, (part 3 #[.int .i64 a0, .int .i64 a1] 1).run Try.prog w = .ok (.int .i64 a1) w := fun _ => by kernel_rfl
 have q1 : ∀ w, (part 3 #[.int .i64 b0, .int .i64 b1] 1).run Try.prog w = .ok (.int .i64 b1) w := fun _ => by kernel_rfl
 have g1 : ∀ w (u v : Int), (Op.equalIn 9999 3 (.int .i64 u) (.int .i64 v)).run Try.prog w = .ok (u == v) w := fun w u v => run_equalIn_int w 9998 _ _ _ u v h4
 have g2 : ∀ w, (Op.equalIn 10000 45 (.agg #[.int .i64 a0, .int .i64 a1]) (.agg #[.int .i64 b0, .int .i64 b1])).run Try.prog w = .ok ((a0 == b0) && (a1 == b1)) w := fun w => by
  rw [run_equalIn_agg w 9999 _ _ _ h3 h2, h5]
  simp only [Op.eqFields, Sem.run_bind, p0, q0, p1, q1, g1, Result.andThen_ok]
  cases e0 : (a0 == b0) <;> cases e1 : (a1 == b1) <;> simp [Sem.run_bind, p0, q0, p1, q1, g1, e0, e1]
 rw [Sem.run_bind, run_eqGuard_agg _ _ _ _ _ _ _ h1]
 simp only [Result.andThen_ok]
 rw [run_neq_struct, g2]
 by_cases e0 : a0 = b0 <;> by_cases e1 : a1 = b1 <;> simp [e0, e1, Result.andThen]
theorem bin_eq_Z {xo yo : Operand} (a0 a1 b0 b1 : Int) {r : Bool} (h : (decide (a0 = b0) && decide (a1 = b1)) = r) : BinRun Try.prog .eql 45 xo yo (.agg #[.int .i64 a0, .int .i64 a1]) (.agg #[.int .i64 b0, .int .i64 b1]) (.bool r) := by
 subst h
 intro w
 have h1 : Try.prog.eqGuardType Try.prog.depth 45 = false := by kernel_rfl
 have h2 : Try.prog.stoodInHeld 45 = false := by kernel_rfl
 have h3 : Try.prog.underlying 45 = some (.struct (Try.prog.fieldsOf 45)) := by kernel_rfl
 have h4 : Try.prog.underlying 3 = some (.int .i64) := by kernel_rfl
 have h5 : (Try.prog.fieldsOf 45).toList = [⟨"Girth", 3, 0, false, "", "", 0⟩, ⟨"Taps", 3, 1, false, "", "", 8⟩] := by kernel_rfl
 have p0 : ∀ w, (part 3 #[.int .i64 a0, .int .i64 a1] 0).run Try.prog w = .ok (.int .i64 a0) w := fun _ => by kernel_rfl
 have q0 : ∀ w, (part 3 #[.int .i64 b0, .int .i64 b1] 0).run Try.prog w = .ok (.int .i64 b0) w := fun _ => by kernel_rfl
 have p1 : ∀ w, (part 3 #[.int .i64 a0, .int .i64 a1] 1).run Try.prog w = .ok (.int .i64 a1) w := fun _ => by kernel_rfl
 have q1 : ∀ w, (part 3 #[.int .i64 b0, .int .i64 b1] 1).run Try.prog w = .ok (.int .i64 b1) w := fun _ => by kernel_rfl
 have g1 : ∀ w (u v : Int), (Op.equalIn 9999 3 (.int .i64 u) (.int .i64 v)).run Try.prog w = .ok (u == v) w := fun w u v => run_equalIn_int w 9998 _ _ _ u v h4
 have g2 : ∀ w, (Op.equalIn 10000 45 (.agg #[.int .i64 a0, .int .i64 a1]) (.agg #[.int .i64 b0, .int .i64 b1])).run Try.prog w = .ok ((a0 == b0) && (a1 == b1)) w := fun w => by
  rw [run_equalIn_agg w 9999 _ _ _ h3 h2, h5]
  simp only [Op.eqFields, Sem.run_bind, p0, q0, p1, q1, g1, Result.andThen_ok]
  cases e0 : (a0 == b0) <;> cases e1 : (a1 == b1) <;> simp [Sem.run_bind, p0, q0, p1, q1, g1, e0, e1]
 rw [Sem.run_bind, run_eqGuard_agg _ _ _ _ _ _ _ h1]
 simp only [Result.andThen_ok]
 rw [run_eql_struct, g2]
 by_cases e0 : a0 = b0 <;> by_cases e1 : a1 = b1 <;> simp [e0, e1, Result.andThen]
theorem bin_neq_S {xo yo : Operand} (a0 a1 b0 b1 : Int) {r : Bool} (h : (decide (a0 ≠ b0) || decide (a1 ≠ b1)) = r) : BinRun Try.prog .neq 72 xo yo (.agg #[.int .i64 a0, .int .i64 a1]) (.agg #[.int .i64 b0, .int .i64 b1]) (.bool r) := by
 subst h
 intro w
 have h1 : Try.prog.eqGuardType Try.prog.depth 72 = false := by kernel_rfl
 have h2 : Try.prog.stoodInHeld 72 = false := by kernel_rfl
 have h3 : Try.prog.underlying 72 = some (.struct (Try.prog.fieldsOf 72)) := by kernel_rfl
 have h4 : Try.prog.underlying 3 = some (.int .i64) := by kernel_rfl
 have h5 : (Try.prog.fieldsOf 72).toList = [⟨"Angle", 3, 0, false, "", "", 0⟩, ⟨"Height", 3, 1, false, "", "", 8⟩] := by kernel_rfl
 have p0 : ∀ w, (part 3 #[.int .i64 a0, .int .i64 a1] 0).run Try.prog w = .ok (.int .i64 a0) w := fun _ => by kernel_rfl
 have q0 : ∀ w, (part 3 #[.int .i64 b0, .int .i64 b1] 0).run Try.prog w = .ok (.int .i64 b0) w := fun _ => by kernel_rfl
 have p1 : ∀ w, (part 3 #[.int .i64 a0, .int .i64 a1] 1).run Try.prog w = .ok (.int .i64 a1) w := fun _ => by kernel_rfl
 have q1 : ∀ w, (part 3 #[.int .i64 b0, .int .i64 b1] 1).run Try.prog w = .ok (.int .i64 b1) w := fun _ => by kernel_rfl
 have g1 : ∀ w (u v : Int), (Op.equalIn 9999 3 (.int .i64 u) (.int .i64 v)).run Try.prog w = .ok (u == v) w := fun w u v => run_equalIn_int w 9998 _ _ _ u v h4
 have g2 : ∀ w, (Op.equalIn 10000 72 (.agg #[.int .i64 a0, .int .i64 a1]) (.agg #[.int .i64 b0, .int .i64 b1])).run Try.prog w = .ok ((a0 == b0) && (a1 == b1)) w := fun w => by
  rw [run_equalIn_agg w 9999 _ _ _ h3 h2, h5]
  simp only [Op.eqFields, Sem.run_bind, p0, q0, p1, q1, g1, Result.andThen_ok]
  cases e0 : (a0 == b0) <;> cases e1 : (a1 == b1) <;> simp [Sem.run_bind, p0, q0, p1, q1, g1, e0, e1]
 rw [Sem.run_bind, run_eqGuard_agg _ _ _ _ _ _ _ h1]
 simp only [Result.andThen_ok]
 rw [run_neq_struct, g2]
 by_cases e0 : a0 = b0 <;> by_cases e1 : a1 = b1 <;> simp [e0, e1, Result.andThen]
theorem bin_eq_S {xo yo : Operand} (a0 a1 b0 b1 : Int) {r : Bool} (h : (decide (a0 = b0) && decide (a1 = b1)) = r) : BinRun Try.prog .eql 72 xo yo (.agg #[.int .i64 a0, .int .i64 a1]) (.agg #[.int .i64 b0, .int .i64 b1]) (.bool r) := by
 subst h
 intro w
 have h1 : Try.prog.eqGuardType Try.prog.depth 72 = false := by kernel_rfl
 have h2 : Try.prog.stoodInHeld 72 = false := by kernel_rfl
 have h3 : Try.prog.underlying 72 = some (.struct (Try.prog.fieldsOf 72)) := by kernel_rfl
 have h4 : Try.prog.underlying 3 = some (.int .i64) := by kernel_rfl
 have h5 : (Try.prog.fieldsOf 72).toList = [⟨"Angle", 3, 0, false, "", "", 0⟩, ⟨"Height", 3, 1, false, "", "", 8⟩] := by kernel_rfl
 have p0 : ∀ w, (part 3 #[.int .i64 a0, .int .i64 a1] 0).run Try.prog w = .ok (.int .i64 a0) w := fun _ => by kernel_rfl
 have q0 : ∀ w, (part 3 #[.int .i64 b0, .int .i64 b1] 0).run Try.prog w = .ok (.int .i64 b0) w := fun _ => by kernel_rfl
 have p1 : ∀ w, (part 3 #[.int .i64 a0, .int .i64 a1] 1).run Try.prog w = .ok (.int .i64 a1) w := fun _ => by kernel_rfl
 have q1 : ∀ w, (part 3 #[.int .i64 b0, .int .i64 b1] 1).run Try.prog w = .ok (.int .i64 b1) w := fun _ => by kernel_rfl
 have g1 : ∀ w (u v : Int), (Op.equalIn 9999 3 (.int .i64 u) (.int .i64 v)).run Try.prog w = .ok (u == v) w := fun w u v => run_equalIn_int w 9998 _ _ _ u v h4
 have g2 : ∀ w, (Op.equalIn 10000 72 (.agg #[.int .i64 a0, .int .i64 a1]) (.agg #[.int .i64 b0, .int .i64 b1])).run Try.prog w = .ok ((a0 == b0) && (a1 == b1)) w := fun w => by
  rw [run_equalIn_agg w 9999 _ _ _ h3 h2, h5]
  simp only [Op.eqFields, Sem.run_bind, p0, q0, p1, q1, g1, Result.andThen_ok]
  cases e0 : (a0 == b0) <;> cases e1 : (a1 == b1) <;> simp [Sem.run_bind, p0, q0, p1, q1, g1, e0, e1]
 rw [Sem.run_bind, run_eqGuard_agg _ _ _ _ _ _ _ h1]
 simp only [Result.andThen_ok]
 rw [run_eql_struct, g2]
 by_cases e0 : a0 = b0 <;> by_cases e1 : a1 = b1 <;> simp [e0, e1, Result.andThen]
theorem bin_neq_H {xo yo : Operand} (a0 a1 a2 b0 b1 b2 : Int) {r : Bool} (h : (decide (a0 ≠ b0) || decide (a1 ≠ b1) || decide (a2 ≠ b2)) = r) : BinRun Try.prog .neq 74 xo yo (.agg #[.int .i64 a0, .int .i64 a1, .int .i64 a2]) (.agg #[.int .i64 b0, .int .i64 b1, .int .i64 b2]) (.bool r) := by
 subst h
 intro w
 have h1 : Try.prog.eqGuardType Try.prog.depth 74 = false := by kernel_rfl
 have h2 : Try.prog.stoodInHeld 74 = false := by kernel_rfl
 have h3 : Try.prog.underlying 74 = some (.struct (Try.prog.fieldsOf 74)) := by kernel_rfl
 have h4 : Try.prog.underlying 3 = some (.int .i64) := by kernel_rfl
 have h5 : (Try.prog.fieldsOf 74).toList = [⟨"Year", 3, 0, false, "", "", 0⟩, ⟨"Spot", 72, 1, false, "", "", 8⟩] := by kernel_rfl
 have s2 : Try.prog.stoodInHeld 72 = false := by kernel_rfl
 have s3 : Try.prog.underlying 72 = some (.struct (Try.prog.fieldsOf 72)) := by kernel_rfl
 have s5 : (Try.prog.fieldsOf 72).toList = [⟨"Angle", 3, 0, false, "", "", 0⟩, ⟨"Height", 3, 1, false, "", "", 8⟩] := by kernel_rfl
 have p0 : ∀ w, (part 3 #[.int .i64 a0, .int .i64 a1, .int .i64 a2] 0).run Try.prog w = .ok (.int .i64 a0) w := fun _ => by kernel_rfl
 have q0 : ∀ w, (part 3 #[.int .i64 b0, .int .i64 b1, .int .i64 b2] 0).run Try.prog w = .ok (.int .i64 b0) w := fun _ => by kernel_rfl
 have p1 : ∀ w, (part 72 #[.int .i64 a0, .int .i64 a1, .int .i64 a2] 1).run Try.prog w = .ok (.agg #[.int .i64 a1, .int .i64 a2]) w := fun _ => by kernel_rfl
 have q1 : ∀ w, (part 72 #[.int .i64 b0, .int .i64 b1, .int .i64 b2] 1).run Try.prog w = .ok (.agg #[.int .i64 b1, .int .i64 b2]) w := fun _ => by kernel_rfl
 have u0 : ∀ w, (part 3 #[.int .i64 a1, .int .i64 a2] 0).run Try.prog w = .ok (.int .i64 a1) w := fun _ => by kernel_rfl
 have v0 : ∀ w, (part 3 #[.int .i64 b1, .int .i64 b2] 0).run Try.prog w = .ok (.int .i64 b1) w := fun _ => by kernel_rfl
 have u1 : ∀ w, (part 3 #[.int .i64 a1, .int .i64 a2] 1).run Try.prog w = .ok (.int .i64 a2) w := fun _ => by kernel_rfl
 have v1 : ∀ w, (part 3 #[.int .i64 b1, .int .i64 b2] 1).run Try.prog w = .ok (.int .i64 b2) w := fun _ => by kernel_rfl
 have g1 : ∀ w (u v : Int), (Op.equalIn 9999 3 (.int .i64 u) (.int .i64 v)).run Try.prog w = .ok (u == v) w := fun w u v => run_equalIn_int w 9998 _ _ _ u v h4
 have g0 : ∀ w (u v : Int), (Op.equalIn 9998 3 (.int .i64 u) (.int .i64 v)).run Try.prog w = .ok (u == v) w := fun w u v => run_equalIn_int w 9997 _ _ _ u v h4
 have gs : ∀ w, (Op.equalIn 9999 72 (.agg #[.int .i64 a1, .int .i64 a2]) (.agg #[.int .i64 b1, .int .i64 b2])).run Try.prog w = .ok ((a1 == b1) && (a2 == b2)) w := fun w => by
  rw [run_equalIn_agg w 9998 _ _ _ s3 s2, s5]
  simp only [Op.eqFields, Sem.run_bind, u0, v0, u1, v1, g0, Result.andThen_ok]
  cases e1 : (a1 == b1) <;> cases e2 : (a2 == b2) <;> simp [Sem.run_bind, u0, v0, u1, v1, g0, e1, e2]
 have g2 : ∀ w, (Op.equalIn 10000 74 (.agg #[.int .i64 a0, .int .i64 a1, .int .i64 a2]) (.agg #[.int .i64 b0, .int .i64 b1, .int .i64 b2])).run Try.prog w = .ok ((a0 == b0) && ((a1 == b1) && (a2 == b2))) w := fun w => by
  rw [run_equalIn_agg w 9999 _ _ _ h3 h2, h5]
  simp only [Op.eqFields, Sem.run_bind, p0, q0, p1, q1, g1, gs, Result.andThen_ok]
  cases e0 : (a0 == b0) <;> cases e1 : (a1 == b1) <;> cases e2 : (a2 == b2) <;> simp [Sem.run_bind, p0, q0, g1, p1, q1, gs, e0, e1, e2]
 rw [Sem.run_bind, run_eqGuard_agg _ _ _ _ _ _ _ h1]
 simp only [Result.andThen_ok]
 rw [run_neq_struct, g2]
 by_cases e0 : a0 = b0 <;> by_cases e1 : a1 = b1 <;> by_cases e2 : a2 = b2 <;> simp [e0, e1, e2, Result.andThen]
theorem bin_eq_H {xo yo : Operand} (a0 a1 a2 b0 b1 b2 : Int) {r : Bool} (h : (decide (a0 = b0) && decide (a1 = b1) && decide (a2 = b2)) = r) : BinRun Try.prog .eql 74 xo yo (.agg #[.int .i64 a0, .int .i64 a1, .int .i64 a2]) (.agg #[.int .i64 b0, .int .i64 b1, .int .i64 b2]) (.bool r) := by
 subst h
 intro w
 have h1 : Try.prog.eqGuardType Try.prog.depth 74 = false := by kernel_rfl
 have h2 : Try.prog.stoodInHeld 74 = false := by kernel_rfl
 have h3 : Try.prog.underlying 74 = some (.struct (Try.prog.fieldsOf 74)) := by kernel_rfl
 have h4 : Try.prog.underlying 3 = some (.int .i64) := by kernel_rfl
 have h5 : (Try.prog.fieldsOf 74).toList = [⟨"Year", 3, 0, false, "", "", 0⟩, ⟨"Spot", 72, 1, false, "", "", 8⟩] := by kernel_rfl
 have s2 : Try.prog.stoodInHeld 72 = false := by kernel_rfl
 have s3 : Try.prog.underlying 72 = some (.struct (Try.prog.fieldsOf 72)) := by kernel_rfl
 have s5 : (Try.prog.fieldsOf 72).toList = [⟨"Angle", 3, 0, false, "", "", 0⟩, ⟨"Height", 3, 1, false, "", "", 8⟩] := by kernel_rfl
 have p0 : ∀ w, (part 3 #[.int .i64 a0, .int .i64 a1, .int .i64 a2] 0).run Try.prog w = .ok (.int .i64 a0) w := fun _ => by kernel_rfl
 have q0 : ∀ w, (part 3 #[.int .i64 b0, .int .i64 b1, .int .i64 b2] 0).run Try.prog w = .ok (.int .i64 b0) w := fun _ => by kernel_rfl
 have p1 : ∀ w, (part 72 #[.int .i64 a0, .int .i64 a1, .int .i64 a2] 1).run Try.prog w = .ok (.agg #[.int .i64 a1, .int .i64 a2]) w := fun _ => by kernel_rfl
 have q1 : ∀ w, (part 72 #[.int .i64 b0, .int .i64 b1, .int .i64 b2] 1).run Try.prog w = .ok (.agg #[.int .i64 b1, .int .i64 b2]) w := fun _ => by kernel_rfl
 have u0 : ∀ w, (part 3 #[.int .i64 a1, .int .i64 a2] 0).run Try.prog w = .ok (.int .i64 a1) w := fun _ => by kernel_rfl
 have v0 : ∀ w, (part 3 #[.int .i64 b1, .int .i64 b2] 0).run Try.prog w = .ok (.int .i64 b1) w := fun _ => by kernel_rfl
 have u1 : ∀ w, (part 3 #[.int .i64 a1, .int .i64 a2] 1).run Try.prog w = .ok (.int .i64 a2) w := fun _ => by kernel_rfl
 have v1 : ∀ w, (part 3 #[.int .i64 b1, .int .i64 b2] 1).run Try.prog w = .ok (.int .i64 b2) w := fun _ => by kernel_rfl
 have g1 : ∀ w (u v : Int), (Op.equalIn 9999 3 (.int .i64 u) (.int .i64 v)).run Try.prog w = .ok (u == v) w := fun w u v => run_equalIn_int w 9998 _ _ _ u v h4
 have g0 : ∀ w (u v : Int), (Op.equalIn 9998 3 (.int .i64 u) (.int .i64 v)).run Try.prog w = .ok (u == v) w := fun w u v => run_equalIn_int w 9997 _ _ _ u v h4
 have gs : ∀ w, (Op.equalIn 9999 72 (.agg #[.int .i64 a1, .int .i64 a2]) (.agg #[.int .i64 b1, .int .i64 b2])).run Try.prog w = .ok ((a1 == b1) && (a2 == b2)) w := fun w => by
  rw [run_equalIn_agg w 9998 _ _ _ s3 s2, s5]
  simp only [Op.eqFields, Sem.run_bind, u0, v0, u1, v1, g0, Result.andThen_ok]
  cases e1 : (a1 == b1) <;> cases e2 : (a2 == b2) <;> simp [Sem.run_bind, u0, v0, u1, v1, g0, e1, e2]
 have g2 : ∀ w, (Op.equalIn 10000 74 (.agg #[.int .i64 a0, .int .i64 a1, .int .i64 a2]) (.agg #[.int .i64 b0, .int .i64 b1, .int .i64 b2])).run Try.prog w = .ok ((a0 == b0) && ((a1 == b1) && (a2 == b2))) w := fun w => by
  rw [run_equalIn_agg w 9999 _ _ _ h3 h2, h5]
  simp only [Op.eqFields, Sem.run_bind, p0, q0, p1, q1, g1, gs, Result.andThen_ok]
  cases e0 : (a0 == b0) <;> cases e1 : (a1 == b1) <;> cases e2 : (a2 == b2) <;> simp [Sem.run_bind, p0, q0, g1, p1, q1, gs, e0, e1, e2]
 rw [Sem.run_bind, run_eqGuard_agg _ _ _ _ _ _ _ h1]
 simp only [Result.andThen_ok]
 rw [run_eql_struct, g2]
 by_cases e0 : a0 = b0 <;> by_cases e1 : a1 = b1 <;> by_cases e2 : a2 = b2 <;> simp [e0, e1, e2, Result.andThen]
def intsS_frH1 (l : List Int) : List (Nat × Option Cn) := [(1, some (.ro 1 l.length (Lst eI l))), (2, some (.ro 1 l.length (Lst eI l)))]
set_option maxRecDepth 100000 in
theorem intsS_fr (l : List Int) (hl : l.length ≤ 1000000) : CallFr Try.prog 40 [.ls 1, .ls 2] [1, 2] [some (.ro 1 l.length (Lst eI l)), some (.ro 1 l.length (Lst eI l))] (.b true) [] := by
 refine callFr_of (fn := Try.f40) (by kernel_rfl) rfl (by kernel_rfl) (by kernel_rfl) fun E => ?_
 refine aw_ent (T := ⟨26, [1, 2], [(0, .ls 1), (1, .ls 2)], (intsS_frH1 l)⟩) (Ent.refl _) ?_
 apply aw_seq
 refine awr []
  ⟨26, [1, 2], [(0, .ls 1), (1, .ls 2)], (intsS_frH1 l)⟩
  [] trivial ?_
 apply aw_seq
 apply aw_seq
 refine awr []
  ⟨26, [1, 2], [(0, .ls 1), (1, .ls 2), (10, .b (decide (((l.length : Nat) : Int) ≠ ((l.length : Nat) : Int))))], (intsS_frH1 l)⟩
  [] trivial ?_
 have h1 : (decide (((l.length : Nat) : Int) ≠ ((l.length : Nat) : Int))) = false := by simp
 refine aw_cond (b := decide (((l.length : Nat) : Int) ≠ ((l.length : Nat) : Int))) rfl (fun h => Bool.noConfusion (h1.symm.trans h)) (fun _ => ?_)
 apply aw_skip
 apply aw_seq
 apply aw_seq
 refine awr []
  ⟨26, [1, 2], [(0, .ls 1), (1, .ls 2), (5, .i 0)], (intsS_frH1 l)⟩
  [] trivial ?_
 apply aw_block
 refine aw_loop (ι := Nat) (fun zz => ⟨26, [1, 2], [(0, .ls 1), (1, .ls 2), (5, .i ((zz : Nat) : Int))], (intsS_frH1 l)⟩) (fun zz => (zz ≤ l.length)) (fun zz => l.length - zz) 0 (by first | omega | rfl | assumption | (simp; done))
     (enr [] ⟨rfl, rfl, rfl, trivial⟩ (cro rfl (cro rfl trivial))) fun zz hp => ?_
 obtain ⟨i, rfl⟩ : ∃ x, x = zz := ⟨_, rfl⟩
 have hiL := hp
 show AW _ E _ _ ⟨26, [1, 2], [(0, .ls 1), (1, .ls 2), (5, .i ((i : Nat) : Int))], (intsS_frH1 l)⟩
 apply aw_seq
 apply aw_seq
 refine awr []
  ⟨26, [1, 2], [(0, .ls 1), (1, .ls 2), (5, .i ((i : Nat) : Int)), (14, .b (decide (((i : Nat) : Int) < ((l.length : Nat) : Int))))], (intsS_frH1 l)⟩
  [] trivial ?_
 refine aw_cond (b := decide (((i : Nat) : Int) < ((l.length : Nat) : Int))) rfl (fun h2 => ?_) (fun h2 => ?_)
 ·
  have h2p : ((i : Nat) : Int) < ((l.length : Nat) : Int) := dtr h2
  apply aw_skip
  apply aw_seq
  apply aw_block
  apply aw_seq
  refine awd [(2, .idx i), (6, .idx i)]
   ⟨26, [1, 2], [(0, .ls 1), (1, .ls 2), (5, .i ((i : Nat) : Int)), (25, .b (decide ((ix l i) ≠ (ix l i))))], (intsS_frH1 l)⟩
   [((i : Nat) : Int) = ((i : Nat) : Int), i < l.length, i < l.length, ((i : Nat) : Int) = ((i : Nat) : Int), i < l.length, i < l.length] (al2 (by omega) (al2 (by omega) (al2 (by omega) (al2 (by omega) (al2 (by omega) (al1 (by omega))))))) ?_
  have h3 : (decide ((ix l i) ≠ (ix l i))) = false := by simp
  refine aw_cond (b := decide ((ix l i) ≠ (ix l i))) rfl (fun h => Bool.noConfusion (h3.symm.trans h)) (fun _ => ?_)
  apply aw_skip
  refine awr [(1, .num (((i + 1) : Nat) : Int))]
   ⟨26, [1, 2], [(0, .ls 1), (1, .ls 2), (5, .i (((i + 1) : Nat) : Int))], (intsS_frH1 l)⟩
   [(((i : Nat) : Int) + 1) = (((i + 1) : Nat) : Int), -9223372036854775808 ≤ (((i + 1) : Nat) : Int) ∧ (((i + 1) : Nat) : Int) < 9223372036854775808] (al2 (by omega) (al1 (by omega))) ?_
  exact ⟨(i + 1), (by first | omega | rfl | assumption | (simp; done)), (show l.length - (i + 1) < l.length - i by first | omega | rfl | assumption),
      (enr [] ⟨rfl, rfl, rfl, trivial⟩ (cro rfl (cro rfl trivial)))⟩
 ·
  have h2p : ((l.length : Nat) : Int) ≤ ((i : Nat) : Int) := dlt h2
  refine aw_exit (exit_then (exit_then (exit_in ?_)))
  apply aw_seq
  refine awr []
   ⟨26, [1, 2], [(4, .b true)], []⟩
   [] trivial ?_
  exact aw_ret ⟨.inr rfl, eok ⟨26, [1, 2], [(4, .b true)], []⟩
      (enr [] ⟨rfl, trivial⟩ trivial) wr_nil⟩
def rangesS_frH1 (l : List Rg) : List (Nat × Option Cn) := [(1, some (.ro 2 l.length (Lst eG l))), (2, some (.ro 2 l.length (Lst eG l)))]
set_option maxRecDepth 100000 in
theorem rangesS_fr (l : List Rg) (hl : l.length ≤ 1000000) : CallFr Try.prog 31 [.ls 1, .ls 2] [1, 2] [some (.ro 2 l.length (Lst eG l)), some (.ro 2 l.length (Lst eG l))] (.b true) [] := by
 refine callFr_of (fn := Try.f31) (by kernel_rfl) rfl (by kernel_rfl) (by kernel_rfl) fun E => ?_
 refine aw_ent (T := ⟨26, [1, 2], [(0, .ls 1), (1, .ls 2)], (rangesS_frH1 l)⟩) (Ent.refl _) ?_
 apply aw_seq
 refine awr []
  ⟨26, [1, 2], [(0, .ls 1), (1, .ls 2)], (rangesS_frH1 l)⟩
  [] trivial ?_
 apply aw_seq
 apply aw_seq
 refine awr []
  ⟨26, [1, 2], [(0, .ls 1), (1, .ls 2), (10, .b (decide (((l.length : Nat) : Int) ≠ ((l.length : Nat) : Int))))], (rangesS_frH1 l)⟩
  [] trivial ?_
 have h1 : (decide (((l.length : Nat) : Int) ≠ ((l.length : Nat) : Int))) = false := by simp
 refine aw_cond (b := decide (((l.length : Nat) : Int) ≠ ((l.length : Nat) : Int))) rfl (fun h => Bool.noConfusion (h1.symm.trans h)) (fun _ => ?_)
 apply aw_skip
 apply aw_seq
 apply aw_seq
 refine awr []
  ⟨26, [1, 2], [(0, .ls 1), (1, .ls 2), (5, .i 0)], (rangesS_frH1 l)⟩
  [] trivial ?_
 apply aw_block
 refine aw_loop (ι := Nat) (fun zz => ⟨26, [1, 2], [(0, .ls 1), (1, .ls 2), (5, .i ((zz : Nat) : Int))], (rangesS_frH1 l)⟩) (fun zz => (zz ≤ l.length)) (fun zz => l.length - zz) 0 (by first | omega | rfl | assumption | (simp; done))
     (enr [] ⟨rfl, rfl, rfl, trivial⟩ (cro rfl (cro rfl trivial))) fun zz hp => ?_
 obtain ⟨i, rfl⟩ : ∃ x, x = zz := ⟨_, rfl⟩
 have hiL := hp
 show AW _ E _ _ ⟨26, [1, 2], [(0, .ls 1), (1, .ls 2), (5, .i ((i : Nat) : Int))], (rangesS_frH1 l)⟩
 apply aw_seq
 apply aw_seq
 refine awr []
  ⟨26, [1, 2], [(0, .ls 1), (1, .ls 2), (5, .i ((i : Nat) : Int)), (14, .b (decide (((i : Nat) : Int) < ((l.length : Nat) : Int))))], (rangesS_frH1 l)⟩
  [] trivial ?_
 refine aw_cond (b := decide (((i : Nat) : Int) < ((l.length : Nat) : Int))) rfl (fun h2 => ?_) (fun h2 => ?_)
 ·
  have h2p : ((i : Nat) : Int) < ((l.length : Nat) : Int) := dtr h2
  apply aw_skip
  apply aw_seq
  apply aw_block
  apply aw_seq
  have h3 : (decide ((ix l i).low ≠ (ix l i).low) || decide ((ix l i).high ≠ (ix l i).high)) = false := by simp
  refine awd [(2, .idx i), (6, .idx i), (8, .dec false)]
   ⟨26, [1, 2], [(0, .ls 1), (1, .ls 2), (5, .i ((i : Nat) : Int)), (25, .b false)], (rangesS_frH1 l)⟩
   [((i : Nat) : Int) = ((i : Nat) : Int), i < l.length, i < l.length, ((i : Nat) : Int) = ((i : Nat) : Int), i < l.length, i < l.length, BinRun Try.prog .neq 23 (.tmp 20) (.tmp 24) (.agg #[.int .i64 ((ix l i).low), .int .i64 ((ix l i).high)]) (.agg #[.int .i64 ((ix l i).low), .int .i64 ((ix l i).high)]) (.bool false)] (al2 (by omega) (al2 (by omega) (al2 (by omega) (al2 (by omega) (al2 (by omega) (al2 (by omega) (al1 (bin_neq_G ((ix l i).low) ((ix l i).high) ((ix l i).low) ((ix l i).high) h3)))))))) ?_
  refine aw_false rfl ?_
  apply aw_skip
  refine awr [(1, .num (((i + 1) : Nat) : Int))]
   ⟨26, [1, 2], [(0, .ls 1), (1, .ls 2), (5, .i (((i + 1) : Nat) : Int))], (rangesS_frH1 l)⟩
   [(((i : Nat) : Int) + 1) = (((i + 1) : Nat) : Int), -9223372036854775808 ≤ (((i + 1) : Nat) : Int) ∧ (((i + 1) : Nat) : Int) < 9223372036854775808] (al2 (by omega) (al1 (by omega))) ?_
  exact ⟨(i + 1), (by first | omega | rfl | assumption | (simp; done)), (show l.length - (i + 1) < l.length - i by first | omega | rfl | assumption),
      (enr [] ⟨rfl, rfl, rfl, trivial⟩ (cro rfl (cro rfl trivial)))⟩
 ·
  have h2p : ((l.length : Nat) : Int) ≤ ((i : Nat) : Int) := dlt h2
  refine aw_exit (exit_then (exit_then (exit_in ?_)))
  apply aw_seq
  refine awr []
   ⟨26, [1, 2], [(4, .b true)], []⟩
   [] trivial ?_
  exact aw_ret ⟨.inr rfl, eok ⟨26, [1, 2], [(4, .b true)], []⟩
      (enr [] ⟨rfl, trivial⟩ trivial) wr_nil⟩
def spotsS_frH1 (l : List Spt) : List (Nat × Option Cn) := [(1, some (.ro 2 l.length (Lst eS l))), (2, some (.ro 2 l.length (Lst eS l)))]
set_option maxRecDepth 100000 in
theorem spotsS_fr (l : List Spt) (hl : l.length ≤ 1000000) : CallFr Try.prog 35 [.ls 1, .ls 2] [1, 2] [some (.ro 2 l.length (Lst eS l)), some (.ro 2 l.length (Lst eS l))] (.b true) [] := by
 refine callFr_of (fn := Try.f35) (by kernel_rfl) rfl (by kernel_rfl) (by kernel_rfl) fun E => ?_
 refine aw_ent (T := ⟨26, [1, 2], [(0, .ls 1), (1, .ls 2)], (spotsS_frH1 l)⟩) (Ent.refl _) ?_
 apply aw_seq
 refine awr []
  ⟨26, [1, 2], [(0, .ls 1), (1, .ls 2)], (spotsS_frH1 l)⟩
  [] trivial ?_
 apply aw_seq
 apply aw_seq
 refine awr []
  ⟨26, [1, 2], [(0, .ls 1), (1, .ls 2), (10, .b (decide (((l.length : Nat) : Int) ≠ ((l.length : Nat) : Int))))], (spotsS_frH1 l)⟩
  [] trivial ?_
 have h1 : (decide (((l.length : Nat) : Int) ≠ ((l.length : Nat) : Int))) = false := by simp
 refine aw_cond (b := decide (((l.length : Nat) : Int) ≠ ((l.length : Nat) : Int))) rfl (fun h => Bool.noConfusion (h1.symm.trans h)) (fun _ => ?_)
 apply aw_skip
 apply aw_seq
 apply aw_seq
 refine awr []
  ⟨26, [1, 2], [(0, .ls 1), (1, .ls 2), (5, .i 0)], (spotsS_frH1 l)⟩
  [] trivial ?_
 apply aw_block
 refine aw_loop (ι := Nat) (fun zz => ⟨26, [1, 2], [(0, .ls 1), (1, .ls 2), (5, .i ((zz : Nat) : Int))], (spotsS_frH1 l)⟩) (fun zz => (zz ≤ l.length)) (fun zz => l.length - zz) 0 (by first | omega | rfl | assumption | (simp; done))
     (enr [] ⟨rfl, rfl, rfl, trivial⟩ (cro rfl (cro rfl trivial))) fun zz hp => ?_
 obtain ⟨i, rfl⟩ : ∃ x, x = zz := ⟨_, rfl⟩
 have hiL := hp
 show AW _ E _ _ ⟨26, [1, 2], [(0, .ls 1), (1, .ls 2), (5, .i ((i : Nat) : Int))], (spotsS_frH1 l)⟩
 apply aw_seq
 apply aw_seq
 refine awr []
  ⟨26, [1, 2], [(0, .ls 1), (1, .ls 2), (5, .i ((i : Nat) : Int)), (14, .b (decide (((i : Nat) : Int) < ((l.length : Nat) : Int))))], (spotsS_frH1 l)⟩
  [] trivial ?_
 refine aw_cond (b := decide (((i : Nat) : Int) < ((l.length : Nat) : Int))) rfl (fun h2 => ?_) (fun h2 => ?_)
 ·
  have h2p : ((i : Nat) : Int) < ((l.length : Nat) : Int) := dtr h2
  apply aw_skip
  apply aw_seq
  apply aw_block
  apply aw_seq
  have h3 : (decide ((ix l i).angle ≠ (ix l i).angle) || decide ((ix l i).height ≠ (ix l i).height)) = false := by simp
  refine awd [(2, .idx i), (6, .idx i), (8, .dec false)]
   ⟨26, [1, 2], [(0, .ls 1), (1, .ls 2), (5, .i ((i : Nat) : Int)), (25, .b false)], (spotsS_frH1 l)⟩
   [((i : Nat) : Int) = ((i : Nat) : Int), i < l.length, i < l.length, ((i : Nat) : Int) = ((i : Nat) : Int), i < l.length, i < l.length, BinRun Try.prog .neq 72 (.tmp 20) (.tmp 24) (.agg #[.int .i64 ((ix l i).angle), .int .i64 ((ix l i).height)]) (.agg #[.int .i64 ((ix l i).angle), .int .i64 ((ix l i).height)]) (.bool false)] (al2 (by omega) (al2 (by omega) (al2 (by omega) (al2 (by omega) (al2 (by omega) (al2 (by omega) (al1 (bin_neq_S ((ix l i).angle) ((ix l i).height) ((ix l i).angle) ((ix l i).height) h3)))))))) ?_
  refine aw_false rfl ?_
  apply aw_skip
  refine awr [(1, .num (((i + 1) : Nat) : Int))]
   ⟨26, [1, 2], [(0, .ls 1), (1, .ls 2), (5, .i (((i + 1) : Nat) : Int))], (spotsS_frH1 l)⟩
   [(((i : Nat) : Int) + 1) = (((i + 1) : Nat) : Int), -9223372036854775808 ≤ (((i + 1) : Nat) : Int) ∧ (((i + 1) : Nat) : Int) < 9223372036854775808] (al2 (by omega) (al1 (by omega))) ?_
  exact ⟨(i + 1), (by first | omega | rfl | assumption | (simp; done)), (show l.length - (i + 1) < l.length - i by first | omega | rfl | assumption),
      (enr [] ⟨rfl, rfl, rfl, trivial⟩ (cro rfl (cro rfl trivial)))⟩
 ·
  have h2p : ((l.length : Nat) : Int) ≤ ((i : Nat) : Int) := dlt h2
  refine aw_exit (exit_then (exit_then (exit_in ?_)))
  apply aw_seq
  refine awr []
   ⟨26, [1, 2], [(4, .b true)], []⟩
   [] trivial ?_
  exact aw_ret ⟨.inr rfl, eok ⟨26, [1, 2], [(4, .b true)], []⟩
      (enr [] ⟨rfl, trivial⟩ trivial) wr_nil⟩
def holesS_frA1 (t : TreeV) : SV := .agg [.i t.year, .i t.glo, .i t.ghi, .i t.wlo, .i t.whi, .i t.health, .ls 1]
def holesS_frA2 (t : TreeV) : SV := .agg [.i t.year, .i t.glo, .i t.ghi, .i t.wlo, .i t.whi, .i t.health, .ls 2]
def holesS_frK3 (t : TreeV) : Cn := .ro 3 t.holes.length (Lst eH t.holes)
def holesS_frK4 (t : TreeV) : Cn := .blk 26 [.i t.year, .i t.glo, .i t.ghi, .i t.wlo, .i t.whi, .i t.health, .ls 1]
def holesS_frK5 (t : TreeV) : Cn := .blk 26 [.i t.year, .i t.glo, .i t.ghi, .i t.wlo, .i t.whi, .i t.health, .ls 2]
def holesS_frH6 (t : TreeV) : List (Nat × Option Cn) := [(1, some (holesS_frK3 t)), (2, some (holesS_frK3 t)), (1002, some (holesS_frK4 t)), (1003, some (holesS_frK5 t))]
set_option maxRecDepth 100000 in
theorem holesS_fr (t : TreeV) (ht : t.holes.length ≤ 1000000) : CallFr Try.prog 21 [(holesS_frA1 t), (holesS_frA2 t)] [1, 2] [some (.ro 3 t.holes.length (Lst eH t.holes)), some (.ro 3 t.holes.length (Lst eH t.holes))] (.b true) [] := by
 refine callFr_of (fn := Try.f21) (by kernel_rfl) rfl (by kernel_rfl) (by kernel_rfl) fun E => ?_
 refine aw_ent (T := ⟨57, [1, 2], [(0, (holesS_frA1 t)), (1, (holesS_frA2 t))], [(1, some (holesS_frK3 t)), (2, some (holesS_frK3 t))]⟩) (Ent.refl _) ?_
 apply aw_seq
 refine awr [(0, .new 1002), (1, .new 1003)]
  ⟨57, [1, 2], [(2, .l (.ref 1002 0)), (3, .l (.ref 1003 0))], (holesS_frH6 t)⟩
  [] trivial ?_
 apply aw_seq
 apply aw_seq
 refine awr []
  ⟨57, [1, 2], [(2, .l (.ref 1002 0)), (3, .l (.ref 1003 0)), (12, .b (decide (((t.holes.length : Nat) : Int) ≠ ((t.holes.length : Nat) : Int))))], (holesS_frH6 t)⟩
  [] trivial ?_
 have h1 : (decide (((t.holes.length : Nat) : Int) ≠ ((t.holes.length : Nat) : Int))) = false := by simp
 refine aw_cond (b := decide (((t.holes.length : Nat) : Int) ≠ ((t.holes.length : Nat) : Int))) rfl (fun h => Bool.noConfusion (h1.symm.trans h)) (fun _ => ?_)
 apply aw_skip
 apply aw_seq
 apply aw_seq
 refine awr []
  ⟨57, [1, 2], [(2, .l (.ref 1002 0)), (3, .l (.ref 1003 0)), (5, .i 0)], (holesS_frH6 t)⟩
  [] trivial ?_
 apply aw_block
 refine aw_loop (ι := Nat) (fun zz => ⟨57, [1, 2], [(2, .l (.ref 1002 0)), (3, .l (.ref 1003 0)), (5, .i ((zz : Nat) : Int))], (holesS_frH6 t)⟩) (fun zz => (zz ≤ t.holes.length)) (fun zz => t.holes.length - zz) 0 (by first | omega | rfl | assumption | (simp; done))
     (enr [] ⟨rfl, rfl, rfl, trivial⟩ (cro rfl (cro rfl (cbl rfl rfl (cbl rfl rfl trivial))))) fun zz hp => ?_
 obtain ⟨i, rfl⟩ : ∃ x, x = zz := ⟨_, rfl⟩
 have hiL := hp
 show AW _ E _ _ ⟨57, [1, 2], [(2, .l (.ref 1002 0)), (3, .l (.ref 1003 0)), (5, .i ((i : Nat) : Int))], (holesS_frH6 t)⟩
 apply aw_seq
 apply aw_seq
 refine awr []
  ⟨57, [1, 2], [(2, .l (.ref 1002 0)), (3, .l (.ref 1003 0)), (5, .i ((i : Nat) : Int)), (17, .b (decide (((i : Nat) : Int) < ((t.holes.length : Nat) : Int))))], (holesS_frH6 t)⟩
  [] trivial ?_
 refine aw_cond (b := decide (((i : Nat) : Int) < ((t.holes.length : Nat) : Int))) rfl (fun h2 => ?_) (fun h2 => ?_)
 ·
  have h2p : ((i : Nat) : Int) < ((t.holes.length : Nat) : Int) := dtr h2
  apply aw_skip
  apply aw_seq
  apply aw_block
  apply aw_seq
  have h3 : (decide ((ix t.holes i).year ≠ (ix t.holes i).year) || decide ((ix t.holes i).angle ≠ (ix t.holes i).angle) || decide ((ix t.holes i).height ≠ (ix t.holes i).height)) = false := by simp
  refine awd [(3, .idx i), (8, .idx i), (10, .dec false)]
   ⟨57, [1, 2], [(2, .l (.ref 1002 0)), (3, .l (.ref 1003 0)), (5, .i ((i : Nat) : Int)), (30, .b false)], (holesS_frH6 t)⟩
   [((i : Nat) : Int) = ((i : Nat) : Int), i < t.holes.length, i < t.holes.length, ((i : Nat) : Int) = ((i : Nat) : Int), i < t.holes.length, i < t.holes.length, BinRun Try.prog .neq 74 (.tmp 24) (.tmp 29) (.agg #[.int .i64 ((ix t.holes i).year), .int .i64 ((ix t.holes i).angle), .int .i64 ((ix t.holes i).height)]) (.agg #[.int .i64 ((ix t.holes i).year), .int .i64 ((ix t.holes i).angle), .int .i64 ((ix t.holes i).height)]) (.bool false)] (al2 (by omega) (al2 (by omega) (al2 (by omega) (al2 (by omega) (al2 (by omega) (al2 (by omega) (al1 (bin_neq_H ((ix t.holes i).year) ((ix t.holes i).angle) ((ix t.holes i).height) ((ix t.holes i).year) ((ix t.holes i).angle) ((ix t.holes i).height) h3)))))))) ?_
  refine aw_false rfl ?_
  apply aw_skip
  refine awr [(1, .num (((i + 1) : Nat) : Int))]
   ⟨57, [1, 2], [(2, .l (.ref 1002 0)), (3, .l (.ref 1003 0)), (5, .i (((i + 1) : Nat) : Int))], (holesS_frH6 t)⟩
   [(((i : Nat) : Int) + 1) = (((i + 1) : Nat) : Int), -9223372036854775808 ≤ (((i + 1) : Nat) : Int) ∧ (((i + 1) : Nat) : Int) < 9223372036854775808] (al2 (by omega) (al1 (by omega))) ?_
  exact ⟨(i + 1), (by first | omega | rfl | assumption | (simp; done)), (show t.holes.length - (i + 1) < t.holes.length - i by first | omega | rfl | assumption),
      (enr [] ⟨rfl, rfl, rfl, trivial⟩ (cro rfl (cro rfl (cbl rfl rfl (cbl rfl rfl trivial)))))⟩
 ·
  have h2p : ((t.holes.length : Nat) : Int) ≤ ((i : Nat) : Int) := dlt h2
  refine aw_exit (exit_then (exit_then (exit_in ?_)))
  apply aw_seq
  have h4 : (decide (t.year = t.year)) = true := by simp
  have h5 : (decide (t.glo = t.glo) && decide (t.ghi = t.ghi)) = true := by simp
  have h6 : (decide (t.wlo = t.wlo) && decide (t.whi = t.whi)) = true := by simp
  refine awr [(5, .dec true), (10, .dec true), (17, .dec true)]
   ⟨57, [1, 2], [(4, .b (decide (t.health = t.health)))], []⟩
   [decide (t.year = t.year) = true, BinRun Try.prog .eql 23 (.tmp 38) (.tmp 40) (.agg #[.int .i64 t.glo, .int .i64 t.ghi]) (.agg #[.int .i64 t.glo, .int .i64 t.ghi]) (.bool true), BinRun Try.prog .eql 23 (.tmp 45) (.tmp 47) (.agg #[.int .i64 t.wlo, .int .i64 t.whi]) (.agg #[.int .i64 t.wlo, .int .i64 t.whi]) (.bool true)] (al2 h4 (al2 (bin_eq_G t.glo t.ghi t.glo t.ghi h5) (al1 (bin_eq_G t.wlo t.whi t.wlo t.whi h6)))) ?_
  exact aw_ret ⟨.inr rfl, eok ⟨57, [1, 2], [(4, .b true)], []⟩
      (enr [] ⟨(slot_b (a := decide (t.health = t.health)) rfl (by first | rfl | omega | assumption | (simp; done))), trivial⟩ trivial) wr_nil⟩
end Go.Proofs.Ytbpblhmigijkaaa
