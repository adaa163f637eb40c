/- Plans that are verified. -/
import Derived.Test.YtbpblhmigijkaaaTvc
namespace Go.Proofs.Ytbpblhmigijkaaa
open Go.RowKit
set_option linter.unusedVariables false
set_option linter.unusedSimpArgs false
theorem bin_neq_F {xo yo : Operand} (a0 a1 b0 b1 : Int) {r : Bool} (h : (decide (a0 ≠ b0) || decide (a1 ≠ b1)) = r) : BinRun Try.prog .neq 140 xo yo (.agg #[.int .i64 a0, .int .i64 a1]) (.agg #[.int .i64 b0, .int .i64 b1]) (.bool r) := by
 subst h
 intro w
 have h1 : Try.prog.eqGuardType Try.prog.depth 140 = false := by kernel_rfl
 have h2 : Try.prog.stoodInHeld 140 = false := by kernel_rfl
 have h3 : Try.prog.underlying 140 = some (.struct (Try.prog.fieldsOf 140)) := by kernel_rfl
 have h4 : Try.prog.underlying 3 = some (.int .i64) := by kernel_rfl
 have h5 : (Try.prog.fieldsOf 140).toList = [⟨"at", 3, 0, false, "", "spile/trunk", 0⟩, ⟨"rule", 3, 1, false, "", "spile/trunk", 8⟩] := by kernel_rfl
 have p0 : ∀ w, (part 3 #[.int .i64 a0, .int .i64 a1] 0).run Try.prog w = .ok (.int .i64 a0) w := fun _ => by kernel_rfl
 have q0 : ∀ w, (part 3 #[.int .i64 b0, .int .i64 b1] 0).run Try.prog w = .ok (.int .i64 b0) w := fun _ => by kernel_rfl
 have p1 : ∀ w, (part 3 #[.int .i64 a0, .int .i64 a1] 1).run Try.prog w = .ok (.int .i64 a1) w := fun _ => by kernel_rfl
 have q1 : ∀ w, (part 3 #[.int .i64 b0, .int .i64 b1] 1).run Try.prog w = .ok (.int .i64 b1) w := fun _ => by kernel_rfl
 have g1 : ∀ w (u v : Int), (Op.equalIn 9999 3 (.int .i64 u) (.int .i64 v)).run Try.prog w = .ok (u == v) w := fun w u v => run_equalIn_int w 9998 _ _ _ u v h4
 have g2 : ∀ w, (Op.equalIn 10000 140 (.agg #[.int .i64 a0, .int .i64 a1]) (.agg #[.int .i64 b0, .int .i64 b1])).run Try.prog w = .ok ((a0 == b0) && (a1 == b1)) w := fun w => by
  rw [run_equalIn_agg w 9999 _ _ _ h3 h2, h5]
  simp only [Op.eqFields, Sem.run_bind, p0, q0, p1, q1, g1, Result.andThen_ok]
  cases e0 : (a0 == b0) <;> cases e1 : (a1 == b1) <;> simp [Sem.run_bind, p0, q0, p1, q1, g1, e0, e1]
 rw [Sem.run_bind, run_eqGuard_agg _ _ _ _ _ _ _ h1]
 simp only [Result.andThen_ok]
 rw [run_neq_struct, g2]
 by_cases e0 : a0 = b0 <;> by_cases e1 : a1 = b1 <;> simp [e0, e1, Result.andThen]
theorem bin_eq_F {xo yo : Operand} (a0 a1 b0 b1 : Int) {r : Bool} (h : (decide (a0 = b0) && decide (a1 = b1)) = r) : BinRun Try.prog .eql 140 xo yo (.agg #[.int .i64 a0, .int .i64 a1]) (.agg #[.int .i64 b0, .int .i64 b1]) (.bool r) := by
 subst h
 intro w
 have h1 : Try.prog.eqGuardType Try.prog.depth 140 = false := by kernel_rfl
 have h2 : Try.prog.stoodInHeld 140 = false := by kernel_rfl
 have h3 : Try.prog.underlying 140 = some (.struct (Try.prog.fieldsOf 140)) := by kernel_rfl
 have h4 : Try.prog.underlying 3 = some (.int .i64) := by kernel_rfl
 have h5 : (Try.prog.fieldsOf 140).toList = [⟨"at", 3, 0, false, "", "spile/trunk", 0⟩, ⟨"rule", 3, 1, false, "", "spile/trunk", 8⟩] := by kernel_rfl
 have p0 : ∀ w, (part 3 #[.int .i64 a0, .int .i64 a1] 0).run Try.prog w = .ok (.int .i64 a0) w := fun _ => by kernel_rfl
 have q0 : ∀ w, (part 3 #[.int .i64 b0, .int .i64 b1] 0).run Try.prog w = .ok (.int .i64 b0) w := fun _ => by kernel_rfl
 have p1 : ∀ w, (part 3 #[.int .i64 a0, .int .i64 a1] 1).run Try.prog w = .ok (.int .i64 a1) w := fun _ => by kernel_rfl
 have q1 : ∀ w, (part 3 #[.int .i64 b0, .int .i64 b1] 1).run Try.prog w = .ok (.int .i64 b1) w := fun _ => by kernel_rfl
 have g1 : ∀ w (u v : Int), (Op.equalIn 9999 3 (.int .i64 u) (.int .i64 v)).run Try.prog w = .ok (u == v) w := fun w u v => run_equalIn_int w 9998 _ _ _ u v h4
 have g2 : ∀ w, (Op.equalIn 10000 140 (.agg #[.int .i64 a0, .int .i64 a1]) (.agg #[.int .i64 b0, .int .i64 b1])).run Try.prog w = .ok ((a0 == b0) && (a1 == b1)) w := fun w => by
  rw [run_equalIn_agg w 9999 _ _ _ h3 h2, h5]
  simp only [Op.eqFields, Sem.run_bind, p0, q0, p1, q1, g1, Result.andThen_ok]
  cases e0 : (a0 == b0) <;> cases e1 : (a1 == b1) <;> simp [Sem.run_bind, p0, q0, p1, q1, g1, e0, e1]
 rw [Sem.run_bind, run_eqGuard_agg _ _ _ _ _ _ _ h1]
 simp only [Result.andThen_ok]
 rw [run_eql_struct, g2]
 by_cases e0 : a0 = b0 <;> by_cases e1 : a1 = b1 <;> simp [e0, e1, Result.andThen]
def in_frA1 (t : TreeV) : SV := .agg [.i t.year, .i t.glo, .i t.ghi, .i t.wlo, .i t.whi, .i t.health, .ls 3]
def in_frK2 (x : TrkV) : Cn := .rblk [.i x.t.year, .i x.t.glo, .i x.t.ghi, .i x.t.wlo, .i x.t.whi, .i x.t.health, .ls 1, .i x.r.slo, .i x.r.shi, .i x.r.ulo, .i x.r.uhi, .i x.r.hlo, .i x.r.hhi, .i x.r.apart, .i x.r.blo, .i x.r.bhi, .ls 2, .i x.r.n0, .i x.r.n1, .i x.r.n2, .i x.r.n3, .i x.r.n4, .i x.r.opn, .i x.year, .i x.worst.girth, .i x.worst.side, .i x.worst.up, .i x.worst.heal, .i x.best.girth, .i x.best.side, .i x.best.up, .i x.best.heal]
def in_frK3 (x : TrkV) : Cn := .ro 3 x.t.holes.length (Lst eH x.t.holes)
def in_frK4 (x : TrkV) : Cn := .ro 2 x.r.sizes.length (Lst eZ x.r.sizes)
def in_frK5 (t : TreeV) : Cn := .ro 3 t.holes.length (Lst eH t.holes)
def in_frH6 (x : TrkV) (t : TreeV) : List (Nat × Option Cn) := [(0, some (in_frK2 x)), (1, some (in_frK3 x)), (2, some (in_frK4 x)), (3, some (in_frK5 t))]
def in_frK7 (t : TreeV) : Cn := .blk 26 [.i t.year, .i t.glo, .i t.ghi, .i t.wlo, .i t.whi, .i t.health, .ls 3]
def in_frH8 (x : TrkV) (t : TreeV) : List (Nat × Option Cn) := [(0, some (in_frK2 x)), (1, some (in_frK3 x)), (2, some (in_frK4 x)), (3, some (in_frK5 t)), (1004, some (in_frK7 t))]
def in_frK9 (t : TreeV) (x : TrkV) (y : Int) : Cn := .blk 123 [.i ((openV t x.r y).t.year), .i ((openV t x.r y).t.glo), .i ((openV t x.r y).t.ghi), .i ((openV t x.r y).t.wlo), .i ((openV t x.r y).t.whi), .i ((openV t x.r y).t.health), .ls 3, .i ((openV t x.r y).r.slo), .i ((openV t x.r y).r.shi), .i ((openV t x.r y).r.ulo), .i ((openV t x.r y).r.uhi), .i ((openV t x.r y).r.hlo), .i ((openV t x.r y).r.hhi), .i ((openV t x.r y).r.apart), .i ((openV t x.r y).r.blo), .i ((openV t x.r y).r.bhi), .ls 2, .i ((openV t x.r y).r.n0), .i ((openV t x.r y).r.n1), .i ((openV t x.r y).r.n2), .i ((openV t x.r y).r.n3), .i ((openV t x.r y).r.n4), .i ((openV t x.r y).r.opn), .i ((openV t x.r y).year), .i ((openV t x.r y).worst.girth), .i ((openV t x.r y).worst.side), .i ((openV t x.r y).worst.up), .i ((openV t x.r y).worst.heal), .i ((openV t x.r y).best.girth), .i ((openV t x.r y).best.side), .i ((openV t x.r y).best.up), .i ((openV t x.r y).best.heal)]
def in_frA10 (x : TrkV) : SV := .agg [.i x.r.slo, .i x.r.shi, .i x.r.ulo, .i x.r.uhi, .i x.r.hlo, .i x.r.hhi, .i x.r.apart, .i x.r.blo, .i x.r.bhi, .ls 2, .i x.r.n0, .i x.r.n1, .i x.r.n2, .i x.r.n3, .i x.r.n4, .i x.r.opn]
def in_frH11 (x : TrkV) (t : TreeV) (y : Int) : List (Nat × Option Cn) := [(2, some (in_frK4 x)), (3, some (in_frK5 t)), (10160, some (in_frK9 t x y))]
set_option maxRecDepth 100000 in
theorem in_fr (x : TrkV) (t : TreeV) (y : Int) (ht : t.holes.length ≤ 1000000) (hr : x.r.sizes.length ≤ 1000000) (h0 : startE t x.r y = 0) : CallFr Try.prog 79 [.l (.ref 0 0), (in_frA1 t), .i y] [0, 1, 2, 3] [some (.rblk [.i x.t.year, .i x.t.glo, .i x.t.ghi, .i x.t.wlo, .i x.t.whi, .i x.t.health, .ls 1, .i x.r.slo, .i x.r.shi, .i x.r.ulo, .i x.r.uhi, .i x.r.hlo, .i x.r.hhi, .i x.r.apart, .i x.r.blo, .i x.r.bhi, .ls 2, .i x.r.n0, .i x.r.n1, .i x.r.n2, .i x.r.n3, .i x.r.n4, .i x.r.opn, .i x.year, .i x.worst.girth, .i x.worst.side, .i x.worst.up, .i x.worst.heal, .i x.best.girth, .i x.best.side, .i x.best.up, .i x.best.heal]), some (.ro 3 x.t.holes.length (Lst eH x.t.holes)), some (.ro 2 x.r.sizes.length (Lst eZ x.r.sizes)), some (.ro 3 t.holes.length (Lst eH t.holes))] (.l (.ref 5 0)) [(5, some (.blk 123 [.i ((openV t x.r y).t.year), .i ((openV t x.r y).t.glo), .i ((openV t x.r y).t.ghi), .i ((openV t x.r y).t.wlo), .i ((openV t x.r y).t.whi), .i ((openV t x.r y).t.health), .ls 3, .i ((openV t x.r y).r.slo), .i ((openV t x.r y).r.shi), .i ((openV t x.r y).r.ulo), .i ((openV t x.r y).r.uhi), .i ((openV t x.r y).r.hlo), .i ((openV t x.r y).r.hhi), .i ((openV t x.r y).r.apart), .i ((openV t x.r y).r.blo), .i ((openV t x.r y).r.bhi), .ls 2, .i ((openV t x.r y).r.n0), .i ((openV t x.r y).r.n1), .i ((openV t x.r y).r.n2), .i ((openV t x.r y).r.n3), .i ((openV t x.r y).r.n4), .i ((openV t x.r y).r.opn), .i ((openV t x.r y).year), .i ((openV t x.r y).worst.girth), .i ((openV t x.r y).worst.side), .i ((openV t x.r y).worst.up), .i ((openV t x.r y).worst.heal), .i ((openV t x.r y).best.girth), .i ((openV t x.r y).best.side), .i ((openV t x.r y).best.up), .i ((openV t x.r y).best.heal)]))] := by
 have hs0 : decide (startE t x.r y = 0) = true := decide_eq_true h0
 refine callFr_of (fn := Try.f79) (by kernel_rfl) rfl (by kernel_rfl) (by kernel_rfl) fun E => ?_
 refine aw_ent (T := ⟨20, [0, 1, 2, 3], [(0, .l (.ref 0 0)), (1, (in_frA1 t)), (2, .i y)], (in_frH6 x t)⟩) (Ent.refl _) ?_
 apply aw_seq
 refine awr [(0, .new 1004)]
  ⟨20, [0, 1, 2, 3], [(0, .l (.ref 0 0)), (2, .i y), (4, .l (.ref 1004 0))], (in_frH8 x t)⟩
  [] trivial ?_
 apply aw_seq
 refine awd [(6, .call [3, 2] (.tup [.one (.ref 10160 0), .one (.i 0)]) [(10160, some (in_frK9 t x y))])]
  ⟨20, [0, 1, 2, 3], [(7, .l (.ref 10160 0))], (in_frH11 x t y)⟩
  [CallOK Try.prog 61 [(in_frA1 t), (in_frA10 x), .i y] [3, 2] [some (in_frK5 t), some (in_frK4 x)] (.tup [.one (.ref 10160 0), .one (.i 0)]) [(10160, some (in_frK9 t x y))]] (al1 (cfr (open_ok_fr t x.r y (by first | omega | (simp; done) | assumption) (by first | omega | (simp; done) | assumption) (dtr hs0)) [(1, 3), (2, 2), (5, 10160)] (dem_cons rfl (le_ro rfl el_rfl) (dem_cons rfl (le_ro rfl el_rfl) dem_nil)))) ?_
 have hx := open_ok (dtr hs0)
 apply aw_seq
 refine awr []
  ⟨20, [0, 1, 2, 3], [(6, .l (.ref 10160 0))], (in_frH11 x t y)⟩
  [] trivial ?_
 exact aw_ret ⟨.inr rfl, eok ⟨20, [0, 1, 2, 3], [(6, .l (.ref 5 0))], [(5, some (in_frK9 t x y))]⟩
     (enr [(5, 10160)] ⟨rfl, trivial⟩ (cbl rfl rfl trivial)) (wr_cons rfl plain_blk wr_nil)⟩
def Verify_frA1 (t : TreeV) : SV := .agg [.i t.year, .i t.glo, .i t.ghi, .i t.wlo, .i t.whi, .i t.health, .ls 1]
def Verify_frA2 (r : RuleV) : SV := .agg [.i r.slo, .i r.shi, .i r.ulo, .i r.uhi, .i r.hlo, .i r.hhi, .i r.apart, .i r.blo, .i r.bhi, .ls 2, .i r.n0, .i r.n1, .i r.n2, .i r.n3, .i r.n4, .i r.opn]
def Verify_frK3 (t : TreeV) : Cn := .ro 3 t.holes.length (Lst eH t.holes)
def Verify_frK4 (r : RuleV) : Cn := .ro 2 r.sizes.length (Lst eZ r.sizes)
def Verify_frH5 (t : TreeV) (r : RuleV) (p : List (List Spt)) : List (Nat × Option Cn) := [(1, some (Verify_frK3 t)), (2, some (Verify_frK4 r)), (3, some (.ro 1 p.length (LstL 2 eS p)))]
def Verify_frK6 (t : TreeV) : Cn := .blk 26 [.i t.year, .i t.glo, .i t.ghi, .i t.wlo, .i t.whi, .i t.health, .ls 1]
def Verify_frK7 (r : RuleV) : Cn := .blk 30 [.i r.slo, .i r.shi, .i r.ulo, .i r.uhi, .i r.hlo, .i r.hhi, .i r.apart, .i r.blo, .i r.bhi, .ls 2, .i r.n0, .i r.n1, .i r.n2, .i r.n3, .i r.n4, .i r.opn]
def Verify_frH8 (t : TreeV) (r : RuleV) (p : List (List Spt)) : List (Nat × Option Cn) := [(1, some (Verify_frK3 t)), (2, some (Verify_frK4 r)), (3, some (.ro 1 p.length (LstL 2 eS p))), (1004, some (Verify_frK6 t)), (1005, some (Verify_frK7 r))]
def Verify_frK9 (t : TreeV) (r : RuleV) (y : Int) : Cn := .blk 123 [.i ((openV t r y).t.year), .i ((openV t r y).t.glo), .i ((openV t r y).t.ghi), .i ((openV t r y).t.wlo), .i ((openV t r y).t.whi), .i ((openV t r y).t.health), .ls 1, .i ((openV t r y).r.slo), .i ((openV t r y).r.shi), .i ((openV t r y).r.ulo), .i ((openV t r y).r.uhi), .i ((openV t r y).r.hlo), .i ((openV t r y).r.hhi), .i ((openV t r y).r.apart), .i ((openV t r y).r.blo), .i ((openV t r y).r.bhi), .ls 2, .i ((openV t r y).r.n0), .i ((openV t r y).r.n1), .i ((openV t r y).r.n2), .i ((openV t r y).r.n3), .i ((openV t r y).r.n4), .i ((openV t r y).r.opn), .i ((openV t r y).year), .i ((openV t r y).worst.girth), .i ((openV t r y).worst.side), .i ((openV t r y).worst.up), .i ((openV t r y).worst.heal), .i ((openV t r y).best.girth), .i ((openV t r y).best.side), .i ((openV t r y).best.up), .i ((openV t r y).best.heal)]
def Verify_frH10 (t : TreeV) (r : RuleV) (p : List (List Spt)) (y : Int) : List (Nat × Option Cn) := [(1, some (Verify_frK3 t)), (2, some (Verify_frK4 r)), (3, some (.ro 1 p.length (LstL 2 eS p))), (1004, some (Verify_frK6 t)), (10210, some (Verify_frK9 t r y))]
def Verify_frK11 (p : List (List Spt)) : Cn := .vec 72 2 ((p.flatten).length) (Lst eS p.flatten)
def Verify_frK12 (t : TreeV) (r : RuleV) (y : Int) : Cn := .blk 123 [.i ((openV t r y).t.year), .i ((openV t r y).t.glo), .i ((openV t r y).t.ghi), .i ((openV t r y).t.wlo), .i ((openV t r y).t.whi), .i ((openV t r y).t.health), .ls 2003, .i ((openV t r y).r.slo), .i ((openV t r y).r.shi), .i ((openV t r y).r.ulo), .i ((openV t r y).r.uhi), .i ((openV t r y).r.hlo), .i ((openV t r y).r.hhi), .i ((openV t r y).r.apart), .i ((openV t r y).r.blo), .i ((openV t r y).r.bhi), .ls 2, .i ((openV t r y).r.n0), .i ((openV t r y).r.n1), .i ((openV t r y).r.n2), .i ((openV t r y).r.n3), .i ((openV t r y).r.n4), .i ((openV t r y).r.opn), .i ((openV t r y).year), .i ((openV t r y).worst.girth), .i ((openV t r y).worst.side), .i ((openV t r y).worst.up), .i ((openV t r y).worst.heal), .i ((openV t r y).best.girth), .i ((openV t r y).best.side), .i ((openV t r y).best.up), .i ((openV t r y).best.heal)]
def Verify_frH13 (t : TreeV) (r : RuleV) (p : List (List Spt)) (y : Int) : List (Nat × Option Cn) := [(1, some (Verify_frK3 t)), (2, some (Verify_frK4 r)), (3, some (.ro 1 p.length (LstL 2 eS p))), (1004, some (Verify_frK6 t)), (10210, some (Verify_frK12 t r y)), (2003, some (Verify_frK3 t))]
def Verify_frH14 (t : TreeV) (r : RuleV) (p : List (List Spt)) (y : Int) : List (Nat × Option Cn) := [(1, some (Verify_frK3 t)), (2, some (Verify_frK4 r)), (3, some (.ro 1 p.length (LstL 2 eS p))), (1004, some (Verify_frK6 t)), (2003, some (Verify_frK3 t)), (10210, some (Verify_frK12 t r y))]
def Verify_frK15 (tt : TreeV) : Cn := .blk 26 [.i tt.year, .i tt.glo, .i tt.ghi, .i tt.wlo, .i tt.whi, .i tt.health, .ls 2001]
def Verify_frK16 (tt : TreeV) : Cn := .ro 3 tt.holes.length (Lst eH tt.holes)
def Verify_frK17 (t2 : TreeV) (r : RuleV) (y2 : Int) : Cn := .rblk [.i ((openV t2 r y2).t.year), .i ((openV t2 r y2).t.glo), .i ((openV t2 r y2).t.ghi), .i ((openV t2 r y2).t.wlo), .i ((openV t2 r y2).t.whi), .i ((openV t2 r y2).t.health), .ls 2003, .i ((openV t2 r y2).r.slo), .i ((openV t2 r y2).r.shi), .i ((openV t2 r y2).r.ulo), .i ((openV t2 r y2).r.uhi), .i ((openV t2 r y2).r.hlo), .i ((openV t2 r y2).r.hhi), .i ((openV t2 r y2).r.apart), .i ((openV t2 r y2).r.blo), .i ((openV t2 r y2).r.bhi), .ls 2, .i ((openV t2 r y2).r.n0), .i ((openV t2 r y2).r.n1), .i ((openV t2 r y2).r.n2), .i ((openV t2 r y2).r.n3), .i ((openV t2 r y2).r.n4), .i ((openV t2 r y2).r.opn), .i ((openV t2 r y2).year), .i ((openV t2 r y2).worst.girth), .i ((openV t2 r y2).worst.side), .i ((openV t2 r y2).worst.up), .i ((openV t2 r y2).worst.heal), .i ((openV t2 r y2).best.girth), .i ((openV t2 r y2).best.side), .i ((openV t2 r y2).best.up), .i ((openV t2 r y2).best.heal)]
def Verify_frK18 (t2 : TreeV) : Cn := .ro 3 t2.holes.length (Lst eH t2.holes)
def Verify_frH19 (r : RuleV) (p : List (List Spt)) (tt : TreeV) (t2 : TreeV) (y2 : Int) : List (Nat × Option Cn) := [(2, some (Verify_frK4 r)), (3, some (.ro 1 p.length (LstL 2 eS p))), (1004, some (Verify_frK15 tt)), (2001, some (Verify_frK16 tt)), (2002, some (Verify_frK17 t2 r y2)), (2003, some (Verify_frK18 t2))]
def Verify_frK20 (p : List (List Spt)) (i : Nat) : Cn := .ro 2 ((ix p i).length) (Lst eS (ix p i))
def Verify_frH21 (r : RuleV) (p : List (List Spt)) (tt : TreeV) (i : Nat) (t2 : TreeV) (y2 : Int) : List (Nat × Option Cn) := [(2, some (Verify_frK4 r)), (3, some (.ro 1 p.length (LstL 2 eS p))), (1004, some (Verify_frK15 tt)), (1055, some (Verify_frK20 p i)), (2001, some (Verify_frK16 tt)), (2002, some (Verify_frK17 t2 r y2)), (2003, some (Verify_frK18 t2))]
def Verify_frK22 (tt : TreeV) (t2 : TreeV) (r : RuleV) (y2 : Int) (y : Int) (i : Nat) : Cn := .blk 123 [.i ((openV tt (openV t2 r y2).r (y + ((i : Nat) : Int))).t.year), .i ((openV tt (openV t2 r y2).r (y + ((i : Nat) : Int))).t.glo), .i ((openV tt (openV t2 r y2).r (y + ((i : Nat) : Int))).t.ghi), .i ((openV tt (openV t2 r y2).r (y + ((i : Nat) : Int))).t.wlo), .i ((openV tt (openV t2 r y2).r (y + ((i : Nat) : Int))).t.whi), .i ((openV tt (openV t2 r y2).r (y + ((i : Nat) : Int))).t.health), .ls 2001, .i ((openV tt (openV t2 r y2).r (y + ((i : Nat) : Int))).r.slo), .i ((openV tt (openV t2 r y2).r (y + ((i : Nat) : Int))).r.shi), .i ((openV tt (openV t2 r y2).r (y + ((i : Nat) : Int))).r.ulo), .i ((openV tt (openV t2 r y2).r (y + ((i : Nat) : Int))).r.uhi), .i ((openV tt (openV t2 r y2).r (y + ((i : Nat) : Int))).r.hlo), .i ((openV tt (openV t2 r y2).r (y + ((i : Nat) : Int))).r.hhi), .i ((openV tt (openV t2 r y2).r (y + ((i : Nat) : Int))).r.apart), .i ((openV tt (openV t2 r y2).r (y + ((i : Nat) : Int))).r.blo), .i ((openV tt (openV t2 r y2).r (y + ((i : Nat) : Int))).r.bhi), .ls 2, .i ((openV tt (openV t2 r y2).r (y + ((i : Nat) : Int))).r.n0), .i ((openV tt (openV t2 r y2).r (y + ((i : Nat) : Int))).r.n1), .i ((openV tt (openV t2 r y2).r (y + ((i : Nat) : Int))).r.n2), .i ((openV tt (openV t2 r y2).r (y + ((i : Nat) : Int))).r.n3), .i ((openV tt (openV t2 r y2).r (y + ((i : Nat) : Int))).r.n4), .i ((openV tt (openV t2 r y2).r (y + ((i : Nat) : Int))).r.opn), .i ((openV tt (openV t2 r y2).r (y + ((i : Nat) : Int))).year), .i ((openV tt (openV t2 r y2).r (y + ((i : Nat) : Int))).worst.girth), .i ((openV tt (openV t2 r y2).r (y + ((i : Nat) : Int))).worst.side), .i ((openV tt (openV t2 r y2).r (y + ((i : Nat) : Int))).worst.up), .i ((openV tt (openV t2 r y2).r (y + ((i : Nat) : Int))).worst.heal), .i ((openV tt (openV t2 r y2).r (y + ((i : Nat) : Int))).best.girth), .i ((openV tt (openV t2 r y2).r (y + ((i : Nat) : Int))).best.side), .i ((openV tt (openV t2 r y2).r (y + ((i : Nat) : Int))).best.up), .i ((openV tt (openV t2 r y2).r (y + ((i : Nat) : Int))).best.heal)]
def Verify_frA23 (tt : TreeV) : SV := .agg [.i tt.year, .i tt.glo, .i tt.ghi, .i tt.wlo, .i tt.whi, .i tt.health, .ls 2001]
def Verify_frH24 (r : RuleV) (p : List (List Spt)) (tt : TreeV) (i : Nat) (t2 : TreeV) (y2 : Int) (y : Int) : List (Nat × Option Cn) := [(2, some (Verify_frK4 r)), (3, some (.ro 1 p.length (LstL 2 eS p))), (1004, some (Verify_frK15 tt)), (1055, some (Verify_frK20 p i)), (2001, some (Verify_frK16 tt)), (10610, some (Verify_frK22 tt t2 r y2 y i))]
def Verify_frK25 (tt : TreeV) (r : RuleV) (y : Int) (i : Nat) : Cn := .blk 123 [.i ((openV tt r (y + ((i : Nat) : Int))).t.year), .i ((openV tt r (y + ((i : Nat) : Int))).t.glo), .i ((openV tt r (y + ((i : Nat) : Int))).t.ghi), .i ((openV tt r (y + ((i : Nat) : Int))).t.wlo), .i ((openV tt r (y + ((i : Nat) : Int))).t.whi), .i ((openV tt r (y + ((i : Nat) : Int))).t.health), .ls 2001, .i ((openV tt r (y + ((i : Nat) : Int))).r.slo), .i ((openV tt r (y + ((i : Nat) : Int))).r.shi), .i ((openV tt r (y + ((i : Nat) : Int))).r.ulo), .i ((openV tt r (y + ((i : Nat) : Int))).r.uhi), .i ((openV tt r (y + ((i : Nat) : Int))).r.hlo), .i ((openV tt r (y + ((i : Nat) : Int))).r.hhi), .i ((openV tt r (y + ((i : Nat) : Int))).r.apart), .i ((openV tt r (y + ((i : Nat) : Int))).r.blo), .i ((openV tt r (y + ((i : Nat) : Int))).r.bhi), .ls 2, .i ((openV tt r (y + ((i : Nat) : Int))).r.n0), .i ((openV tt r (y + ((i : Nat) : Int))).r.n1), .i ((openV tt r (y + ((i : Nat) : Int))).r.n2), .i ((openV tt r (y + ((i : Nat) : Int))).r.n3), .i ((openV tt r (y + ((i : Nat) : Int))).r.n4), .i ((openV tt r (y + ((i : Nat) : Int))).r.opn), .i ((openV tt r (y + ((i : Nat) : Int))).year), .i ((openV tt r (y + ((i : Nat) : Int))).worst.girth), .i ((openV tt r (y + ((i : Nat) : Int))).worst.side), .i ((openV tt r (y + ((i : Nat) : Int))).worst.up), .i ((openV tt r (y + ((i : Nat) : Int))).worst.heal), .i ((openV tt r (y + ((i : Nat) : Int))).best.girth), .i ((openV tt r (y + ((i : Nat) : Int))).best.side), .i ((openV tt r (y + ((i : Nat) : Int))).best.up), .i ((openV tt r (y + ((i : Nat) : Int))).best.heal)]
def Verify_frH26 (r : RuleV) (p : List (List Spt)) (tt : TreeV) (i : Nat) (y : Int) : List (Nat × Option Cn) := [(2, some (Verify_frK4 r)), (3, some (.ro 1 p.length (LstL 2 eS p))), (1004, some (Verify_frK15 tt)), (1055, some (Verify_frK20 p i)), (2001, some (Verify_frK16 tt)), (10610, some (Verify_frK25 tt r y i))]
def Verify_frA27 (tt : TreeV) (r : RuleV) (y : Int) (i : Nat) (p : List (List Spt)) : SV := .agg [.i ((keepsV (openV tt r (y + ((i : Nat) : Int))) (ix p i)).at_), .i ((keepsV (openV tt r (y + ((i : Nat) : Int))) (ix p i)).rule)]
def Verify_frK28 (tt : TreeV) (r : RuleV) (y : Int) (i : Nat) (p : List (List Spt)) : Cn := .blk 140 [.i ((keepsV (openV tt r (y + ((i : Nat) : Int))) (ix p i)).at_), .i ((keepsV (openV tt r (y + ((i : Nat) : Int))) (ix p i)).rule)]
def Verify_frH29 (r : RuleV) (p : List (List Spt)) (tt : TreeV) (y : Int) (i : Nat) : List (Nat × Option Cn) := [(2, some (Verify_frK4 r)), (3, some (.ro 1 p.length (LstL 2 eS p))), (1004, some (Verify_frK15 tt)), (1015, some (Verify_frK28 tt r y i p)), (1055, some (Verify_frK20 p i)), (2001, some (Verify_frK16 tt)), (10610, some (Verify_frK25 tt r y i))]
def Verify_frK30 (tt : TreeV) (y : Int) (i : Nat) (p : List (List Spt)) : Cn := .vec 74 3 (((drillV tt (y + ((i : Nat) : Int)) (ix p i)).holes).length) (Lst eH ((drillV tt (y + ((i : Nat) : Int)) (ix p i)).holes))
def Verify_frK31 (tt : TreeV) (y : Int) (i : Nat) (p : List (List Spt)) : Cn := .blk 26 [.i ((drillV tt (y + ((i : Nat) : Int)) (ix p i)).year), .i ((drillV tt (y + ((i : Nat) : Int)) (ix p i)).glo), .i ((drillV tt (y + ((i : Nat) : Int)) (ix p i)).ghi), .i ((drillV tt (y + ((i : Nat) : Int)) (ix p i)).wlo), .i ((drillV tt (y + ((i : Nat) : Int)) (ix p i)).whi), .i ((drillV tt (y + ((i : Nat) : Int)) (ix p i)).health), .ls 10790]
def Verify_frH32 (r : RuleV) (p : List (List Spt)) (tt : TreeV) (y : Int) (i : Nat) : List (Nat × Option Cn) := [(2, some (Verify_frK4 r)), (3, some (.ro 1 p.length (LstL 2 eS p))), (1004, some (Verify_frK31 tt y i p)), (2001, some (Verify_frK16 tt)), (10610, some (Verify_frK25 tt r y i)), (10790, some (Verify_frK30 tt y i p))]
def Verify_frH33 (t : TreeV) (p : List (List Spt)) : List (Nat × Option Cn) := [(1, some (Verify_frK3 t)), (3, some (.ro 1 p.length (LstL 2 eS p))), (1004, some (Verify_frK6 t))]
set_option maxHeartbeats 4000000 in
set_option maxRecDepth 100000 in
theorem Verify_fr (t : TreeV) (r : RuleV) (y : Int) (ht : t.holes.length ≤ 1000000) (hr : r.sizes.length ≤ 1000000) (p : List (List Spt)) (hp : p.length ≤ 100) (hsh : shortP 1000 p) : CallFr Try.prog 51 [(Verify_frA1 t), (Verify_frA2 r), .i y, .ls 3] [1, 2, 3] [some (.ro 3 t.holes.length (Lst eH t.holes)), some (.ro 2 r.sizes.length (Lst eZ r.sizes)), some (.ro 1 p.length (LstL 2 eS p))] (.tup [.one (.i ((verR t r y p).1)), .one (.i ((verR t r y p).2.1)), .one (.i ((verR t r y p).2.2.1)), .one (.i ((verR t r y p).2.2.2))]) [] := by
 have hshB : shortP 1000000000 p := fun l hl => by have := hsh l hl; omega
 have hsh2 := hsh
 have hfl := flat_len hsh
 refine callFr_of (fn := Try.f51) (by kernel_rfl) rfl (by kernel_rfl) (by kernel_rfl) fun E => ?_
 refine aw_ent (T := ⟨85, [1, 2, 3], [(0, (Verify_frA1 t)), (1, (Verify_frA2 r)), (2, .i y), (3, .ls 3)], (Verify_frH5 t r p)⟩) (Ent.refl _) ?_
 apply aw_seq
 refine awr [(0, .new 1004), (1, .new 1005)]
  ⟨85, [1, 2, 3], [(2, .i y), (3, .ls 3), (4, .l (.ref 1004 0)), (5, .l (.ref 1005 0))], (Verify_frH8 t r p)⟩
  [] trivial ?_
 apply aw_seq
 rcases Bool.eq_false_or_eq_true (decide (startE t r y = 0)) with h1 | h1
 ·
  have hz0 : startE t r y = 0 := dtr h1
  refine awr [(3, .call [1, 2] (.tup [.one (.ref 10210 0), .one (.i 0)]) [(10210, some (Verify_frK9 t r y))])]
   ⟨85, [1, 2, 3], [(2, .i y), (3, .ls 3), (4, .l (.ref 1004 0)), (11, .i 0), (12, .l (.ref 10210 0))], (Verify_frH10 t r p y)⟩
   [CallOK Try.prog 61 [(Verify_frA1 t), (Verify_frA2 r), .i y] [1, 2] [some (Verify_frK3 t), some (Verify_frK4 r)] (.tup [.one (.ref 10210 0), .one (.i 0)]) [(10210, some (Verify_frK9 t r y))]] (al1 (cfr (open_ok_fr t r y (by first | omega | (simp; done) | assumption) (by first | omega | (simp; done) | assumption) (dtr h1)) [(1, 1), (2, 2), (5, 10210)] (dem_cons rfl (le_ro rfl el_rfl) (dem_cons rfl (le_ro rfl el_rfl) dem_nil)))) ?_
  have hx := open_ok (dtr h1)
  apply aw_seq
  apply aw_block
  apply aw_seq
  refine awr []
   ⟨85, [1, 2, 3], [(2, .i y), (3, .ls 3), (4, .l (.ref 1004 0)), (11, .i 0), (12, .l (.ref 10210 0)), (24, .b (decide ((0 : Int) ≠ (0 : Int))))], (Verify_frH10 t r p y)⟩
   [] trivial ?_
  have h2 : (decide ((0 : Int) ≠ (0 : Int))) = false := by decide
  refine aw_cond (b := decide ((0 : Int) ≠ (0 : Int))) rfl (fun h => Bool.noConfusion (h2.symm.trans h)) (fun _ => ?_)
  apply aw_seq
  rcases Bool.eq_false_or_eq_true (decide (40 < ((p.length : Nat) : Int))) with h3 | h3
  ·
   have h3p : 40 < ((p.length : Nat) : Int) := dtr h3
   refine awr [(3, .dec true)]
    ⟨85, [1, 2, 3], [(2, .i y), (3, .ls 3), (4, .l (.ref 1004 0)), (12, .l (.ref 10210 0)), (28, .b true)], (Verify_frH10 t r p y)⟩
    [decide (40 < ((p.length : Nat) : Int)) = true] (al1 h3) ?_
   refine aw_true rfl ?_
   apply aw_seq
   have hVV := verR_2 hz0 (by first | (rw [show decide ((40 : Int) < ((p.length : Nat) : Int)) = true by assumption]; rfl) | (rw [show anyLong p = true by assumption]; exact Bool.or_true _))
   refine awr []
    ⟨85, [1, 2, 3], [(8, .i 0), (9, .i 0), (10, .i 0), (11, .i 5)], []⟩
    [] trivial ?_
   exact aw_ret (ret_block (ret_then ⟨.inr rfl, eok ⟨85, [1, 2, 3], [(8, .i ((verR t r y p).1)), (9, .i ((verR t r y p).2.1)), (10, .i ((verR t r y p).2.2.1)), (11, .i ((verR t r y p).2.2.2))], []⟩
       (enr [] ⟨(slot_i rfl (by first | rfl | omega | assumption | (rw [hVV]) | (rw [hV, hVV]))), (slot_i rfl (by first | rfl | omega | assumption | (rw [hVV]) | (rw [hV, hVV]))), (slot_i rfl (by first | rfl | omega | assumption | (rw [hVV]) | (rw [hV, hVV]))), (slot_i rfl (by first | rfl | omega | assumption | (rw [hVV]) | (rw [hV, hVV]))), trivial⟩ trivial) wr_nil⟩))
  ·
   have h3p : ((p.length : Nat) : Int) ≤ 40 := dlt h3
   refine awr [(3, .dec false), (5, .call [3] (.b (anyLong p)) [])]
    ⟨85, [1, 2, 3], [(2, .i y), (3, .ls 3), (4, .l (.ref 1004 0)), (12, .l (.ref 10210 0)), (28, .b (anyLong p))], (Verify_frH10 t r p y)⟩
    [decide (40 < ((p.length : Nat) : Int)) = false, CallOK Try.prog 83 [.ls 3, .l (.v (.func (.func 84) #[] #[]))] [3] [some (.ro 1 p.length (LstL 2 eS p))] (.b (anyLong p)) []] (al2 h3 (al1 (cfr (plan_any p (by omega) (by first | assumption | exact hsh)) [(0, 3)] (dem_cons rfl (le_ro rfl el_rfl) dem_nil)))) ?_
   refine aw_cond (b := (anyLong p)) rfl (fun h4 => ?_) (fun h4 => ?_)
   ·
    apply aw_seq
    have hVV := verR_2 hz0 (by first | (rw [show decide ((40 : Int) < ((p.length : Nat) : Int)) = true by assumption]; rfl) | (rw [show anyLong p = true by assumption]; exact Bool.or_true _))
    refine awr []
     ⟨85, [1, 2, 3], [(8, .i 0), (9, .i 0), (10, .i 0), (11, .i 5)], []⟩
     [] trivial ?_
    exact aw_ret (ret_block (ret_then ⟨.inr rfl, eok ⟨85, [1, 2, 3], [(8, .i ((verR t r y p).1)), (9, .i ((verR t r y p).2.1)), (10, .i ((verR t r y p).2.2.1)), (11, .i ((verR t r y p).2.2.2))], []⟩
        (enr [] ⟨(slot_i rfl (by first | rfl | omega | assumption | (rw [hVV]) | (rw [hV, hVV]))), (slot_i rfl (by first | rfl | omega | assumption | (rw [hVV]) | (rw [hV, hVV]))), (slot_i rfl (by first | rfl | omega | assumption | (rw [hVV]) | (rw [hV, hVV]))), (slot_i rfl (by first | rfl | omega | assumption | (rw [hVV]) | (rw [hV, hVV]))), trivial⟩ trivial) wr_nil⟩))
   ·
    apply aw_seq
    have hk3 := (startE_0.1 hz0).2.2
    have hk1 := (startE_0.1 hz0).1.year
    rcases Bool.eq_false_or_eq_true (decide (9999 < ((y + ((p.length : Nat) : Int)) - 1))) with h5 | h5
    ·
     have h5p : 9999 < ((y + ((p.length : Nat) : Int)) - 1) := dtr h5
     refine awr [(6, .dec true)]
      ⟨85, [1, 2, 3], [(2, .i y), (3, .ls 3), (4, .l (.ref 1004 0)), (12, .l (.ref 10210 0)), (36, .b true)], (Verify_frH10 t r p y)⟩
      [-9223372036854775808 ≤ (y + ((p.length : Nat) : Int)) ∧ (y + ((p.length : Nat) : Int)) < 9223372036854775808, -9223372036854775808 ≤ ((y + ((p.length : Nat) : Int)) - 1) ∧ ((y + ((p.length : Nat) : Int)) - 1) < 9223372036854775808, decide (9999 < ((y + ((p.length : Nat) : Int)) - 1)) = true] (al2 (by omega) (al2 (by omega) (al1 h5))) ?_
     refine aw_true rfl ?_
     apply aw_seq
     have hVV := verR_3 hz0 (by rw [show decide ((40 : Int) < ((p.length : Nat) : Int)) = false by assumption, show anyLong p = false by assumption]; rfl) (by first | (rw [show decide (9999 < y + ((p.length : Nat) : Int) - 1) = true by assumption]; rfl) | (rw [show (!(spotsB p.flatten)) = true by assumption]; exact Bool.or_true _))
     refine awr []
      ⟨85, [1, 2, 3], [(8, .i 0), (9, .i 0), (10, .i 0), (11, .i 3)], []⟩
      [] trivial ?_
     exact aw_ret (ret_block (ret_then ⟨.inr rfl, eok ⟨85, [1, 2, 3], [(8, .i ((verR t r y p).1)), (9, .i ((verR t r y p).2.1)), (10, .i ((verR t r y p).2.2.1)), (11, .i ((verR t r y p).2.2.2))], []⟩
         (enr [] ⟨(slot_i rfl (by first | rfl | omega | assumption | (rw [hVV]) | (rw [hV, hVV]))), (slot_i rfl (by first | rfl | omega | assumption | (rw [hVV]) | (rw [hV, hVV]))), (slot_i rfl (by first | rfl | omega | assumption | (rw [hVV]) | (rw [hV, hVV]))), (slot_i rfl (by first | rfl | omega | assumption | (rw [hVV]) | (rw [hV, hVV]))), trivial⟩ trivial) wr_nil⟩))
    ·
     have h5p : ((y + ((p.length : Nat) : Int)) - 1) ≤ 9999 := dlt h5
     refine awr [(6, .dec false), (8, .call [3] (.ls 10450) [(10450, some (Verify_frK11 p))]), (9, .call [10450] (.b (spotsB p.flatten)) [])]
      ⟨85, [1, 2, 3], [(2, .i y), (3, .ls 3), (4, .l (.ref 1004 0)), (12, .l (.ref 10210 0)), (36, .b (!(spotsB p.flatten)))], (Verify_frH10 t r p y)⟩
      [-9223372036854775808 ≤ (y + ((p.length : Nat) : Int)) ∧ (y + ((p.length : Nat) : Int)) < 9223372036854775808, -9223372036854775808 ≤ ((y + ((p.length : Nat) : Int)) - 1) ∧ ((y + ((p.length : Nat) : Int)) - 1) < 9223372036854775808, decide (9999 < ((y + ((p.length : Nat) : Int)) - 1)) = false, CallOK Try.prog 85 [.ls 3] [3] [some (.ro 1 p.length (LstL 2 eS p))] (.ls 10450) [(10450, some (Verify_frK11 p))], CallOK Try.prog 56 [.ls 10450] [10450] [some (Verify_frK11 p)] (.b (spotsB p.flatten)) []] (al2 (by omega) (al2 (by omega) (al2 h5 (al2 (cfr (concat_fr p (by omega) hsh2) [(0, 3), (2, 10450)] (dem_cons rfl (le_ro rfl el_rfl) dem_nil)) (al1 (cfr (areSpots_fr p.flatten (by first | omega | (simp; done) | decide)) [(0, 10450)] (dem_cons rfl (le_vec_ro rfl el_rfl) dem_nil))))))) ?_
     refine aw_cond (b := (!(spotsB p.flatten))) rfl (fun h6 => ?_) (fun h6 => ?_)
     ·
      apply aw_seq
      have hVV := verR_3 hz0 (by rw [show decide ((40 : Int) < ((p.length : Nat) : Int)) = false by assumption, show anyLong p = false by assumption]; rfl) (by first | (rw [show decide (9999 < y + ((p.length : Nat) : Int) - 1) = true by assumption]; rfl) | (rw [show (!(spotsB p.flatten)) = true by assumption]; exact Bool.or_true _))
      refine awr []
       ⟨85, [1, 2, 3], [(8, .i 0), (9, .i 0), (10, .i 0), (11, .i 3)], []⟩
       [] trivial ?_
      exact aw_ret (ret_block (ret_then ⟨.inr rfl, eok ⟨85, [1, 2, 3], [(8, .i ((verR t r y p).1)), (9, .i ((verR t r y p).2.1)), (10, .i ((verR t r y p).2.2.1)), (11, .i ((verR t r y p).2.2.2))], []⟩
          (enr [] ⟨(slot_i rfl (by first | rfl | omega | assumption | (rw [hVV]) | (rw [hV, hVV]))), (slot_i rfl (by first | rfl | omega | assumption | (rw [hVV]) | (rw [hV, hVV]))), (slot_i rfl (by first | rfl | omega | assumption | (rw [hVV]) | (rw [hV, hVV]))), (slot_i rfl (by first | rfl | omega | assumption | (rw [hVV]) | (rw [hV, hVV]))), trivial⟩ trivial) wr_nil⟩))
     ·
      apply aw_skip
      apply aw_seq
      apply aw_seq
      obtain ⟨hE0, hV⟩ := verR_4 hz0 (by rw [show decide ((40 : Int) < ((p.length : Nat) : Int)) = false by assumption, show anyLong p = false by assumption]; rfl) (by rw [show decide (9999 < y + ((p.length : Nat) : Int) - 1) = false by assumption, show (!(spotsB p.flatten)) = false by assumption]; rfl)
      obtain ⟨_, hp40, hs20, hy1, hspp⟩ := verE_0 hE0
      have hrs2 : r.sizes.length ≤ 1000000 := hr
      have n60 := (startE_0.1 hz0).1.len
      refine aw_ent (T := ⟨85, [1, 2, 3], [(2, .i y), (3, .ls 3), (4, .l (.ref 1004 0)), (12, .l (.ref 10210 0)), (36, .b (!(spotsB p.flatten)))], (Verify_frH13 t r p y)⟩)
          (Ent.trans (Ent.dupCell 10210 70001 1 123 [.i ((openV t r y).t.year), .i ((openV t r y).t.glo), .i ((openV t r y).t.ghi), .i ((openV t r y).t.wlo), .i ((openV t r y).t.whi), .i ((openV t r y).t.health), .ls 1, .i ((openV t r y).r.slo), .i ((openV t r y).r.shi), .i ((openV t r y).r.ulo), .i ((openV t r y).r.uhi), .i ((openV t r y).r.hlo), .i ((openV t r y).r.hhi), .i ((openV t r y).r.apart), .i ((openV t r y).r.blo), .i ((openV t r y).r.bhi), .ls 2, .i ((openV t r y).r.n0), .i ((openV t r y).r.n1), .i ((openV t r y).r.n2), .i ((openV t r y).r.n3), .i ((openV t r y).r.n4), .i ((openV t r y).r.opn), .i ((openV t r y).year), .i ((openV t r y).worst.girth), .i ((openV t r y).worst.side), .i ((openV t r y).worst.up), .i ((openV t r y).worst.heal), .i ((openV t r y).best.girth), .i ((openV t r y).best.side), .i ((openV t r y).best.up), .i ((openV t r y).best.heal)] 6 3 t.holes.length (Lst eH t.holes) rfl rfl rfl (by kernel_rfl) rfl) (enr [(2003, 70001)] ⟨rfl, rfl, rfl, rfl, rfl, trivial⟩ (cro rfl (cro rfl (cro rfl (cbl rfl rfl (cbl rfl rfl (cro rfl trivial)))))))) ?_
      refine awr []
       ⟨85, [1, 2, 3], [(2, .i y), (4, .l (.ref 1004 0)), (12, .l (.ref 10210 0)), (49, .ls 3), (50, .i ((p.length : Nat) : Int)), (51, .i 0)], (Verify_frH14 t r p y)⟩
       [] trivial ?_
      apply aw_block
      refine aw_loop (ι := Nat × TreeV × TreeV × Int) (fun zz => ⟨85, [1, 2, 3], [(2, .i y), (4, .l (.ref 1004 0)), (12, .l (.ref 2002 0)), (49, .ls 3), (50, .i ((p.length : Nat) : Int)), (51, .i ((zz.1 : Nat) : Int))], (Verify_frH19 r p zz.2.1 zz.2.2.1 zz.2.2.2)⟩) (fun zz => (zz.1 ≤ p.length) ∧ (zz.1 < p.length → startE zz.2.1 r (y + ((zz.1 : Nat) : Int)) = 0) ∧ (zz.2.1.holes.length ≤ 60) ∧ (verL r y zz.2.1 zz.1 (p.drop zz.1) = verL r y t 0 p)) (fun zz => p.length - zz.1) (0, t, t, y) ⟨(by (try dsimp only); first | omega | rfl | assumption | (simp; done)), (by (try dsimp only); intro _; simpa using hz0), (by (try dsimp only); first | omega | rfl | assumption | (simp; done)), (by (try dsimp only); rfl)⟩
          (enr [(2002, 10210), (2001, 1)] ⟨rfl, rfl, rfl, rfl, rfl, rfl, trivial⟩ (cro rfl (cro rfl (cbl rfl rfl (cro rfl (cbr rfl rfl (cro rfl trivial))))))) fun zz hp => ?_
      obtain ⟨i, tt, t2, y2⟩ := zz
      obtain ⟨hiL, hst, hlt, hq⟩ := hp
      dsimp only at hiL hst hlt hq
      show AW _ E _ _ ⟨85, [1, 2, 3], [(2, .i y), (4, .l (.ref 1004 0)), (12, .l (.ref 2002 0)), (49, .ls 3), (50, .i ((p.length : Nat) : Int)), (51, .i ((i : Nat) : Int))], (Verify_frH19 r p tt t2 y2)⟩
      apply aw_seq
      refine awr []
       ⟨85, [1, 2, 3], [(2, .i y), (4, .l (.ref 1004 0)), (12, .l (.ref 2002 0)), (49, .ls 3), (50, .i ((p.length : Nat) : Int)), (51, .i ((i : Nat) : Int)), (52, .b (decide (((i : Nat) : Int) < ((p.length : Nat) : Int))))], (Verify_frH19 r p tt t2 y2)⟩
       [] trivial ?_
      apply aw_seq
      refine aw_cond (b := decide (((i : Nat) : Int) < ((p.length : Nat) : Int))) rfl (fun h7 => ?_) (fun h7 => ?_)
      ·
       have h7p : ((i : Nat) : Int) < ((p.length : Nat) : Int) := dtr h7
       apply aw_skip
       apply aw_seq
       apply aw_block
       apply aw_seq
       refine awr [(1, .idx i), (2, .many [1055])]
        ⟨85, [1, 2, 3], [(2, .i y), (4, .l (.ref 1004 0)), (12, .l (.ref 2002 0)), (13, .i ((i : Nat) : Int)), (14, .ls 1055), (49, .ls 3), (50, .i ((p.length : Nat) : Int)), (51, .i ((i : Nat) : Int))], (Verify_frH21 r p tt i t2 y2)⟩
        [((i : Nat) : Int) = ((i : Nat) : Int), i < p.length, i < p.length] (al2 (by omega) (al2 (by omega) (al1 (by omega)))) ?_
       apply aw_seq
       have hst2 := hst (by omega)
       have hsl := hspp _ (ix_mem (l := p) (i := i) (by omega))
       have hsl2 := spotsB_iff.1 hsl
       have hsl3 := hs20 _ (ix_mem (l := p) (i := i) (by omega))
       have hxo := open_ok hst2
       have hrs3 : (openV t2 r y2).r.sizes.length ≤ 1000000 := hr
       have hy3 := (startE_0.1 hst2).2.2
       refine awr [(5, .call [2002, 2003, 2, 2001] (.l (.ref 10610 0)) [(10610, some (Verify_frK22 tt t2 r y2 y i))])]
        ⟨85, [1, 2, 3], [(2, .i y), (4, .l (.ref 1004 0)), (12, .l (.ref 10610 0)), (13, .i ((i : Nat) : Int)), (14, .ls 1055), (49, .ls 3), (50, .i ((p.length : Nat) : Int)), (51, .i ((i : Nat) : Int))], (Verify_frH24 r p tt i t2 y2 y)⟩
        [-9223372036854775808 ≤ (y + ((i : Nat) : Int)) ∧ (y + ((i : Nat) : Int)) < 9223372036854775808, CallOK Try.prog 79 [.l (.ref 2002 0), (Verify_frA23 tt), .i (y + ((i : Nat) : Int))] [2002, 2003, 2, 2001] [some (Verify_frK17 t2 r y2), some (Verify_frK18 t2), some (Verify_frK4 r), some (Verify_frK16 tt)] (.l (.ref 10610 0)) [(10610, some (Verify_frK22 tt t2 r y2 y i))]] (al2 (by omega) (al1 (cfr (in_fr (openV t2 r y2) tt (y + ((i : Nat) : Int)) (by first | omega | (simp; done) | assumption) (by first | omega | (simp; done) | assumption) (by first | assumption | exact hst2)) [(0, 2002), (3, 2001), (1, 2003), (2, 2), (5, 10610)] (dem_cons rfl (le_rblk rfl) (dem_cons rfl (le_ro (by first | omega | rfl | assumption) el_rfl) (dem_cons rfl (le_ro (by first | omega | rfl | assumption) el_rfl) (dem_cons rfl (le_ro rfl el_rfl) dem_nil))))))) ?_
       apply aw_seq
       apply aw_seq
       refine aw_ent (T := ⟨85, [1, 2, 3], [(2, .i y), (4, .l (.ref 1004 0)), (12, .l (.ref 10610 0)), (13, .i ((i : Nat) : Int)), (14, .ls 1055), (49, .ls 3), (50, .i ((p.length : Nat) : Int)), (51, .i ((i : Nat) : Int))], (Verify_frH26 r p tt i y)⟩)
           (enr [] ⟨rfl, rfl, rfl, rfl, rfl, rfl, rfl, rfl, trivial⟩ (cro rfl (cro rfl (cbl rfl rfl (cro rfl (cro rfl (cbl rfl (by exact (cells_cons (cell_i (by first | rfl | omega | assumption | (rfl) | (rw [hVV]) | (rw [hV, hVV]))) (cells_cons (cell_i (by first | rfl | omega | assumption | (rfl) | (rw [hVV]) | (rw [hV, hVV]))) (cells_cons (cell_i (by first | rfl | omega | assumption | (rfl) | (rw [hVV]) | (rw [hV, hVV]))) (cells_cons (cell_i (by first | rfl | omega | assumption | (rfl) | (rw [hVV]) | (rw [hV, hVV]))) (cells_cons (cell_i (by first | rfl | omega | assumption | (rfl) | (rw [hVV]) | (rw [hV, hVV]))) (cells_cons (cell_i (by first | rfl | omega | assumption | (rfl) | (rw [hVV]) | (rw [hV, hVV]))) (cells_cons rfl (cells_cons (cell_i (by first | rfl | omega | assumption | (rfl) | (rw [hVV]) | (rw [hV, hVV]))) (cells_cons (cell_i (by first | rfl | omega | assumption | (rfl) | (rw [hVV]) | (rw [hV, hVV]))) (cells_cons (cell_i (by first | rfl | omega | assumption | (rfl) | (rw [hVV]) | (rw [hV, hVV]))) (cells_cons (cell_i (by first | rfl | omega | assumption | (rfl) | (rw [hVV]) | (rw [hV, hVV]))) (cells_cons (cell_i (by first | rfl | omega | assumption | (rfl) | (rw [hVV]) | (rw [hV, hVV]))) (cells_cons (cell_i (by first | rfl | omega | assumption | (rfl) | (rw [hVV]) | (rw [hV, hVV]))) (cells_cons (cell_i (by first | rfl | omega | assumption | (rfl) | (rw [hVV]) | (rw [hV, hVV]))) (cells_cons (cell_i (by first | rfl | omega | assumption | (rfl) | (rw [hVV]) | (rw [hV, hVV]))) (cells_cons (cell_i (by first | rfl | omega | assumption | (rfl) | (rw [hVV]) | (rw [hV, hVV]))) (cells_cons rfl (cells_cons (cell_i (by first | rfl | omega | assumption | (rfl) | (rw [hVV]) | (rw [hV, hVV]))) (cells_cons (cell_i (by first | rfl | omega | assumption | (rfl) | (rw [hVV]) | (rw [hV, hVV]))) (cells_cons (cell_i (by first | rfl | omega | assumption | (rfl) | (rw [hVV]) | (rw [hV, hVV]))) (cells_cons (cell_i (by first | rfl | omega | assumption | (rfl) | (rw [hVV]) | (rw [hV, hVV]))) (cells_cons (cell_i (by first | rfl | omega | assumption | (rfl) | (rw [hVV]) | (rw [hV, hVV]))) (cells_cons (cell_i (by first | rfl | omega | assumption | (rfl) | (rw [hVV]) | (rw [hV, hVV]))) (cells_cons (cell_i (by first | rfl | omega | assumption | (rfl) | (rw [hVV]) | (rw [hV, hVV]))) (cells_cons (cell_i (by first | rfl | omega | assumption | (rfl) | (rw [hVV]) | (rw [hV, hVV]))) (cells_cons (cell_i (by first | rfl | omega | assumption | (rfl) | (rw [hVV]) | (rw [hV, hVV]))) (cells_cons (cell_i (by first | rfl | omega | assumption | (rfl) | (rw [hVV]) | (rw [hV, hVV]))) (cells_cons (cell_i (by first | rfl | omega | assumption | (rfl) | (rw [hVV]) | (rw [hV, hVV]))) (cells_cons (cell_i (by first | rfl | omega | assumption | (rfl) | (rw [hVV]) | (rw [hV, hVV]))) (cells_cons (cell_i (by first | rfl | omega | assumption | (rfl) | (rw [hVV]) | (rw [hV, hVV]))) (cells_cons (cell_i (by first | rfl | omega | assumption | (rfl) | (rw [hVV]) | (rw [hV, hVV]))) (cells_cons (cell_i (by first | rfl | omega | assumption | (rfl) | (rw [hVV]) | (rw [hV, hVV]))) rfl))))))))))))))))))))))))))))))))) trivial))))))) ?_
       refine awr [(2, .call [10610, 2001, 2, 1055] ((Verify_frA27 tt r y i p)) []), (3, .new 1015)]
        ⟨85, [1, 2, 3], [(2, .i y), (4, .l (.ref 1004 0)), (12, .l (.ref 10610 0)), (13, .i ((i : Nat) : Int)), (14, .ls 1055), (15, .l (.ref 1015 0)), (49, .ls 3), (50, .i ((p.length : Nat) : Int)), (51, .i ((i : Nat) : Int))], (Verify_frH29 r p tt y i)⟩
        [CallOK Try.prog 76 [.l (.ref 10610 0), .ls 1055] [10610, 2001, 2, 1055] [some (Verify_frK25 tt r y i), some (Verify_frK16 tt), some (Verify_frK4 r), some (Verify_frK20 p i)] ((Verify_frA27 tt r y i p)) []] (al1 (cfr (keeps_fr (openV tt r (y + ((i : Nat) : Int))) (ix p i) (by assumption) (by first | assumption) (by omega)) [(0, 10610), (3, 1055), (1, 2001), (2, 2)] (dem_cons rfl (le_blk_r rfl) (dem_cons rfl (le_ro (by first | omega | rfl | assumption) el_rfl) (dem_cons rfl (le_ro (by first | omega | rfl | assumption) el_rfl) (dem_cons rfl (le_ro rfl el_rfl) dem_nil)))))) ?_
       apply aw_seq
       rcases Bool.eq_false_or_eq_true ((decide ((keepsV (openV tt r (y + ((i : Nat) : Int))) (ix p i)).at_ ≠ (-1)) || decide ((keepsV (openV tt r (y + ((i : Nat) : Int))) (ix p i)).rule ≠ 0))) with h8 | h8
       ·
        refine awd [(1, .call [] (.agg [.i (-1), .i 0]) []), (2, .dec true)]
         ⟨85, [1, 2, 3], [(2, .i y), (4, .l (.ref 1004 0)), (12, .l (.ref 10610 0)), (13, .i ((i : Nat) : Int)), (14, .ls 1055), (15, .l (.ref 1015 0)), (49, .ls 3), (50, .i ((p.length : Nat) : Int)), (51, .i ((i : Nat) : Int)), (67, .b true)], (Verify_frH29 r p tt y i)⟩
         [CallOK Try.prog 82 [] [] [] (.agg [.i (-1), .i 0]) [], BinRun Try.prog .neq 140 (.tmp 65) (.tmp 66) (.agg #[.int .i64 ((keepsV (openV tt r (y + ((i : Nat) : Int))) (ix p i)).at_), .int .i64 ((keepsV (openV tt r (y + ((i : Nat) : Int))) (ix p i)).rule)]) (.agg #[.int .i64 (-1), .int .i64 0]) (.bool true)] (al2 (cfr (none_fr ) [] dem_nil) (al1 (bin_neq_F ((keepsV (openV tt r (y + ((i : Nat) : Int))) (ix p i)).at_) ((keepsV (openV tt r (y + ((i : Nat) : Int))) (ix p i)).rule) (-1) 0 h8))) ?_
        refine aw_true rfl ?_
        apply aw_seq
        have hnf : 0 ≤ (keepsV (openV tt r (y + ((i : Nat) : Int))) (ix p i)).at_ := of_decide_eq_true (by rw [← fault_iff]; assumption)
        have hVV : verL r y t 0 p = (((i : Nat) : Int), (keepsV (openV tt r (y + ((i : Nat) : Int))) (ix p i)).at_, (keepsV (openV tt r (y + ((i : Nat) : Int))) (ix p i)).rule, 0) := by rw [← hq, drop_ix (l := p) (i := i) (by omega)]; exact verL_f1 hnf
        refine awd []
         ⟨85, [1, 2, 3], [(8, .i ((i : Nat) : Int)), (9, .i ((keepsV (openV tt r (y + ((i : Nat) : Int))) (ix p i)).at_)), (10, .i ((keepsV (openV tt r (y + ((i : Nat) : Int))) (ix p i)).rule)), (11, .i 0)], []⟩
         [] trivial ?_
        exact aw_ret (ret_then (ret_block (ret_then (ret_then (ret_block (ret_then ⟨.inr rfl, eok ⟨85, [1, 2, 3], [(8, .i ((verR t r y p).1)), (9, .i ((verR t r y p).2.1)), (10, .i ((verR t r y p).2.2.1)), (11, .i ((verR t r y p).2.2.2))], []⟩
            (enr [] ⟨(slot_i rfl (by first | rfl | omega | assumption | (rw [hVV]) | (rw [hV, hVV]))), (slot_i rfl (by first | rfl | omega | assumption | (rw [hVV]) | (rw [hV, hVV]))), (slot_i rfl (by first | rfl | omega | assumption | (rw [hVV]) | (rw [hV, hVV]))), (slot_i rfl (by first | rfl | omega | assumption | (rw [hVV]) | (rw [hV, hVV]))), trivial⟩ trivial) wr_nil⟩))))))
       ·
        refine awd [(1, .call [] (.agg [.i (-1), .i 0]) []), (2, .dec false)]
         ⟨85, [1, 2, 3], [(2, .i y), (4, .l (.ref 1004 0)), (12, .l (.ref 10610 0)), (13, .i ((i : Nat) : Int)), (14, .ls 1055), (15, .l (.ref 1015 0)), (49, .ls 3), (50, .i ((p.length : Nat) : Int)), (51, .i ((i : Nat) : Int)), (67, .b false)], (Verify_frH29 r p tt y i)⟩
         [CallOK Try.prog 82 [] [] [] (.agg [.i (-1), .i 0]) [], BinRun Try.prog .neq 140 (.tmp 65) (.tmp 66) (.agg #[.int .i64 ((keepsV (openV tt r (y + ((i : Nat) : Int))) (ix p i)).at_), .int .i64 ((keepsV (openV tt r (y + ((i : Nat) : Int))) (ix p i)).rule)]) (.agg #[.int .i64 (-1), .int .i64 0]) (.bool false)] (al2 (cfr (none_fr ) [] dem_nil) (al1 (bin_neq_F ((keepsV (openV tt r (y + ((i : Nat) : Int))) (ix p i)).at_) ((keepsV (openV tt r (y + ((i : Nat) : Int))) (ix p i)).rule) (-1) 0 h8))) ?_
        refine aw_false rfl ?_
        apply aw_skip
        apply aw_seq
        have hnf : ¬ 0 ≤ (keepsV (openV tt r (y + ((i : Nat) : Int))) (ix p i)).at_ := of_decide_eq_false (by rw [← fault_iff]; assumption)
        refine awr []
         ⟨85, [1, 2, 3], [(2, .i y), (4, .l (.ref 1004 0)), (12, .l (.ref 10610 0)), (13, .i ((i : Nat) : Int)), (14, .ls 1055), (49, .ls 3), (50, .i ((p.length : Nat) : Int)), (51, .i ((i : Nat) : Int))], (Verify_frH26 r p tt i y)⟩
         [] trivial ?_
        apply aw_seq
        refine awr [(5, .call [2001, 1055] (.tup [.agg [.i ((drillV tt (y + ((i : Nat) : Int)) (ix p i)).year), .i ((drillV tt (y + ((i : Nat) : Int)) (ix p i)).glo), .i ((drillV tt (y + ((i : Nat) : Int)) (ix p i)).ghi), .i ((drillV tt (y + ((i : Nat) : Int)) (ix p i)).wlo), .i ((drillV tt (y + ((i : Nat) : Int)) (ix p i)).whi), .i ((drillV tt (y + ((i : Nat) : Int)) (ix p i)).health), .ls 10790], .one (.v (.bool (drillB tt (y + ((i : Nat) : Int)) (ix p i))))]) [(10790, some (Verify_frK30 tt y i p))])]
         ⟨85, [1, 2, 3], [(2, .i y), (4, .l (.ref 1004 0)), (12, .l (.ref 10610 0)), (16, .b (drillB tt (y + ((i : Nat) : Int)) (ix p i))), (49, .ls 3), (50, .i ((p.length : Nat) : Int)), (51, .i ((i : Nat) : Int))], (Verify_frH32 r p tt y i)⟩
         [-9223372036854775808 ≤ (y + ((i : Nat) : Int)) ∧ (y + ((i : Nat) : Int)) < 9223372036854775808, CallOK Try.prog 77 [(Verify_frA23 tt), .i (y + ((i : Nat) : Int)), .ls 1055] [2001, 1055] [some (Verify_frK16 tt), some (Verify_frK20 p i)] (.tup [.agg [.i ((drillV tt (y + ((i : Nat) : Int)) (ix p i)).year), .i ((drillV tt (y + ((i : Nat) : Int)) (ix p i)).glo), .i ((drillV tt (y + ((i : Nat) : Int)) (ix p i)).ghi), .i ((drillV tt (y + ((i : Nat) : Int)) (ix p i)).wlo), .i ((drillV tt (y + ((i : Nat) : Int)) (ix p i)).whi), .i ((drillV tt (y + ((i : Nat) : Int)) (ix p i)).health), .ls 10790], .one (.v (.bool (drillB tt (y + ((i : Nat) : Int)) (ix p i))))]) [(10790, some (Verify_frK30 tt y i p))]] (al2 (by omega) (al1 (cfr (drill_fr tt (y + ((i : Nat) : Int)) (ix p i) (by first | omega | (have := (girthE_0.1 (by assumption)).1.len; omega)) (by omega)) [(1, 2001), (3, 1055), (9, 10790)] (dem_cons rfl (le_ro rfl el_rfl) (dem_cons rfl (le_ro rfl el_rfl) dem_nil))))) ?_
        apply aw_seq
        refine awr []
         ⟨85, [1, 2, 3], [(2, .i y), (4, .l (.ref 1004 0)), (12, .l (.ref 10610 0)), (49, .ls 3), (50, .i ((p.length : Nat) : Int)), (51, .i ((i : Nat) : Int)), (83, .b (!(drillB tt (y + ((i : Nat) : Int)) (ix p i))))], (Verify_frH32 r p tt y i)⟩
         [] trivial ?_
        refine aw_cond (b := (!(drillB tt (y + ((i : Nat) : Int)) (ix p i)))) rfl (fun h9 => ?_) (fun h9 => ?_)
        ·
         apply aw_seq
         have hVV : verL r y t 0 p = (0, 0, 0, 8) := by rw [← hq, drop_ix (l := p) (i := i) (by omega)]; exact verL_f2 hnf (by simpa using (by assumption : (!(drillB _ _ _)) = true))
         refine awr []
          ⟨85, [1, 2, 3], [(8, .i 0), (9, .i 0), (10, .i 0), (11, .i 8)], []⟩
          [] trivial ?_
         exact aw_ret (ret_block (ret_then (ret_then (ret_block (ret_then ⟨.inr rfl, eok ⟨85, [1, 2, 3], [(8, .i ((verR t r y p).1)), (9, .i ((verR t r y p).2.1)), (10, .i ((verR t r y p).2.2.1)), (11, .i ((verR t r y p).2.2.2))], []⟩
             (enr [] ⟨(slot_i rfl (by first | rfl | omega | assumption | (rw [hVV]) | (rw [hV, hVV]))), (slot_i rfl (by first | rfl | omega | assumption | (rw [hVV]) | (rw [hV, hVV]))), (slot_i rfl (by first | rfl | omega | assumption | (rw [hVV]) | (rw [hV, hVV]))), (slot_i rfl (by first | rfl | omega | assumption | (rw [hVV]) | (rw [hV, hVV]))), trivial⟩ trivial) wr_nil⟩)))))
        ·
         apply aw_skip
         refine awr [(0, .num (((i + 1) : Nat) : Int))]
          ⟨85, [1, 2, 3], [(2, .i y), (4, .l (.ref 1004 0)), (12, .l (.ref 10610 0)), (49, .ls 3), (50, .i ((p.length : Nat) : Int)), (51, .i (((i + 1) : Nat) : Int))], (Verify_frH32 r p tt y i)⟩
          [(((i : Nat) : Int) + 1) = (((i + 1) : Nat) : Int), -9223372036854775808 ≤ (((i + 1) : Nat) : Int) ∧ (((i + 1) : Nat) : Int) < 9223372036854775808] (al2 (by omega) (al1 (by omega))) ?_
         exact ⟨((i + 1), (drillV tt (y + ((i : Nat) : Int)) (ix p i)), tt, (y + ((i : Nat) : Int))), ⟨(by (try dsimp only); first | omega | rfl | assumption | (simp; done)), (by (try dsimp only); intro h1; exact (by have q := drill_start hst2 hsl (by first | assumption | simpa using (by assumption : (!(drillB _ _ _)) = false)) (by omega); rw [show y + (((i + 1) : Nat) : Int) = y + ((i : Nat) : Int) + 1 by omega]; exact q)), (by (try dsimp only); exact drill_len (by first | assumption | simpa using (by assumption : (!(drillB _ _ _)) = false))), (by (try dsimp only); rw [← hq, drop_ix (l := p) (i := i) (by omega)]; exact (verL_f3 hnf (by first | assumption | simpa using (by assumption : (!(drillB _ _ _)) = false))).symm)⟩, (show p.length - (i + 1) < p.length - i by first | omega | rfl | assumption),
             (enr [(2002, 10610), (2001, 10790), (2003, 2001)] ⟨rfl, rfl, rfl, rfl, rfl, rfl, trivial⟩ (cro rfl (cro rfl (cbl rfl rfl (cvr rfl (cbr rfl rfl (cro rfl trivial)))))))⟩
      ·
       have h7p : ((p.length : Nat) : Int) ≤ ((i : Nat) : Int) := dlt h7
       refine aw_exit (exit_then (exit_then (exit_in ?_)))
       apply aw_seq
       have hVV : verL r y t 0 p = (-1, 0, 0, 0) := by rw [← hq, List.drop_eq_nil_of_le (by omega)]; rfl
       refine awr []
        ⟨85, [1, 2, 3], [(8, .i (-1)), (9, .i 0), (10, .i 0), (11, .i 0)], []⟩
        [] trivial ?_
       exact aw_ret ⟨.inr rfl, eok ⟨85, [1, 2, 3], [(8, .i ((verR t r y p).1)), (9, .i ((verR t r y p).2.1)), (10, .i ((verR t r y p).2.2.1)), (11, .i ((verR t r y p).2.2.2))], []⟩
           (enr [] ⟨(slot_i rfl (by first | rfl | omega | assumption | (rw [hVV]) | (rw [hV, hVV]))), (slot_i rfl (by first | rfl | omega | assumption | (rw [hVV]) | (rw [hV, hVV]))), (slot_i rfl (by first | rfl | omega | assumption | (rw [hVV]) | (rw [hV, hVV]))), (slot_i rfl (by first | rfl | omega | assumption | (rw [hVV]) | (rw [hV, hVV]))), trivial⟩ trivial) wr_nil⟩
 ·
  have hz0 : startE t r y ≠ 0 := deq h1
  refine awr [(3, .call [1, 2] (.tup [.one (.v (.pointer none)), .one (.i (startE t r y))]) [])]
   ⟨85, [1, 2, 3], [(2, .i y), (3, .ls 3), (4, .l (.ref 1004 0)), (11, .i (startE t r y)), (12, .l (.v (.pointer none)))], (Verify_frH33 t p)⟩
   [CallOK Try.prog 61 [(Verify_frA1 t), (Verify_frA2 r), .i y] [1, 2] [some (Verify_frK3 t), some (Verify_frK4 r)] (.tup [.one (.v (.pointer none)), .one (.i (startE t r y))]) []] (al1 (cfr (open_bad_fr t r y (by first | omega | (simp; done) | assumption) (by first | omega | (simp; done) | assumption) (deq h1)) [(1, 1), (2, 2)] (dem_cons rfl (le_ro rfl el_rfl) (dem_cons rfl (le_ro rfl el_rfl) dem_nil)))) ?_
  apply aw_seq
  apply aw_block
  apply aw_seq
  refine awr []
   ⟨85, [1, 2, 3], [(2, .i y), (3, .ls 3), (4, .l (.ref 1004 0)), (11, .i (startE t r y)), (12, .l (.v (.pointer none))), (24, .b (decide ((startE t r y) ≠ 0)))], (Verify_frH33 t p)⟩
   [] trivial ?_
  have h10 : (decide ((startE t r y) ≠ 0)) = true := by simp_all
  refine aw_cond (b := decide ((startE t r y) ≠ 0)) rfl (fun _ => ?_) (fun h => Bool.noConfusion (h10.symm.trans h))
  apply aw_seq
  have hVV := verR_1 (p := p) hz0
  refine awr []
   ⟨85, [1, 2, 3], [(8, .i 0), (9, .i 0), (10, .i 0), (11, .i (startE t r y))], []⟩
   [] trivial ?_
  exact aw_ret (ret_block (ret_then ⟨.inr rfl, eok ⟨85, [1, 2, 3], [(8, .i ((verR t r y p).1)), (9, .i ((verR t r y p).2.1)), (10, .i ((verR t r y p).2.2.1)), (11, .i ((verR t r y p).2.2.2))], []⟩
      (enr [] ⟨(slot_i rfl (by first | rfl | omega | assumption | (rw [hVV]) | (rw [hV, hVV]))), (slot_i rfl (by first | rfl | omega | assumption | (rw [hVV]) | (rw [hV, hVV]))), (slot_i rfl (by first | rfl | omega | assumption | (rw [hVV]) | (rw [hV, hVV]))), (slot_i rfl (by first | rfl | omega | assumption | (rw [hVV]) | (rw [hV, hVV]))), trivial⟩ trivial) wr_nil⟩))
end Go.Proofs.Ytbpblhmigijkaaa
