/- Plans that are verified. -/
import Derived.Test.YtbpblhmigijkaaaTvc
namespace Go.Proofs.Ytbpblhmigijkaaa
open Go.RowKit
set_option linter.unusedVariables false
set_option linter.unusedSimpArgs false
theorem bin_eq_F {xo yo : Operand} (a0 a1 b0 b1 : Int) {r : Bool} (h : (decide (a0 = b0) && decide (a1 = b1)) = r) : BinRun Try.prog .eql 140 xo yo (.agg #[.int .i64 a0, .int .i64 a1]) (.agg #[.int .i64 b0, .int .i64 b1]) (.bool r) := by
 subst h
 intro w
 have h1 : Try.prog.eqGuardType Try.prog.depth 140 = false := by kernel_rfl
 have h2 : Try.prog.stoodInHeld 140 = false := by kernel_rfl
 have h3 : Try.prog.underlying 140 = some (.struct (Try.prog.fieldsOf 140)) := by kernel_rfl
 have h4 : Try.prog.underlying 3 = some (.int .i64) := by kernel_rfl
 have h5 : (Try.prog.fieldsOf 140).toList = [⟨"at", 3, 0, false, "", "spile/trunk", 0⟩, ⟨"rule", 3, 1, false, "", "spile/trunk", 8⟩] := by kernel_rfl
 have p0 : ∀ w, (part 3 #[.int .i64 a0, .int .i64 a1] 0).run Try.prog w = .ok (.int .i64 a0) w := fun _ => by kernel_rfl
 have q0 : ∀ w, (part 3 #[.int .i64 b0, .int .i64 b1] 0).run Try.prog w = .ok (.int .i64 b0) w := fun _ => by kernel_rfl
 have p1 : ∀ w, (part 3 #[.int .i64 a0, .int .i64 a1] 1).run Try.prog w = .ok (.int .i64 a1) w := fun _ => by kernel_rfl
 have q1 : ∀ w, (part 3 #[.int .i64 b0, .int .i64 b1] 1).run Try.prog w = .ok (.int .i64 b1) w := fun _ => by kernel_rfl
 have g1 : ∀ w (u v : Int), (Op.equalIn 9999 3 (.int .i64 u) (.int .i64 v)).run Try.prog w = .ok (u == v) w := fun w u v => run_equalIn_int w 9998 _ _ _ u v h4
 have g2 : ∀ w, (Op.equalIn 10000 140 (.agg #[.int .i64 a0, .int .i64 a1]) (.agg #[.int .i64 b0, .int .i64 b1])).run Try.prog w = .ok ((a0 == b0) && (a1 == b1)) w := fun w => by
  rw [run_equalIn_agg w 9999 _ _ _ h3 h2, h5]
  simp only [Op.eqFields, Sem.run_bind, p0, q0, p1, q1, g1, Result.andThen_ok]
  cases e0 : (a0 == b0) <;> cases e1 : (a1 == b1) <;> simp [Sem.run_bind, p0, q0, p1, q1, g1, e0, e1]
 rw [Sem.run_bind, run_eqGuard_agg _ _ _ _ _ _ _ h1]
 simp only [Result.andThen_ok]
 rw [run_eql_struct, g2]
 by_cases e0 : a0 = b0 <;> by_cases e1 : a1 = b1 <;> simp [e0, e1, Result.andThen]
def in_frA1 (t : TreeV) : SV := .agg [.i t.year, .i t.glo, .i t.ghi, .i t.wlo, .i t.whi, .i t.health, .ls 3]
def in_frK2 (x : TrkV) : Cn := .rblk [.i x.t.year, .i x.t.glo, .i x.t.ghi, .i x.t.wlo, .i x.t.whi, .i x.t.health, .ls 1, .i x.r.slo, .i x.r.shi, .i x.r.ulo, .i x.r.uhi, .i x.r.hlo, .i x.r.hhi, .i x.r.apart, .i x.r.blo, .i x.r.bhi, .ls 2, .i x.r.n0, .i x.r.n1, .i x.r.n2, .i x.r.n3, .i x.r.n4, .i x.r.opn, .i x.year, .i x.worst.girth, .i x.worst.side, .i x.worst.up, .i x.worst.heal, .i x.best.girth, .i x.best.side, .i x.best.up, .i x.best.heal]
def in_frK3 (x : TrkV) : Cn := .ro 3 x.t.holes.length (Lst eH x.t.holes)
def in_frK4 (x : TrkV) : Cn := .ro 2 x.r.sizes.length (Lst eZ x.r.sizes)
def in_frK5 (t : TreeV) : Cn := .ro 3 t.holes.length (Lst eH t.holes)
def in_frH6 (x : TrkV) (t : TreeV) : List (Nat × Option Cn) := [(0, some (in_frK2 x)), (1, some (in_frK3 x)), (2, some (in_frK4 x)), (3, some (in_frK5 t))]
def in_frK7 (t : TreeV) : Cn := .blk 26 [.i t.year, .i t.glo, .i t.ghi, .i t.wlo, .i t.whi, .i t.health, .ls 3]
def in_frH8 (x : TrkV) (t : TreeV) : List (Nat × Option Cn) := [(0, some (in_frK2 x)), (1, some (in_frK3 x)), (2, some (in_frK4 x)), (3, some (in_frK5 t)), (1004, some (in_frK7 t))]
def in_frK9 (t : TreeV) (x : TrkV) (y : Int) : Cn := .blk 123 [.i ((openV t x.r y).t.year), .i ((openV t x.r y).t.glo), .i ((openV t x.r y).t.ghi), .i ((openV t x.r y).t.wlo), .i ((openV t x.r y).t.whi), .i ((openV t x.r y).t.health), .ls 3, .i ((openV t x.r y).r.slo), .i ((openV t x.r y).r.shi), .i ((openV t x.r y).r.ulo), .i ((openV t x.r y).r.uhi), .i ((openV t x.r y).r.hlo), .i ((openV t x.r y).r.hhi), .i ((openV t x.r y).r.apart), .i ((openV t x.r y).r.blo), .i ((openV t x.r y).r.bhi), .ls 2, .i ((openV t x.r y).r.n0), .i ((openV t x.r y).r.n1), .i ((openV t x.r y).r.n2), .i ((openV t x.r y).r.n3), .i ((openV t x.r y).r.n4), .i ((openV t x.r y).r.opn), .i ((openV t x.r y).year), .i ((openV t x.r y).worst.girth), .i ((openV t x.r y).worst.side), .i ((openV t x.r y).worst.up), .i ((openV t x.r y).worst.heal), .i ((openV t x.r y).best.girth), .i ((openV t x.r y).best.side), .i ((openV t x.r y).best.up), .i ((openV t x.r y).best.heal)]
def in_frA10 (x : TrkV) : SV := .agg [.i x.r.slo, .i x.r.shi, .i x.r.ulo, .i x.r.uhi, .i x.r.hlo, .i x.r.hhi, .i x.r.apart, .i x.r.blo, .i x.r.bhi, .ls 2, .i x.r.n0, .i x.r.n1, .i x.r.n2, .i x.r.n3, .i x.r.n4, .i x.r.opn]
def in_frH11 (x : TrkV) (t : TreeV) (y : Int) : List (Nat × Option Cn) := [(2, some (in_frK4 x)), (3, some (in_frK5 t)), (10160, some (in_frK9 t x y))]
set_option maxRecDepth 100000 in
theorem in_fr (x : TrkV) (t : TreeV) (y : Int) (ht : t.holes.length ≤ 1000000) (hr : x.r.sizes.length ≤ 1000000) (h0 : startE t x.r y = 0) : CallFr Try.prog 79 [.l (.ref 0 0), (in_frA1 t), .i y] [0, 1, 2, 3] [some (.rblk [.i x.t.year, .i x.t.glo, .i x.t.ghi, .i x.t.wlo, .i x.t.whi, .i x.t.health, .ls 1, .i x.r.slo, .i x.r.shi, .i x.r.ulo, .i x.r.uhi, .i x.r.hlo, .i x.r.hhi, .i x.r.apart, .i x.r.blo, .i x.r.bhi, .ls 2, .i x.r.n0, .i x.r.n1, .i x.r.n2, .i x.r.n3, .i x.r.n4, .i x.r.opn, .i x.year, .i x.worst.girth, .i x.worst.side, .i x.worst.up, .i x.worst.heal, .i x.best.girth, .i x.best.side, .i x.best.up, .i x.best.heal]), some (.ro 3 x.t.holes.length (Lst eH x.t.holes)), some (.ro 2 x.r.sizes.length (Lst eZ x.r.sizes)), some (.ro 3 t.holes.length (Lst eH t.holes))] (.l (.ref 5 0)) [(5, some (.blk 123 [.i ((openV t x.r y).t.year), .i ((openV t x.r y).t.glo), .i ((openV t x.r y).t.ghi), .i ((openV t x.r y).t.wlo), .i ((openV t x.r y).t.whi), .i ((openV t x.r y).t.health), .ls 3, .i ((openV t x.r y).r.slo), .i ((openV t x.r y).r.shi), .i ((openV t x.r y).r.ulo), .i ((openV t x.r y).r.uhi), .i ((openV t x.r y).r.hlo), .i ((openV t x.r y).r.hhi), .i ((openV t x.r y).r.apart), .i ((openV t x.r y).r.blo), .i ((openV t x.r y).r.bhi), .ls 2, .i ((openV t x.r y).r.n0), .i ((openV t x.r y).r.n1), .i ((openV t x.r y).r.n2), .i ((openV t x.r y).r.n3), .i ((openV t x.r y).r.n4), .i ((openV t x.r y).r.opn), .i ((openV t x.r y).year), .i ((openV t x.r y).worst.girth), .i ((openV t x.r y).worst.side), .i ((openV t x.r y).worst.up), .i ((openV t x.r y).worst.heal), .i ((openV t x.r y).best.girth), .i ((openV t x.r y).best.side), .i ((openV t x.r y).best.up), .i ((openV t x.r y).best.heal)]))] := by
 have hs0 : decide (startE t x.r y = 0) = true := decide_eq_true h0
 refine callFr_of (fn := Try.f79) (by kernel_rfl) rfl (by kernel_rfl) (by kernel_rfl) fun E => ?_
 refine aw_ent (T := ⟨20, [0, 1, 2, 3], [(0, .l (.ref 0 0)), (1, (in_frA1 t)), (2, .i y)], (in_frH6 x t)⟩) (Ent.refl _) ?_
 apply aw_seq
 refine awr [(0, .new 1004)]
  ⟨20, [0, 1, 2, 3], [(0, .l (.ref 0 0)), (2, .i y), (4, .l (.ref 1004 0))], (in_frH8 x t)⟩
  [] trivial ?_
 apply aw_seq
 refine awd [(6, .call [3, 2] (.tup [.one (.ref 10160 0), .one (.i 0)]) [(10160, some (in_frK9 t x y))])]
  ⟨20, [0, 1, 2, 3], [(7, .l (.ref 10160 0))], (in_frH11 x t y)⟩
  [CallOK Try.prog 61 [(in_frA1 t), (in_frA10 x), .i y] [3, 2] [some (in_frK5 t), some (in_frK4 x)] (.tup [.one (.ref 10160 0), .one (.i 0)]) [(10160, some (in_frK9 t x y))]] (al1 (cfr (open_ok_fr t x.r y (by first | omega | (simp; done) | assumption) (by first | omega | (simp; done) | assumption) (dtr hs0)) [(1, 3), (2, 2), (5, 10160)] (dem_cons rfl (le_ro rfl el_rfl) (dem_cons rfl (le_ro rfl el_rfl) dem_nil)))) ?_
 have hx := open_ok (dtr hs0)
 apply aw_seq
 refine awr []
  ⟨20, [0, 1, 2, 3], [(6, .l (.ref 10160 0))], (in_frH11 x t y)⟩
  [] trivial ?_
 exact aw_ret ⟨.inr rfl, eok ⟨20, [0, 1, 2, 3], [(6, .l (.ref 5 0))], [(5, some (in_frK9 t x y))]⟩
     (enr [(5, 10160)] ⟨rfl, trivial⟩ (cbl rfl rfl trivial)) (wr_cons rfl plain_blk wr_nil)⟩
end Go.Proofs.Ytbpblhmigijkaaa
