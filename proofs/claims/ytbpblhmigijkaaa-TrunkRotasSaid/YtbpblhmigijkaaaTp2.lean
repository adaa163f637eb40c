/- At a height: what is free, how many taps, spots. -/
import Derived.Test.YtbpblhmigijkaaaTm
namespace Go.Proofs.Ytbpblhmigijkaaa
open Go.RowKit
set_option linter.unusedVariables false
set_option linter.unusedSimpArgs false
def at_ok_frA1 (t : TreeV) : SV := .agg [.i t.year, .i t.glo, .i t.ghi, .i t.wlo, .i t.whi, .i t.health, .ls 1]
def at_ok_frA2 (r : RuleV) : SV := .agg [.i r.slo, .i r.shi, .i r.ulo, .i r.uhi, .i r.hlo, .i r.hhi, .i r.apart, .i r.blo, .i r.bhi, .ls 2, .i r.n0, .i r.n1, .i r.n2, .i r.n3, .i r.n4, .i r.opn]
def at_ok_frK3 (t : TreeV) : Cn := .ro 3 t.holes.length (Lst eH t.holes)
def at_ok_frK4 (r : RuleV) : Cn := .ro 2 r.sizes.length (Lst eZ r.sizes)
def at_ok_frK5 (t : TreeV) : Cn := .blk 26 [.i t.year, .i t.glo, .i t.ghi, .i t.wlo, .i t.whi, .i t.health, .ls 1]
def at_ok_frK6 (r : RuleV) : Cn := .blk 30 [.i r.slo, .i r.shi, .i r.ulo, .i r.uhi, .i r.hlo, .i r.hhi, .i r.apart, .i r.blo, .i r.bhi, .ls 2, .i r.n0, .i r.n1, .i r.n2, .i r.n3, .i r.n4, .i r.opn]
def at_ok_frH7 (t : TreeV) (r : RuleV) : List (Nat × Option Cn) := [(1, some (at_ok_frK3 t)), (2, some (at_ok_frK4 r)), (1004, some (at_ok_frK5 t)), (1005, some (at_ok_frK6 r))]
def at_ok_frK8 (t : TreeV) (r : RuleV) (y : Int) : Cn := .blk 123 [.i ((openV t r y).t.year), .i ((openV t r y).t.glo), .i ((openV t r y).t.ghi), .i ((openV t r y).t.wlo), .i ((openV t r y).t.whi), .i ((openV t r y).t.health), .ls 1, .i ((openV t r y).r.slo), .i ((openV t r y).r.shi), .i ((openV t r y).r.ulo), .i ((openV t r y).r.uhi), .i ((openV t r y).r.hlo), .i ((openV t r y).r.hhi), .i ((openV t r y).r.apart), .i ((openV t r y).r.blo), .i ((openV t r y).r.bhi), .ls 2, .i ((openV t r y).r.n0), .i ((openV t r y).r.n1), .i ((openV t r y).r.n2), .i ((openV t r y).r.n3), .i ((openV t r y).r.n4), .i ((openV t r y).r.opn), .i ((openV t r y).year), .i ((openV t r y).worst.girth), .i ((openV t r y).worst.side), .i ((openV t r y).worst.up), .i ((openV t r y).worst.heal), .i ((openV t r y).best.girth), .i ((openV t r y).best.side), .i ((openV t r y).best.up), .i ((openV t r y).best.heal)]
def at_ok_frH9 (t : TreeV) (r : RuleV) (y : Int) : List (Nat × Option Cn) := [(1, some (at_ok_frK3 t)), (2, some (at_ok_frK4 r)), (10160, some (at_ok_frK8 t r y))]
set_option maxRecDepth 100000 in
theorem at_ok_fr (t : TreeV) (r : RuleV) (y e : Int) (ht : t.holes.length ≤ 1000000) (hr : r.sizes.length ≤ 1000000) (h0 : startE t r y = 0) (hw : within 0 5000 [e] = true) : CallFr Try.prog 65 [(at_ok_frA1 t), (at_ok_frA2 r), .i y, .i e] [1, 2] [some (.ro 3 t.holes.length (Lst eH t.holes)), some (.ro 2 r.sizes.length (Lst eZ r.sizes))] (.tup [.one (.ref 5 0), .one (.i 0)]) [(5, some (.blk 123 [.i ((openV t r y).t.year), .i ((openV t r y).t.glo), .i ((openV t r y).t.ghi), .i ((openV t r y).t.wlo), .i ((openV t r y).t.whi), .i ((openV t r y).t.health), .ls 1, .i ((openV t r y).r.slo), .i ((openV t r y).r.shi), .i ((openV t r y).r.ulo), .i ((openV t r y).r.uhi), .i ((openV t r y).r.hlo), .i ((openV t r y).r.hhi), .i ((openV t r y).r.apart), .i ((openV t r y).r.blo), .i ((openV t r y).r.bhi), .ls 2, .i ((openV t r y).r.n0), .i ((openV t r y).r.n1), .i ((openV t r y).r.n2), .i ((openV t r y).r.n3), .i ((openV t r y).r.n4), .i ((openV t r y).r.opn), .i ((openV t r y).year), .i ((openV t r y).worst.girth), .i ((openV t r y).worst.side), .i ((openV t r y).worst.up), .i ((openV t r y).worst.heal), .i ((openV t r y).best.girth), .i ((openV t r y).best.side), .i ((openV t r y).best.up), .i ((openV t r y).best.heal)]))] := by
 have hs0 : decide (startE t r y = 0) = true := decide_eq_true h0
 refine callFr_of (fn := Try.f65) (by kernel_rfl) rfl (by kernel_rfl) (by kernel_rfl) fun E => ?_
 refine aw_ent (T := ⟨29, [1, 2], [(0, (at_ok_frA1 t)), (1, (at_ok_frA2 r)), (2, .i y), (3, .i e)], [(1, some (at_ok_frK3 t)), (2, some (at_ok_frK4 r))]⟩) (Ent.refl _) ?_
 apply aw_seq
 refine awr [(0, .new 1004), (1, .new 1005)]
  ⟨29, [1, 2], [(2, .i y), (3, .i e), (4, .l (.ref 1004 0)), (5, .l (.ref 1005 0))], (at_ok_frH7 t r)⟩
  [] trivial ?_
 apply aw_seq
 refine awr [(3, .call [1, 2] (.tup [.one (.ref 10160 0), .one (.i 0)]) [(10160, some (at_ok_frK8 t r y))])]
  ⟨29, [1, 2], [(3, .i e), (10, .l (.ref 10160 0)), (11, .i 0)], (at_ok_frH9 t r y)⟩
  [CallOK Try.prog 61 [(at_ok_frA1 t), (at_ok_frA2 r), .i y] [1, 2] [some (at_ok_frK3 t), some (at_ok_frK4 r)] (.tup [.one (.ref 10160 0), .one (.i 0)]) [(10160, some (at_ok_frK8 t r y))]] (al1 (cfr (open_ok_fr t r y (by first | omega | (simp; done) | assumption) (by first | omega | (simp; done) | assumption) (dtr hs0)) [(1, 1), (2, 2), (5, 10160)] (dem_cons rfl (le_ro rfl el_rfl) (dem_cons rfl (le_ro rfl el_rfl) dem_nil)))) ?_
 have hx := open_ok (dtr hs0)
 apply aw_seq
 apply aw_seq
 have h1 : (decide ((0 : Int) = (0 : Int))) = true := by decide
 refine awr [(2, .dec true), (4, .new 1023), (5, .call [1023] (.b (within 0 5000 ([e]))) [])]
  ⟨29, [1, 2], [(10, .l (.ref 10160 0)), (11, .i 0), (26, .b (!(within 0 5000 ([e]))))], (at_ok_frH9 t r y)⟩
  [decide ((0 : Int) = (0 : Int)) = true, CallOK Try.prog 55 [.i 0, .i 5000, .ls 1023] [1023] [some (.vec 3 1 1 (exEl 1 [.i e]))] (.b (within 0 5000 ([e]))) []] (al2 h1 (al1 (cfr (within_fr 0 5000 ([e]) (by first | omega | (simp; done) | decide)) [(0, 1023)] (dem_cons rfl (le_vec_ro (by first | omega | rfl | assumption) (fun | 0, _ => (fun | 0, _ => rfl | (_n + 1), h => absurd h (by omega)) | (_n + 1), h => absurd h (by omega))) dem_nil)))) ?_
 have h2 : (!(within 0 5000 ([e]))) = false := by rw [hw] <;> rfl
 refine aw_cond (b := (!(within 0 5000 ([e])))) rfl (fun h => Bool.noConfusion (h2.symm.trans h)) (fun _ => ?_)
 apply aw_skip
 apply aw_seq
 refine awr []
  ⟨29, [1, 2], [(8, .l (.ref 10160 0)), (9, .i 0)], (at_ok_frH9 t r y)⟩
  [] trivial ?_
 exact aw_ret ⟨.inr rfl, eok ⟨29, [1, 2], [(8, .l (.ref 5 0)), (9, .i 0)], [(5, some (at_ok_frK8 t r y))]⟩
     (enr [(5, 10160)] ⟨rfl, rfl, trivial⟩ (cbl rfl rfl trivial)) (wr_cons rfl plain_blk wr_nil)⟩
def at_high_frA1 (t : TreeV) : SV := .agg [.i t.year, .i t.glo, .i t.ghi, .i t.wlo, .i t.whi, .i t.health, .ls 1]
def at_high_frA2 (r : RuleV) : SV := .agg [.i r.slo, .i r.shi, .i r.ulo, .i r.uhi, .i r.hlo, .i r.hhi, .i r.apart, .i r.blo, .i r.bhi, .ls 2, .i r.n0, .i r.n1, .i r.n2, .i r.n3, .i r.n4, .i r.opn]
def at_high_frK3 (t : TreeV) : Cn := .ro 3 t.holes.length (Lst eH t.holes)
def at_high_frK4 (r : RuleV) : Cn := .ro 2 r.sizes.length (Lst eZ r.sizes)
def at_high_frK5 (t : TreeV) : Cn := .blk 26 [.i t.year, .i t.glo, .i t.ghi, .i t.wlo, .i t.whi, .i t.health, .ls 1]
def at_high_frK6 (r : RuleV) : Cn := .blk 30 [.i r.slo, .i r.shi, .i r.ulo, .i r.uhi, .i r.hlo, .i r.hhi, .i r.apart, .i r.blo, .i r.bhi, .ls 2, .i r.n0, .i r.n1, .i r.n2, .i r.n3, .i r.n4, .i r.opn]
def at_high_frH7 (t : TreeV) (r : RuleV) : List (Nat × Option Cn) := [(1, some (at_high_frK3 t)), (2, some (at_high_frK4 r)), (1004, some (at_high_frK5 t)), (1005, some (at_high_frK6 r))]
def at_high_frK8 (t : TreeV) (r : RuleV) (y : Int) : Cn := .blk 123 [.i ((openV t r y).t.year), .i ((openV t r y).t.glo), .i ((openV t r y).t.ghi), .i ((openV t r y).t.wlo), .i ((openV t r y).t.whi), .i ((openV t r y).t.health), .ls 1, .i ((openV t r y).r.slo), .i ((openV t r y).r.shi), .i ((openV t r y).r.ulo), .i ((openV t r y).r.uhi), .i ((openV t r y).r.hlo), .i ((openV t r y).r.hhi), .i ((openV t r y).r.apart), .i ((openV t r y).r.blo), .i ((openV t r y).r.bhi), .ls 2, .i ((openV t r y).r.n0), .i ((openV t r y).r.n1), .i ((openV t r y).r.n2), .i ((openV t r y).r.n3), .i ((openV t r y).r.n4), .i ((openV t r y).r.opn), .i ((openV t r y).year), .i ((openV t r y).worst.girth), .i ((openV t r y).worst.side), .i ((openV t r y).worst.up), .i ((openV t r y).worst.heal), .i ((openV t r y).best.girth), .i ((openV t r y).best.side), .i ((openV t r y).best.up), .i ((openV t r y).best.heal)]
def at_high_frH9 (t : TreeV) (r : RuleV) (y : Int) : List (Nat × Option Cn) := [(1, some (at_high_frK3 t)), (2, some (at_high_frK4 r)), (10160, some (at_high_frK8 t r y))]
set_option maxRecDepth 100000 in
theorem at_high_fr (t : TreeV) (r : RuleV) (y e : Int) (ht : t.holes.length ≤ 1000000) (hr : r.sizes.length ≤ 1000000) (h0 : startE t r y = 0) (hw : within 0 5000 [e] = false) : CallFr Try.prog 65 [(at_high_frA1 t), (at_high_frA2 r), .i y, .i e] [1, 2] [some (.ro 3 t.holes.length (Lst eH t.holes)), some (.ro 2 r.sizes.length (Lst eZ r.sizes))] (.tup [.one (.ref 5 0), .one (.i 3)]) [(5, some (.blk 123 [.i ((openV t r y).t.year), .i ((openV t r y).t.glo), .i ((openV t r y).t.ghi), .i ((openV t r y).t.wlo), .i ((openV t r y).t.whi), .i ((openV t r y).t.health), .ls 1, .i ((openV t r y).r.slo), .i ((openV t r y).r.shi), .i ((openV t r y).r.ulo), .i ((openV t r y).r.uhi), .i ((openV t r y).r.hlo), .i ((openV t r y).r.hhi), .i ((openV t r y).r.apart), .i ((openV t r y).r.blo), .i ((openV t r y).r.bhi), .ls 2, .i ((openV t r y).r.n0), .i ((openV t r y).r.n1), .i ((openV t r y).r.n2), .i ((openV t r y).r.n3), .i ((openV t r y).r.n4), .i ((openV t r y).r.opn), .i ((openV t r y).year), .i ((openV t r y).worst.girth), .i ((openV t r y).worst.side), .i ((openV t r y).worst.up), .i ((openV t r y).worst.heal), .i ((openV t r y).best.girth), .i ((openV t r y).best.side), .i ((openV t r y).best.up), .i ((openV t r y).best.heal)]))] := by
 have hs0 : decide (startE t r y = 0) = true := decide_eq_true h0
 refine callFr_of (fn := Try.f65) (by kernel_rfl) rfl (by kernel_rfl) (by kernel_rfl) fun E => ?_
 refine aw_ent (T := ⟨29, [1, 2], [(0, (at_high_frA1 t)), (1, (at_high_frA2 r)), (2, .i y), (3, .i e)], [(1, some (at_high_frK3 t)), (2, some (at_high_frK4 r))]⟩) (Ent.refl _) ?_
 apply aw_seq
 refine awr [(0, .new 1004), (1, .new 1005)]
  ⟨29, [1, 2], [(2, .i y), (3, .i e), (4, .l (.ref 1004 0)), (5, .l (.ref 1005 0))], (at_high_frH7 t r)⟩
  [] trivial ?_
 apply aw_seq
 refine awr [(3, .call [1, 2] (.tup [.one (.ref 10160 0), .one (.i 0)]) [(10160, some (at_high_frK8 t r y))])]
  ⟨29, [1, 2], [(3, .i e), (10, .l (.ref 10160 0)), (11, .i 0)], (at_high_frH9 t r y)⟩
  [CallOK Try.prog 61 [(at_high_frA1 t), (at_high_frA2 r), .i y] [1, 2] [some (at_high_frK3 t), some (at_high_frK4 r)] (.tup [.one (.ref 10160 0), .one (.i 0)]) [(10160, some (at_high_frK8 t r y))]] (al1 (cfr (open_ok_fr t r y (by first | omega | (simp; done) | assumption) (by first | omega | (simp; done) | assumption) (dtr hs0)) [(1, 1), (2, 2), (5, 10160)] (dem_cons rfl (le_ro rfl el_rfl) (dem_cons rfl (le_ro rfl el_rfl) dem_nil)))) ?_
 have hx := open_ok (dtr hs0)
 apply aw_seq
 apply aw_seq
 have h1 : (decide ((0 : Int) = (0 : Int))) = true := by decide
 refine awr [(2, .dec true), (4, .new 1023), (5, .call [1023] (.b (within 0 5000 ([e]))) [])]
  ⟨29, [1, 2], [(10, .l (.ref 10160 0)), (11, .i 0), (26, .b (!(within 0 5000 ([e]))))], (at_high_frH9 t r y)⟩
  [decide ((0 : Int) = (0 : Int)) = true, CallOK Try.prog 55 [.i 0, .i 5000, .ls 1023] [1023] [some (.vec 3 1 1 (exEl 1 [.i e]))] (.b (within 0 5000 ([e]))) []] (al2 h1 (al1 (cfr (within_fr 0 5000 ([e]) (by first | omega | (simp; done) | decide)) [(0, 1023)] (dem_cons rfl (le_vec_ro (by first | omega | rfl | assumption) (fun | 0, _ => (fun | 0, _ => rfl | (_n + 1), h => absurd h (by omega)) | (_n + 1), h => absurd h (by omega))) dem_nil)))) ?_
 have h2 : (!(within 0 5000 ([e]))) = true := by rw [hw] <;> rfl
 refine aw_cond (b := (!(within 0 5000 ([e])))) rfl (fun _ => ?_) (fun h => Bool.noConfusion (h2.symm.trans h))
 refine awr []
  ⟨29, [1, 2], [(10, .l (.ref 10160 0)), (11, .i 3)], (at_high_frH9 t r y)⟩
  [] trivial ?_
 apply aw_seq
 refine awr []
  ⟨29, [1, 2], [(8, .l (.ref 10160 0)), (9, .i 3)], (at_high_frH9 t r y)⟩
  [] trivial ?_
 exact aw_ret ⟨.inr rfl, eok ⟨29, [1, 2], [(8, .l (.ref 5 0)), (9, .i 3)], [(5, some (at_high_frK8 t r y))]⟩
     (enr [(5, 10160)] ⟨rfl, rfl, trivial⟩ (cbl rfl rfl trivial)) (wr_cons rfl plain_blk wr_nil)⟩
def at_bad_frA1 (t : TreeV) : SV := .agg [.i t.year, .i t.glo, .i t.ghi, .i t.wlo, .i t.whi, .i t.health, .ls 1]
def at_bad_frA2 (r : RuleV) : SV := .agg [.i r.slo, .i r.shi, .i r.ulo, .i r.uhi, .i r.hlo, .i r.hhi, .i r.apart, .i r.blo, .i r.bhi, .ls 2, .i r.n0, .i r.n1, .i r.n2, .i r.n3, .i r.n4, .i r.opn]
def at_bad_frK3 (t : TreeV) : Cn := .ro 3 t.holes.length (Lst eH t.holes)
def at_bad_frK4 (r : RuleV) : Cn := .ro 2 r.sizes.length (Lst eZ r.sizes)
def at_bad_frK5 (t : TreeV) : Cn := .blk 26 [.i t.year, .i t.glo, .i t.ghi, .i t.wlo, .i t.whi, .i t.health, .ls 1]
def at_bad_frK6 (r : RuleV) : Cn := .blk 30 [.i r.slo, .i r.shi, .i r.ulo, .i r.uhi, .i r.hlo, .i r.hhi, .i r.apart, .i r.blo, .i r.bhi, .ls 2, .i r.n0, .i r.n1, .i r.n2, .i r.n3, .i r.n4, .i r.opn]
def at_bad_frH7 (t : TreeV) (r : RuleV) : List (Nat × Option Cn) := [(1, some (at_bad_frK3 t)), (2, some (at_bad_frK4 r)), (1004, some (at_bad_frK5 t)), (1005, some (at_bad_frK6 r))]
set_option maxRecDepth 100000 in
theorem at_bad_fr (t : TreeV) (r : RuleV) (y e : Int) (ht : t.holes.length ≤ 1000000) (hr : r.sizes.length ≤ 1000000) (h0 : startE t r y ≠ 0) : CallFr Try.prog 65 [(at_bad_frA1 t), (at_bad_frA2 r), .i y, .i e] [1, 2] [some (.ro 3 t.holes.length (Lst eH t.holes)), some (.ro 2 r.sizes.length (Lst eZ r.sizes))] (.tup [.one (.v (.pointer none)), .one (.i (startE t r y))]) [] := by
 have hs0 : decide (startE t r y = 0) = false := decide_eq_false h0
 refine callFr_of (fn := Try.f65) (by kernel_rfl) rfl (by kernel_rfl) (by kernel_rfl) fun E => ?_
 refine aw_ent (T := ⟨29, [1, 2], [(0, (at_bad_frA1 t)), (1, (at_bad_frA2 r)), (2, .i y), (3, .i e)], [(1, some (at_bad_frK3 t)), (2, some (at_bad_frK4 r))]⟩) (Ent.refl _) ?_
 apply aw_seq
 refine awr [(0, .new 1004), (1, .new 1005)]
  ⟨29, [1, 2], [(2, .i y), (3, .i e), (4, .l (.ref 1004 0)), (5, .l (.ref 1005 0))], (at_bad_frH7 t r)⟩
  [] trivial ?_
 apply aw_seq
 refine awr [(3, .call [1, 2] (.tup [.one (.v (.pointer none)), .one (.i (startE t r y))]) [])]
  ⟨29, [1, 2], [(3, .i e), (10, .l (.v (.pointer none))), (11, .i (startE t r y))], []⟩
  [CallOK Try.prog 61 [(at_bad_frA1 t), (at_bad_frA2 r), .i y] [1, 2] [some (at_bad_frK3 t), some (at_bad_frK4 r)] (.tup [.one (.v (.pointer none)), .one (.i (startE t r y))]) []] (al1 (cfr (open_bad_fr t r y (by first | omega | (simp; done) | assumption) (by first | omega | (simp; done) | assumption) (deq hs0)) [(1, 1), (2, 2)] (dem_cons rfl (le_ro rfl el_rfl) (dem_cons rfl (le_ro rfl el_rfl) dem_nil)))) ?_
 apply aw_seq
 apply aw_seq
 refine awr [(2, .dec false)]
  ⟨29, [1, 2], [(10, .l (.v (.pointer none))), (11, .i (startE t r y)), (26, .b false)], []⟩
  [decide ((startE t r y) = 0) = false] (al1 hs0) ?_
 refine aw_false rfl ?_
 apply aw_skip
 apply aw_seq
 refine awr []
  ⟨29, [1, 2], [(8, .l (.v (.pointer none))), (9, .i (startE t r y))], []⟩
  [] trivial ?_
 exact aw_ret ⟨.inr rfl, eok ⟨29, [1, 2], [(8, .l (.v (.pointer none))), (9, .i (startE t r y))], []⟩
     (enr [] ⟨rfl, rfl, trivial⟩ trivial) wr_nil⟩
def Free_frA1 (t : TreeV) : SV := .agg [.i t.year, .i t.glo, .i t.ghi, .i t.wlo, .i t.whi, .i t.health, .ls 1]
def Free_frA2 (r : RuleV) : SV := .agg [.i r.slo, .i r.shi, .i r.ulo, .i r.uhi, .i r.hlo, .i r.hhi, .i r.apart, .i r.blo, .i r.bhi, .ls 2, .i r.n0, .i r.n1, .i r.n2, .i r.n3, .i r.n4, .i r.opn]
def Free_frK3 (t : TreeV) : Cn := .ro 3 t.holes.length (Lst eH t.holes)
def Free_frK4 (r : RuleV) : Cn := .ro 2 r.sizes.length (Lst eZ r.sizes)
def Free_frK5 (t : TreeV) : Cn := .blk 26 [.i t.year, .i t.glo, .i t.ghi, .i t.wlo, .i t.whi, .i t.health, .ls 1]
def Free_frK6 (r : RuleV) : Cn := .blk 30 [.i r.slo, .i r.shi, .i r.ulo, .i r.uhi, .i r.hlo, .i r.hhi, .i r.apart, .i r.blo, .i r.bhi, .ls 2, .i r.n0, .i r.n1, .i r.n2, .i r.n3, .i r.n4, .i r.opn]
def Free_frH7 (t : TreeV) (r : RuleV) : List (Nat × Option Cn) := [(1, some (Free_frK3 t)), (2, some (Free_frK4 r)), (1004, some (Free_frK5 t)), (1005, some (Free_frK6 r))]
def Free_frK8 (t : TreeV) (r : RuleV) (y : Int) : Cn := .blk 123 [.i ((openV t r y).t.year), .i ((openV t r y).t.glo), .i ((openV t r y).t.ghi), .i ((openV t r y).t.wlo), .i ((openV t r y).t.whi), .i ((openV t r y).t.health), .ls 1, .i ((openV t r y).r.slo), .i ((openV t r y).r.shi), .i ((openV t r y).r.ulo), .i ((openV t r y).r.uhi), .i ((openV t r y).r.hlo), .i ((openV t r y).r.hhi), .i ((openV t r y).r.apart), .i ((openV t r y).r.blo), .i ((openV t r y).r.bhi), .ls 2, .i ((openV t r y).r.n0), .i ((openV t r y).r.n1), .i ((openV t r y).r.n2), .i ((openV t r y).r.n3), .i ((openV t r y).r.n4), .i ((openV t r y).r.opn), .i ((openV t r y).year), .i ((openV t r y).worst.girth), .i ((openV t r y).worst.side), .i ((openV t r y).worst.up), .i ((openV t r y).worst.heal), .i ((openV t r y).best.girth), .i ((openV t r y).best.side), .i ((openV t r y).best.up), .i ((openV t r y).best.heal)]
def Free_frH9 (t : TreeV) (r : RuleV) (y : Int) : List (Nat × Option Cn) := [(1, some (Free_frK3 t)), (2, some (Free_frK4 r)), (10170, some (Free_frK8 t r y))]
def Free_frK10 (t : TreeV) (r : RuleV) (y : Int) (e : Int) : Cn := .vec 23 2 ((freeV (openV t r y) e).length) (Lst eG (freeV (openV t r y) e))
def Free_frK11 (t : TreeV) (r : RuleV) (y : Int) (e : Int) : Cn := .vec 23 2 ((freeR t r y e).length) (Lst eG (freeR t r y e))
set_option maxRecDepth 100000 in
theorem Free_fr (t : TreeV) (r : RuleV) (y e : Int) (ht : t.holes.length ≤ 1000000) (hr : r.sizes.length ≤ 1000000) : CallFr Try.prog 28 [(Free_frA1 t), (Free_frA2 r), .i y, .i e] [1, 2] [some (.ro 3 t.holes.length (Lst eH t.holes)), some (.ro 2 r.sizes.length (Lst eZ r.sizes))] (.tup [.one (.ls 3), .one (.i (atE t r y e))]) [(3, some (.vec 23 2 ((freeR t r y e).length) (Lst eG (freeR t r y e))))] := by
 refine callFr_of (fn := Try.f28) (by kernel_rfl) rfl (by kernel_rfl) (by kernel_rfl) fun E => ?_
 refine aw_ent (T := ⟨26, [1, 2], [(0, (Free_frA1 t)), (1, (Free_frA2 r)), (2, .i y), (3, .i e)], [(1, some (Free_frK3 t)), (2, some (Free_frK4 r))]⟩) (Ent.refl _) ?_
 apply aw_seq
 refine awr [(0, .new 1004), (1, .new 1005)]
  ⟨26, [1, 2], [(2, .i y), (3, .i e), (4, .l (.ref 1004 0)), (5, .l (.ref 1005 0))], (Free_frH7 t r)⟩
  [] trivial ?_
 apply aw_seq
 rcases Bool.eq_false_or_eq_true (decide (startE t r y = 0)) with h1 | h1
 ·
  rcases Bool.eq_false_or_eq_true (within 0 5000 [e]) with h2 | h2
  ·
   refine awr [(4, .call [1, 2] (.tup [.one (.ref 10170 0), .one (.i 0)]) [(10170, some (Free_frK8 t r y))])]
    ⟨26, [1, 2], [(3, .i e), (10, .l (.ref 10170 0)), (11, .i 0)], (Free_frH9 t r y)⟩
    [CallOK Try.prog 65 [(Free_frA1 t), (Free_frA2 r), .i y, .i e] [1, 2] [some (Free_frK3 t), some (Free_frK4 r)] (.tup [.one (.ref 10170 0), .one (.i 0)]) [(10170, some (Free_frK8 t r y))]] (al1 (cfr (at_ok_fr t r y e (by first | omega | (simp; done) | assumption) (by first | omega | (simp; done) | assumption) (dtr h1) h2) [(1, 1), (2, 2), (5, 10170)] (dem_cons rfl (le_ro rfl el_rfl) (dem_cons rfl (le_ro rfl el_rfl) dem_nil)))) ?_
   have hx := open_ok (dtr h1)
   have he5 := within1.1 h2
   apply aw_seq
   apply aw_seq
   refine awr []
    ⟨26, [1, 2], [(3, .i e), (10, .l (.ref 10170 0)), (11, .i 0), (21, .b (decide ((0 : Int) ≠ (0 : Int))))], (Free_frH9 t r y)⟩
    [] trivial ?_
   have h3 : (decide ((0 : Int) ≠ (0 : Int))) = false := by decide
   refine aw_cond (b := decide ((0 : Int) ≠ (0 : Int))) rfl (fun h => Bool.noConfusion (h3.symm.trans h)) (fun _ => ?_)
   apply aw_skip
   apply aw_seq
   refine awr [(2, .call [10170, 1, 2] (.ls 10250) [(10250, some (Free_frK10 t r y e))])]
    ⟨26, [1, 2], [(8, .ls 10250), (9, .i 0)], [(10250, some (Free_frK10 t r y e))]⟩
    [CallOK Try.prog 66 [.l (.ref 10170 0), .i e] [10170, 1, 2] [some (Free_frK8 t r y), some (Free_frK3 t), some (Free_frK4 r)] (.ls 10250) [(10250, some (Free_frK10 t r y e))]] (al1 (cfr (free_fr (openV t r y) e (by assumption) (by omega)) [(0, 10170), (1, 1), (2, 2), (4, 10250)] (dem_cons rfl (le_blk_r rfl) (dem_cons rfl (le_ro (by first | omega | rfl | assumption) el_rfl) (dem_cons rfl (le_ro (by first | omega | rfl | assumption) el_rfl) dem_nil))))) ?_
   exact aw_ret ⟨.inr rfl, eok ⟨26, [1, 2], [(8, .ls 3), (9, .i (atE t r y e))], [(3, some (Free_frK11 t r y e))]⟩
       (enr [(3, 10250)] ⟨rfl, (slot_i rfl (by first | rfl | omega | assumption | (simp_all [freeR, atE]))), trivial⟩ (conts_cons rfl (le_vec (by first | rfl | omega | assumption | (simp_all [freeR, atE])) (lst_eq (by first | rfl | omega | assumption | (simp_all [freeR, atE])))) trivial)) (wr_cons rfl (plain_Lst plain_eG) wr_nil)⟩
  ·
   refine awr [(4, .call [1, 2] (.tup [.one (.ref 10170 0), .one (.i 3)]) [(10170, some (Free_frK8 t r y))])]
    ⟨26, [1, 2], [(3, .i e), (10, .l (.ref 10170 0)), (11, .i 3)], (Free_frH9 t r y)⟩
    [CallOK Try.prog 65 [(Free_frA1 t), (Free_frA2 r), .i y, .i e] [1, 2] [some (Free_frK3 t), some (Free_frK4 r)] (.tup [.one (.ref 10170 0), .one (.i 3)]) [(10170, some (Free_frK8 t r y))]] (al1 (cfr (at_high_fr t r y e (by first | omega | (simp; done) | assumption) (by first | omega | (simp; done) | assumption) (dtr h1) h2) [(1, 1), (2, 2), (5, 10170)] (dem_cons rfl (le_ro rfl el_rfl) (dem_cons rfl (le_ro rfl el_rfl) dem_nil)))) ?_
   apply aw_seq
   apply aw_seq
   refine awr []
    ⟨26, [1, 2], [(3, .i e), (10, .l (.ref 10170 0)), (11, .i 3), (21, .b (decide ((3 : Int) ≠ (0 : Int))))], (Free_frH9 t r y)⟩
    [] trivial ?_
   have h4 : (decide ((3 : Int) ≠ (0 : Int))) = true := by decide
   refine aw_cond (b := decide ((3 : Int) ≠ (0 : Int))) rfl (fun _ => ?_) (fun h => Bool.noConfusion (h4.symm.trans h))
   apply aw_seq
   refine awr []
    ⟨26, [1, 2], [(8, .l (.v (.slice none 0 0))), (9, .i 3)], []⟩
    [] trivial ?_
   exact aw_ret (ret_then ⟨.inr rfl, eok ⟨26, [1, 2], [(8, .ls 3), (9, .i (atE t r y e))], [(3, some (Free_frK11 t r y e))]⟩
       (Ent.trans (Ent.nilSlot 8 70001 23 2 (Lst eG (freeR t r y e)) rfl (by omega) (by kernel_rfl)) (enr [(3, 70001)] ⟨rfl, (slot_i rfl (by first | rfl | omega | assumption | (simp_all [freeR, atE]))), trivial⟩ (conts_cons rfl (le_vec (by first | rfl | omega | assumption | (simp_all [freeR, atE])) el_rfl) trivial))) (wr_cons rfl (plain_Lst plain_eG) wr_nil)⟩)
 ·
  refine awr [(4, .call [1, 2] (.tup [.one (.v (.pointer none)), .one (.i (startE t r y))]) [])]
   ⟨26, [1, 2], [(3, .i e), (10, .l (.v (.pointer none))), (11, .i (startE t r y))], []⟩
   [CallOK Try.prog 65 [(Free_frA1 t), (Free_frA2 r), .i y, .i e] [1, 2] [some (Free_frK3 t), some (Free_frK4 r)] (.tup [.one (.v (.pointer none)), .one (.i (startE t r y))]) []] (al1 (cfr (at_bad_fr t r y e (by first | omega | (simp; done) | assumption) (by first | omega | (simp; done) | assumption) (deq h1)) [(1, 1), (2, 2)] (dem_cons rfl (le_ro rfl el_rfl) (dem_cons rfl (le_ro rfl el_rfl) dem_nil)))) ?_
  apply aw_seq
  apply aw_seq
  refine awr []
   ⟨26, [1, 2], [(3, .i e), (10, .l (.v (.pointer none))), (11, .i (startE t r y)), (21, .b (decide ((startE t r y) ≠ 0)))], []⟩
   [] trivial ?_
  have h5 : (decide ((startE t r y) ≠ 0)) = true := by simp_all
  refine aw_cond (b := decide ((startE t r y) ≠ 0)) rfl (fun _ => ?_) (fun h => Bool.noConfusion (h5.symm.trans h))
  apply aw_seq
  refine awr []
   ⟨26, [1, 2], [(8, .l (.v (.slice none 0 0))), (9, .i (startE t r y))], []⟩
   [] trivial ?_
  exact aw_ret (ret_then ⟨.inr rfl, eok ⟨26, [1, 2], [(8, .ls 3), (9, .i (atE t r y e))], [(3, some (Free_frK11 t r y e))]⟩
      (Ent.trans (Ent.nilSlot 8 70002 23 2 (Lst eG (freeR t r y e)) rfl (by omega) (by kernel_rfl)) (enr [(3, 70002)] ⟨rfl, (slot_i rfl (by first | rfl | omega | assumption | (simp_all [freeR, atE]))), trivial⟩ (conts_cons rfl (le_vec (by first | rfl | omega | assumption | (simp_all [freeR, atE])) el_rfl) trivial))) (wr_cons rfl (plain_Lst plain_eG) wr_nil)⟩)
def Most_frA1 (t : TreeV) : SV := .agg [.i t.year, .i t.glo, .i t.ghi, .i t.wlo, .i t.whi, .i t.health, .ls 1]
def Most_frA2 (r : RuleV) : SV := .agg [.i r.slo, .i r.shi, .i r.ulo, .i r.uhi, .i r.hlo, .i r.hhi, .i r.apart, .i r.blo, .i r.bhi, .ls 2, .i r.n0, .i r.n1, .i r.n2, .i r.n3, .i r.n4, .i r.opn]
def Most_frK3 (t : TreeV) : Cn := .ro 3 t.holes.length (Lst eH t.holes)
def Most_frK4 (r : RuleV) : Cn := .ro 2 r.sizes.length (Lst eZ r.sizes)
def Most_frK5 (t : TreeV) : Cn := .blk 26 [.i t.year, .i t.glo, .i t.ghi, .i t.wlo, .i t.whi, .i t.health, .ls 1]
def Most_frK6 (r : RuleV) : Cn := .blk 30 [.i r.slo, .i r.shi, .i r.ulo, .i r.uhi, .i r.hlo, .i r.hhi, .i r.apart, .i r.blo, .i r.bhi, .ls 2, .i r.n0, .i r.n1, .i r.n2, .i r.n3, .i r.n4, .i r.opn]
def Most_frH7 (t : TreeV) (r : RuleV) : List (Nat × Option Cn) := [(1, some (Most_frK3 t)), (2, some (Most_frK4 r)), (1004, some (Most_frK5 t)), (1005, some (Most_frK6 r))]
def Most_frK8 (t : TreeV) (r : RuleV) (y : Int) : Cn := .blk 123 [.i ((openV t r y).t.year), .i ((openV t r y).t.glo), .i ((openV t r y).t.ghi), .i ((openV t r y).t.wlo), .i ((openV t r y).t.whi), .i ((openV t r y).t.health), .ls 1, .i ((openV t r y).r.slo), .i ((openV t r y).r.shi), .i ((openV t r y).r.ulo), .i ((openV t r y).r.uhi), .i ((openV t r y).r.hlo), .i ((openV t r y).r.hhi), .i ((openV t r y).r.apart), .i ((openV t r y).r.blo), .i ((openV t r y).r.bhi), .ls 2, .i ((openV t r y).r.n0), .i ((openV t r y).r.n1), .i ((openV t r y).r.n2), .i ((openV t r y).r.n3), .i ((openV t r y).r.n4), .i ((openV t r y).r.opn), .i ((openV t r y).year), .i ((openV t r y).worst.girth), .i ((openV t r y).worst.side), .i ((openV t r y).worst.up), .i ((openV t r y).worst.heal), .i ((openV t r y).best.girth), .i ((openV t r y).best.side), .i ((openV t r y).best.up), .i ((openV t r y).best.heal)]
def Most_frH9 (t : TreeV) (r : RuleV) (y : Int) : List (Nat × Option Cn) := [(1, some (Most_frK3 t)), (2, some (Most_frK4 r)), (10170, some (Most_frK8 t r y))]
def Most_frK10 (t : TreeV) (r : RuleV) (y : Int) (e : Int) : Cn := .blk 160 (roomC (nextV (openV t r y) e) (gapV (openV t r y)))
set_option maxRecDepth 100000 in
theorem Most_fr (t : TreeV) (r : RuleV) (y e : Int) (ht : t.holes.length ≤ 1000000) (hr : r.sizes.length ≤ 1000000) : CallFr Try.prog 29 [(Most_frA1 t), (Most_frA2 r), .i y, .i e] [1, 2] [some (.ro 3 t.holes.length (Lst eH t.holes)), some (.ro 2 r.sizes.length (Lst eZ r.sizes))] (.tup [.one (.i (mostR t r y e)), .one (.i (atE t r y e))]) [] := by
 refine callFr_of (fn := Try.f29) (by kernel_rfl) rfl (by kernel_rfl) (by kernel_rfl) fun E => ?_
 refine aw_ent (T := ⟨27, [1, 2], [(0, (Most_frA1 t)), (1, (Most_frA2 r)), (2, .i y), (3, .i e)], [(1, some (Most_frK3 t)), (2, some (Most_frK4 r))]⟩) (Ent.refl _) ?_
 apply aw_seq
 refine awr [(0, .new 1004), (1, .new 1005)]
  ⟨27, [1, 2], [(2, .i y), (3, .i e), (4, .l (.ref 1004 0)), (5, .l (.ref 1005 0))], (Most_frH7 t r)⟩
  [] trivial ?_
 apply aw_seq
 rcases Bool.eq_false_or_eq_true (decide (startE t r y = 0)) with h1 | h1
 ·
  rcases Bool.eq_false_or_eq_true (within 0 5000 [e]) with h2 | h2
  ·
   refine awr [(4, .call [1, 2] (.tup [.one (.ref 10170 0), .one (.i 0)]) [(10170, some (Most_frK8 t r y))])]
    ⟨27, [1, 2], [(3, .i e), (10, .l (.ref 10170 0)), (11, .i 0)], (Most_frH9 t r y)⟩
    [CallOK Try.prog 65 [(Most_frA1 t), (Most_frA2 r), .i y, .i e] [1, 2] [some (Most_frK3 t), some (Most_frK4 r)] (.tup [.one (.ref 10170 0), .one (.i 0)]) [(10170, some (Most_frK8 t r y))]] (al1 (cfr (at_ok_fr t r y e (by first | omega | (simp; done) | assumption) (by first | omega | (simp; done) | assumption) (dtr h1) h2) [(1, 1), (2, 2), (5, 10170)] (dem_cons rfl (le_ro rfl el_rfl) (dem_cons rfl (le_ro rfl el_rfl) dem_nil)))) ?_
   have hx := open_ok (dtr h1)
   have he5 := within1.1 h2
   apply aw_seq
   apply aw_seq
   refine awr []
    ⟨27, [1, 2], [(3, .i e), (10, .l (.ref 10170 0)), (11, .i 0), (21, .b (decide ((0 : Int) ≠ (0 : Int))))], (Most_frH9 t r y)⟩
    [] trivial ?_
   have h3 : (decide ((0 : Int) ≠ (0 : Int))) = false := by decide
   refine aw_cond (b := decide ((0 : Int) ≠ (0 : Int))) rfl (fun h => Bool.noConfusion (h3.symm.trans h)) (fun _ => ?_)
   apply aw_skip
   apply aw_seq
   refine awr [(2, .call [10170, 1, 2] (.l (.ref 10250 0)) [(10250, some (Most_frK10 t r y e))]), (3, .call [10250] (.i (mostV (nextV (openV t r y) e) (gapV (openV t r y)))) [])]
    ⟨27, [1, 2], [(8, .i (mostV (nextV (openV t r y) e) (gapV (openV t r y)))), (9, .i 0)], []⟩
    [CallOK Try.prog 67 [.l (.ref 10170 0), .i e] [10170, 1, 2] [some (Most_frK8 t r y), some (Most_frK3 t), some (Most_frK4 r)] (.l (.ref 10250 0)) [(10250, some (Most_frK10 t r y e))], CallOK Try.prog 68 [.l (.ref 10250 0)] [10250] [some (Most_frK10 t r y e)] (.i (mostV (nextV (openV t r y) e) (gapV (openV t r y)))) []] (al2 (cfr (room_fr (openV t r y) e (by assumption) (by omega)) [(0, 10170), (1, 1), (2, 2), (5, 10250)] (dem_cons rfl (le_blk_r rfl) (dem_cons rfl (le_ro (by first | omega | rfl | assumption) el_rfl) (dem_cons rfl (le_ro (by first | omega | rfl | assumption) el_rfl) dem_nil)))) (al1 (cfr (most_fr (nextV (openV t r y) e) (gapV (openV t r y)) (by first | assumption | exact nextV_ok _ _) (by first | assumption | exact gap_bd (by assumption))) [(1, 10250)] (dem_cons rfl (le_blk_r (roomC_le rfl rfl)) dem_nil)))) ?_
   exact aw_ret ⟨.inr rfl, eok ⟨27, [1, 2], [(8, .i (mostR t r y e)), (9, .i (atE t r y e))], []⟩
       (enr [] ⟨(slot_i rfl (by first | rfl | omega | assumption | (simp_all [mostR, atE]))), (slot_i rfl (by first | rfl | omega | assumption | (simp_all [mostR, atE]))), trivial⟩ trivial) wr_nil⟩
  ·
   refine awr [(4, .call [1, 2] (.tup [.one (.ref 10170 0), .one (.i 3)]) [(10170, some (Most_frK8 t r y))])]
    ⟨27, [1, 2], [(3, .i e), (10, .l (.ref 10170 0)), (11, .i 3)], (Most_frH9 t r y)⟩
    [CallOK Try.prog 65 [(Most_frA1 t), (Most_frA2 r), .i y, .i e] [1, 2] [some (Most_frK3 t), some (Most_frK4 r)] (.tup [.one (.ref 10170 0), .one (.i 3)]) [(10170, some (Most_frK8 t r y))]] (al1 (cfr (at_high_fr t r y e (by first | omega | (simp; done) | assumption) (by first | omega | (simp; done) | assumption) (dtr h1) h2) [(1, 1), (2, 2), (5, 10170)] (dem_cons rfl (le_ro rfl el_rfl) (dem_cons rfl (le_ro rfl el_rfl) dem_nil)))) ?_
   apply aw_seq
   apply aw_seq
   refine awr []
    ⟨27, [1, 2], [(3, .i e), (10, .l (.ref 10170 0)), (11, .i 3), (21, .b (decide ((3 : Int) ≠ (0 : Int))))], (Most_frH9 t r y)⟩
    [] trivial ?_
   have h4 : (decide ((3 : Int) ≠ (0 : Int))) = true := by decide
   refine aw_cond (b := decide ((3 : Int) ≠ (0 : Int))) rfl (fun _ => ?_) (fun h => Bool.noConfusion (h4.symm.trans h))
   apply aw_seq
   refine awr []
    ⟨27, [1, 2], [(8, .i 0), (9, .i 3)], []⟩
    [] trivial ?_
   exact aw_ret (ret_then ⟨.inr rfl, eok ⟨27, [1, 2], [(8, .i (mostR t r y e)), (9, .i (atE t r y e))], []⟩
       (enr [] ⟨(slot_i rfl (by first | rfl | omega | assumption | (simp_all [mostR, atE]))), (slot_i rfl (by first | rfl | omega | assumption | (simp_all [mostR, atE]))), trivial⟩ trivial) wr_nil⟩)
 ·
  refine awr [(4, .call [1, 2] (.tup [.one (.v (.pointer none)), .one (.i (startE t r y))]) [])]
   ⟨27, [1, 2], [(3, .i e), (10, .l (.v (.pointer none))), (11, .i (startE t r y))], []⟩
   [CallOK Try.prog 65 [(Most_frA1 t), (Most_frA2 r), .i y, .i e] [1, 2] [some (Most_frK3 t), some (Most_frK4 r)] (.tup [.one (.v (.pointer none)), .one (.i (startE t r y))]) []] (al1 (cfr (at_bad_fr t r y e (by first | omega | (simp; done) | assumption) (by first | omega | (simp; done) | assumption) (deq h1)) [(1, 1), (2, 2)] (dem_cons rfl (le_ro rfl el_rfl) (dem_cons rfl (le_ro rfl el_rfl) dem_nil)))) ?_
  apply aw_seq
  apply aw_seq
  refine awr []
   ⟨27, [1, 2], [(3, .i e), (10, .l (.v (.pointer none))), (11, .i (startE t r y)), (21, .b (decide ((startE t r y) ≠ 0)))], []⟩
   [] trivial ?_
  have h5 : (decide ((startE t r y) ≠ 0)) = true := by simp_all
  refine aw_cond (b := decide ((startE t r y) ≠ 0)) rfl (fun _ => ?_) (fun h => Bool.noConfusion (h5.symm.trans h))
  apply aw_seq
  refine awr []
   ⟨27, [1, 2], [(8, .i 0), (9, .i (startE t r y))], []⟩
   [] trivial ?_
  exact aw_ret (ret_then ⟨.inr rfl, eok ⟨27, [1, 2], [(8, .i (mostR t r y e)), (9, .i (atE t r y e))], []⟩
      (enr [] ⟨(slot_i rfl (by first | rfl | omega | assumption | (simp_all [mostR, atE]))), (slot_i rfl (by first | rfl | omega | assumption | (simp_all [mostR, atE]))), trivial⟩ trivial) wr_nil⟩)
def spots_frK1 (x : TrkV) : Cn := .rblk [.i x.t.year, .i x.t.glo, .i x.t.ghi, .i x.t.wlo, .i x.t.whi, .i x.t.health, .ls 1, .i x.r.slo, .i x.r.shi, .i x.r.ulo, .i x.r.uhi, .i x.r.hlo, .i x.r.hhi, .i x.r.apart, .i x.r.blo, .i x.r.bhi, .ls 2, .i x.r.n0, .i x.r.n1, .i x.r.n2, .i x.r.n3, .i x.r.n4, .i x.r.opn, .i x.year, .i x.worst.girth, .i x.worst.side, .i x.worst.up, .i x.worst.heal, .i x.best.girth, .i x.best.side, .i x.best.up, .i x.best.heal]
def spots_frK2 (x : TrkV) : Cn := .ro 3 x.t.holes.length (Lst eH x.t.holes)
def spots_frK3 (x : TrkV) : Cn := .ro 2 x.r.sizes.length (Lst eZ x.r.sizes)
def spots_frH4 (x : TrkV) : List (Nat × Option Cn) := [(0, some (spots_frK1 x)), (1, some (spots_frK2 x)), (2, some (spots_frK3 x))]
def spots_frK5 (x : TrkV) (e : Int) : Cn := .blk 160 (roomC (nextV x e) (gapV x))
def spots_frK6 (x : TrkV) (e : Int) (m : Int) : Cn := .vec 3 1 (((anglesO (nextV x e) (gapV x) m).getD []).length) (Lst eI ((anglesO (nextV x e) (gapV x) m).getD []))
def spots_frH7 (o : List Spt) (x : TrkV) (e : Int) (m : Int) : List (Nat × Option Cn) := [(2001, some (.vec 72 2 o.length (Lst eS o))), (10160, some (spots_frK6 x e m))]
def spots_frK8 (o : List Spt) (x : TrkV) (e : Int) (m : Int) (i : Nat) : Cn := .vec 72 2 (o.length + 1) (Lst eS (o ++ [(⟨(ix ((anglesO (nextV x e) (gapV x) m).getD []) i), e⟩ : Spt)]))
def spots_frH9 (o : List Spt) (x : TrkV) (e : Int) (m : Int) (i : Nat) : List (Nat × Option Cn) := [(1030, some (spots_frK8 o x e m i)), (10160, some (spots_frK6 x e m))]
def spots_frK10 (x : TrkV) (e : Int) (m : Int) : Cn := .vec 72 2 ((spotsL x e m).length) (Lst eS (spotsL x e m))
set_option maxRecDepth 100000 in
theorem spots_fr (x : TrkV) (e m : Int) (hx : TrkOk x) (he : -1000000 ≤ e ∧ e ≤ 1000000) (hm : 0 ≤ m ∧ m ≤ 1000) : CallFr Try.prog 69 [.l (.ref 0 0), .i e, .i m] [0, 1, 2] [some (.rblk [.i x.t.year, .i x.t.glo, .i x.t.ghi, .i x.t.wlo, .i x.t.whi, .i x.t.health, .ls 1, .i x.r.slo, .i x.r.shi, .i x.r.ulo, .i x.r.uhi, .i x.r.hlo, .i x.r.hhi, .i x.r.apart, .i x.r.blo, .i x.r.bhi, .ls 2, .i x.r.n0, .i x.r.n1, .i x.r.n2, .i x.r.n3, .i x.r.n4, .i x.r.opn, .i x.year, .i x.worst.girth, .i x.worst.side, .i x.worst.up, .i x.worst.heal, .i x.best.girth, .i x.best.side, .i x.best.up, .i x.best.heal]), some (.ro 3 x.t.holes.length (Lst eH x.t.holes)), some (.ro 2 x.r.sizes.length (Lst eZ x.r.sizes))] (.tup [.one (.ls 7), .one (.v (.bool ((anglesO (nextV x e) (gapV x) m).isSome)))]) [(7, some (.vec 72 2 ((spotsL x e m).length) (Lst eS (spotsL x e m))))] := by
 have hAl := angO_len (n := nextV x e) (g := gapV x) hm
 refine callFr_of (fn := Try.f69) (by kernel_rfl) rfl (by kernel_rfl) (by kernel_rfl) fun E => ?_
 refine aw_ent (T := ⟨34, [0, 1, 2], [(0, .l (.ref 0 0)), (1, .i e), (2, .i m)], (spots_frH4 x)⟩) (Ent.refl _) ?_
 apply aw_seq
 refine awr []
  ⟨34, [0, 1, 2], [(0, .l (.ref 0 0)), (1, .i e), (2, .i m), (6, .l (.v (.slice none 0 0)))], (spots_frH4 x)⟩
  [] trivial ?_
 apply aw_seq
 refine awr [(2, .call [0, 1, 2] (.l (.ref 10140 0)) [(10140, some (spots_frK5 x e))]), (4, .call [10140] (.tup [.one (.ls 10160), .one (.v (.bool ((anglesO (nextV x e) (gapV x) m).isSome)))]) [(10160, some (spots_frK6 x e m))])]
  ⟨34, [0, 1, 2], [(1, .i e), (6, .l (.v (.slice none 0 0))), (7, .b ((anglesO (nextV x e) (gapV x) m).isSome)), (8, .ls 10160)], [(10160, some (spots_frK6 x e m))]⟩
  [CallOK Try.prog 67 [.l (.ref 0 0), .i e] [0, 1, 2] [some (spots_frK1 x), some (spots_frK2 x), some (spots_frK3 x)] (.l (.ref 10140 0)) [(10140, some (spots_frK5 x e))], CallOK Try.prog 98 [.l (.ref 10140 0), .i m] [10140] [some (spots_frK5 x e)] (.tup [.one (.ls 10160), .one (.v (.bool ((anglesO (nextV x e) (gapV x) m).isSome)))]) [(10160, some (spots_frK6 x e m))]] (al2 (cfr (room_fr x e (by assumption) (by omega)) [(0, 0), (1, 1), (2, 2), (5, 10140)] (dem_cons rfl (le_rblk rfl) (dem_cons rfl (le_ro rfl el_rfl) (dem_cons rfl (le_ro rfl el_rfl) dem_nil)))) (al1 (cfr (angles_fr (nextV x e) (gapV x) m (by first | assumption | exact nextV_ok _ _) (by first | assumption | exact gap_bd (by assumption)) (by omega)) [(1, 10140), (7, 10160)] (dem_cons rfl (le_blk_r (roomC_le rfl rfl)) dem_nil)))) ?_
 apply aw_seq
 apply aw_seq
 refine awr []
  ⟨34, [0, 1, 2], [(1, .i e), (6, .l (.v (.slice none 0 0))), (7, .b ((anglesO (nextV x e) (gapV x) m).isSome)), (19, .ls 10160), (20, .i ((((anglesO (nextV x e) (gapV x) m).getD []).length : Nat) : Int)), (21, .i 0)], [(10160, some (spots_frK6 x e m))]⟩
  [] trivial ?_
 apply aw_block
 refine aw_loop (ι := Nat × List Spt) (fun zz => ⟨34, [0, 1, 2], [(1, .i e), (6, .ls 2001), (7, .b ((anglesO (nextV x e) (gapV x) m).isSome)), (19, .ls 10160), (20, .i ((((anglesO (nextV x e) (gapV x) m).getD []).length : Nat) : Int)), (21, .i (zz.1 : Int))], (spots_frH7 zz.2 x e m)⟩) (fun zz => (zz.1 ≤ ((anglesO (nextV x e) (gapV x) m).getD []).length) ∧ (zz.2.length = zz.1) ∧ (zz.2 ++ (((anglesO (nextV x e) (gapV x) m).getD []).drop zz.1).map (fun a => (⟨a, e⟩ : Spt)) = spotsL x e m)) (fun zz => ((anglesO (nextV x e) (gapV x) m).getD []).length - zz.1) (0, []) ⟨(by (try dsimp only); first | omega | rfl | assumption | (simp; done)), (by (try dsimp only); rfl), (by (try dsimp only); rfl)⟩
     (Ent.trans (Ent.nilSlot 6 70001 72 2 (Lst eS ([])) rfl (by omega) (by kernel_rfl)) (enr [(2001, 70001)] ⟨rfl, rfl, rfl, rfl, rfl, rfl, trivial⟩ (conts_cons rfl (le_vec (by first | rfl | omega | assumption | (rw [hz])) el_rfl) (cve rfl trivial)))) fun zz hp => ?_
 obtain ⟨i, o⟩ := zz
 obtain ⟨hiL, hoL, hq⟩ := hp
 dsimp only at hiL hoL hq
 show AW _ E _ _ ⟨34, [0, 1, 2], [(1, .i e), (6, .ls 2001), (7, .b ((anglesO (nextV x e) (gapV x) m).isSome)), (19, .ls 10160), (20, .i ((((anglesO (nextV x e) (gapV x) m).getD []).length : Nat) : Int)), (21, .i (i : Int))], (spots_frH7 o x e m)⟩
 apply aw_seq
 refine awr []
  ⟨34, [0, 1, 2], [(1, .i e), (6, .ls 2001), (7, .b ((anglesO (nextV x e) (gapV x) m).isSome)), (19, .ls 10160), (20, .i ((((anglesO (nextV x e) (gapV x) m).getD []).length : Nat) : Int)), (21, .i (i : Int)), (22, .b (decide ((i : Int) < ((((anglesO (nextV x e) (gapV x) m).getD []).length : Nat) : Int))))], (spots_frH7 o x e m)⟩
  [] trivial ?_
 apply aw_seq
 refine aw_cond (b := decide ((i : Int) < ((((anglesO (nextV x e) (gapV x) m).getD []).length : Nat) : Int))) rfl (fun h1 => ?_) (fun h1 => ?_)
 ·
  have h1p : (i : Int) < ((((anglesO (nextV x e) (gapV x) m).getD []).length : Nat) : Int) := dtr h1
  apply aw_skip
  apply aw_seq
  apply aw_block
  apply aw_seq
  refine awr [(0, .idx i)]
   ⟨34, [0, 1, 2], [(1, .i e), (6, .ls 2001), (7, .b ((anglesO (nextV x e) (gapV x) m).isSome)), (10, .i (ix ((anglesO (nextV x e) (gapV x) m).getD []) i)), (19, .ls 10160), (20, .i ((((anglesO (nextV x e) (gapV x) m).getD []).length : Nat) : Int)), (21, .i (i : Int))], (spots_frH7 o x e m)⟩
   [(i : Int) = (i : Int), i < ((anglesO (nextV x e) (gapV x) m).getD []).length, i < ((anglesO (nextV x e) (gapV x) m).getD []).length] (al2 (by omega) (al2 (by omega) (al1 (by omega)))) ?_
  refine awr [(4, .new 1029), (5, .lst 1030 (o.length + 1) (Lst eS (o ++ [(⟨(ix ((anglesO (nextV x e) (gapV x) m).getD []) i), e⟩ : Spt)])))]
   ⟨34, [0, 1, 2], [(1, .i e), (6, .ls 1030), (7, .b ((anglesO (nextV x e) (gapV x) m).isSome)), (19, .ls 10160), (20, .i ((((anglesO (nextV x e) (gapV x) m).getD []).length : Nat) : Int)), (21, .i (i : Int))], (spots_frH9 o x e m i)⟩
   [o.length + 1 ≤ 1000000000000, (o.length + 1) * 16 ≤ 140737488355328, AppOk 2 o.length 1 (Lst eS o) (exEl 2 [.i (ix ((anglesO (nextV x e) (gapV x) m).getD []) i), .i e]) (o.length + 1) (Lst eS (o ++ [(⟨(ix ((anglesO (nextV x e) (gapV x) m).getD []) i), e⟩ : Spt)]))] (al2 (by omega) (al2 (by omega) (al1 (app_one (by first | omega | rfl | assumption) (by first | omega | rfl | assumption) (fun | 0, _ => rfl | 1, _ => rfl | (n + 2), h => absurd h (by omega)))))) ?_
  refine awr [(0, .num (((i + 1) : Nat) : Int))]
   ⟨34, [0, 1, 2], [(1, .i e), (6, .ls 1030), (7, .b ((anglesO (nextV x e) (gapV x) m).isSome)), (19, .ls 10160), (20, .i ((((anglesO (nextV x e) (gapV x) m).getD []).length : Nat) : Int)), (21, .i (((i + 1) : Nat) : Int))], (spots_frH9 o x e m i)⟩
   [((i : Int) + 1) = (((i + 1) : Nat) : Int), -9223372036854775808 ≤ (((i + 1) : Nat) : Int) ∧ (((i + 1) : Nat) : Int) < 9223372036854775808] (al2 (by omega) (al1 (by omega))) ?_
  exact ⟨((i + 1), (o ++ [(⟨(ix ((anglesO (nextV x e) (gapV x) m).getD []) i), e⟩ : Spt)])), ⟨(by (try dsimp only); first | omega | rfl | assumption | (simp; done)), (by (try dsimp only); simp; omega), (by (try dsimp only); rw [← hq, drop_ix (l := (anglesO (nextV x e) (gapV x) m).getD []) (i := i) (by omega)]; simp)⟩, (show ((anglesO (nextV x e) (gapV x) m).getD []).length - (i + 1) < ((anglesO (nextV x e) (gapV x) m).getD []).length - i by first | omega | rfl | assumption),
      (enr [(2001, 1030)] ⟨rfl, rfl, rfl, rfl, rfl, rfl, trivial⟩ (conts_cons rfl (le_vec (by first | rfl | omega | assumption | (simp; done) | (rw [hz])) el_rfl) (cve rfl trivial)))⟩
 ·
  have h1p : ((((anglesO (nextV x e) (gapV x) m).getD []).length : Nat) : Int) ≤ (i : Int) := dlt h1
  refine aw_exit (exit_then (exit_then (exit_in ?_)))
  apply aw_seq
  have hz : o = spotsL x e m := by
   rw [List.drop_eq_nil_of_le (by omega)] at hq
   simpa using hq
  refine awr []
   ⟨34, [0, 1, 2], [(6, .ls 2001), (7, .b ((anglesO (nextV x e) (gapV x) m).isSome))], [(2001, some (.vec 72 2 o.length (Lst eS o)))]⟩
   [] trivial ?_
  exact aw_ret ⟨.inr rfl, eok ⟨34, [0, 1, 2], [(6, .ls 7), (7, .b ((anglesO (nextV x e) (gapV x) m).isSome))], [(7, some (spots_frK10 x e m))]⟩
      (enr [(7, 2001)] ⟨rfl, rfl, trivial⟩ (conts_cons rfl (le_vec (by first | rfl | omega | assumption | (rw [hz])) (lst_eq (by first | rfl | omega | assumption | (rw [hz])))) trivial)) (wr_cons rfl (plain_Lst plain_eS) wr_nil)⟩
def Spots_frA1 (t : TreeV) : SV := .agg [.i t.year, .i t.glo, .i t.ghi, .i t.wlo, .i t.whi, .i t.health, .ls 1]
def Spots_frA2 (r : RuleV) : SV := .agg [.i r.slo, .i r.shi, .i r.ulo, .i r.uhi, .i r.hlo, .i r.hhi, .i r.apart, .i r.blo, .i r.bhi, .ls 2, .i r.n0, .i r.n1, .i r.n2, .i r.n3, .i r.n4, .i r.opn]
def Spots_frK3 (t : TreeV) : Cn := .ro 3 t.holes.length (Lst eH t.holes)
def Spots_frK4 (r : RuleV) : Cn := .ro 2 r.sizes.length (Lst eZ r.sizes)
def Spots_frK5 (t : TreeV) : Cn := .blk 26 [.i t.year, .i t.glo, .i t.ghi, .i t.wlo, .i t.whi, .i t.health, .ls 1]
def Spots_frK6 (r : RuleV) : Cn := .blk 30 [.i r.slo, .i r.shi, .i r.ulo, .i r.uhi, .i r.hlo, .i r.hhi, .i r.apart, .i r.blo, .i r.bhi, .ls 2, .i r.n0, .i r.n1, .i r.n2, .i r.n3, .i r.n4, .i r.opn]
def Spots_frH7 (t : TreeV) (r : RuleV) : List (Nat × Option Cn) := [(1, some (Spots_frK3 t)), (2, some (Spots_frK4 r)), (1005, some (Spots_frK5 t)), (1006, some (Spots_frK6 r))]
def Spots_frK8 (t : TreeV) (r : RuleV) (y : Int) : Cn := .blk 123 [.i ((openV t r y).t.year), .i ((openV t r y).t.glo), .i ((openV t r y).t.ghi), .i ((openV t r y).t.wlo), .i ((openV t r y).t.whi), .i ((openV t r y).t.health), .ls 1, .i ((openV t r y).r.slo), .i ((openV t r y).r.shi), .i ((openV t r y).r.ulo), .i ((openV t r y).r.uhi), .i ((openV t r y).r.hlo), .i ((openV t r y).r.hhi), .i ((openV t r y).r.apart), .i ((openV t r y).r.blo), .i ((openV t r y).r.bhi), .ls 2, .i ((openV t r y).r.n0), .i ((openV t r y).r.n1), .i ((openV t r y).r.n2), .i ((openV t r y).r.n3), .i ((openV t r y).r.n4), .i ((openV t r y).r.opn), .i ((openV t r y).year), .i ((openV t r y).worst.girth), .i ((openV t r y).worst.side), .i ((openV t r y).worst.up), .i ((openV t r y).worst.heal), .i ((openV t r y).best.girth), .i ((openV t r y).best.side), .i ((openV t r y).best.up), .i ((openV t r y).best.heal)]
def Spots_frH9 (t : TreeV) (r : RuleV) (y : Int) : List (Nat × Option Cn) := [(1, some (Spots_frK3 t)), (2, some (Spots_frK4 r)), (10210, some (Spots_frK8 t r y))]
def Spots_frK10 (t : TreeV) (r : RuleV) (y : Int) (e : Int) (m : Int) : Cn := .vec 72 2 ((spotsR t r y e m).length) (Lst eS (spotsR t r y e m))
def Spots_frK11 (t : TreeV) (r : RuleV) (y : Int) (e : Int) (m : Int) : Cn := .vec 72 2 ((spotsL (openV t r y) e m).length) (Lst eS (spotsL (openV t r y) e m))
set_option maxRecDepth 100000 in
theorem Spots_fr (t : TreeV) (r : RuleV) (y e m : Int) (ht : t.holes.length ≤ 1000000) (hr : r.sizes.length ≤ 1000000) : CallFr Try.prog 30 [(Spots_frA1 t), (Spots_frA2 r), .i y, .i e, .i m] [1, 2] [some (.ro 3 t.holes.length (Lst eH t.holes)), some (.ro 2 r.sizes.length (Lst eZ r.sizes))] (.tup [.one (.ls 3), .one (.i (spotsE t r y e m))]) [(3, some (.vec 72 2 ((spotsR t r y e m).length) (Lst eS (spotsR t r y e m))))] := by
 refine callFr_of (fn := Try.f30) (by kernel_rfl) rfl (by kernel_rfl) (by kernel_rfl) fun E => ?_
 refine aw_ent (T := ⟨43, [1, 2], [(0, (Spots_frA1 t)), (1, (Spots_frA2 r)), (2, .i y), (3, .i e), (4, .i m)], [(1, some (Spots_frK3 t)), (2, some (Spots_frK4 r))]⟩) (Ent.refl _) ?_
 apply aw_seq
 refine awr [(0, .new 1005), (1, .new 1006)]
  ⟨43, [1, 2], [(2, .i y), (3, .i e), (4, .i m), (5, .l (.ref 1005 0)), (6, .l (.ref 1006 0))], (Spots_frH7 t r)⟩
  [] trivial ?_
 apply aw_seq
 rcases Bool.eq_false_or_eq_true (decide (startE t r y = 0)) with h1 | h1
 ·
  rcases Bool.eq_false_or_eq_true (within 0 5000 [e]) with h2 | h2
  ·
   refine awr [(4, .call [1, 2] (.tup [.one (.ref 10210 0), .one (.i 0)]) [(10210, some (Spots_frK8 t r y))])]
    ⟨43, [1, 2], [(3, .i e), (4, .i m), (12, .l (.ref 10210 0)), (13, .i 0)], (Spots_frH9 t r y)⟩
    [CallOK Try.prog 65 [(Spots_frA1 t), (Spots_frA2 r), .i y, .i e] [1, 2] [some (Spots_frK3 t), some (Spots_frK4 r)] (.tup [.one (.ref 10210 0), .one (.i 0)]) [(10210, some (Spots_frK8 t r y))]] (al1 (cfr (at_ok_fr t r y e (by first | omega | (simp; done) | assumption) (by first | omega | (simp; done) | assumption) (dtr h1) h2) [(1, 1), (2, 2), (5, 10210)] (dem_cons rfl (le_ro rfl el_rfl) (dem_cons rfl (le_ro rfl el_rfl) dem_nil)))) ?_
   have hx := open_ok (dtr h1)
   have he5 := within1.1 h2
   apply aw_seq
   apply aw_block
   apply aw_seq
   refine awr []
    ⟨43, [1, 2], [(3, .i e), (4, .i m), (12, .l (.ref 10210 0)), (13, .i 0), (24, .b (decide ((0 : Int) ≠ (0 : Int))))], (Spots_frH9 t r y)⟩
    [] trivial ?_
   have h3 : (decide ((0 : Int) ≠ (0 : Int))) = false := by decide
   refine aw_cond (b := decide ((0 : Int) ≠ (0 : Int))) rfl (fun h => Bool.noConfusion (h3.symm.trans h)) (fun _ => ?_)
   apply aw_seq
   refine awr [(1, .new 1030), (2, .call [1030] (.b (within 0 20 ([m]))) [])]
    ⟨43, [1, 2], [(3, .i e), (4, .i m), (12, .l (.ref 10210 0)), (28, .b (!(within 0 20 ([m]))))], (Spots_frH9 t r y)⟩
    [CallOK Try.prog 55 [.i 0, .i 20, .ls 1030] [1030] [some (.vec 3 1 1 (exEl 1 [.i m]))] (.b (within 0 20 ([m]))) []] (al1 (cfr (within_fr 0 20 ([m]) (by first | omega | (simp; done) | decide)) [(0, 1030)] (dem_cons rfl (le_vec_ro (by first | omega | rfl | assumption) (fun | 0, _ => (fun | 0, _ => rfl | (_n + 1), h => absurd h (by omega)) | (_n + 1), h => absurd h (by omega))) dem_nil))) ?_
   refine aw_cond (b := (!(within 0 20 ([m])))) rfl (fun h4 => ?_) (fun h4 => ?_)
   ·
    apply aw_seq
    refine awr []
     ⟨43, [1, 2], [(10, .l (.v (.slice none 0 0))), (11, .i 3)], []⟩
     [] trivial ?_
    exact aw_ret (ret_block (ret_then ⟨.inr rfl, eok ⟨43, [1, 2], [(10, .ls 3), (11, .i (spotsE t r y e m))], [(3, some (Spots_frK10 t r y e m))]⟩
        (Ent.trans (Ent.nilSlot 10 70001 72 2 (Lst eS (spotsR t r y e m)) rfl (by omega) (by kernel_rfl)) (enr [(3, 70001)] ⟨rfl, (slot_i rfl (by first | rfl | omega | assumption | (simp_all [spotsR, spotsE, atE]))), trivial⟩ (conts_cons rfl (le_vec (by first | rfl | omega | assumption | (simp_all [spotsR, spotsE, atE])) el_rfl) trivial))) (wr_cons rfl (plain_Lst plain_eS) wr_nil)⟩))
   ·
    apply aw_skip
    apply aw_seq
    refine awr [(3, .call [10210, 1, 2] (.tup [.one (.ls 10370), .one (.v (.bool ((anglesO (nextV (openV t r y) e) (gapV (openV t r y)) m).isSome)))]) [(10370, some (Spots_frK11 t r y e m))])]
     ⟨43, [1, 2], [(14, .ls 10370), (15, .b ((anglesO (nextV (openV t r y) e) (gapV (openV t r y)) m).isSome))], [(10370, some (Spots_frK11 t r y e m))]⟩
     [CallOK Try.prog 69 [.l (.ref 10210 0), .i e, .i m] [10210, 1, 2] [some (Spots_frK8 t r y), some (Spots_frK3 t), some (Spots_frK4 r)] (.tup [.one (.ls 10370), .one (.v (.bool ((anglesO (nextV (openV t r y) e) (gapV (openV t r y)) m).isSome)))]) [(10370, some (Spots_frK11 t r y e m))]] (al1 (cfr (spots_fr (openV t r y) e m (by assumption) (by omega) (by first | omega | (have := within1.1 (by simpa using (by assumption : (!(within 0 20 [m])) = false)); omega))) [(0, 10210), (1, 1), (2, 2), (7, 10370)] (dem_cons rfl (le_blk_r rfl) (dem_cons rfl (le_ro (by first | omega | rfl | assumption) el_rfl) (dem_cons rfl (le_ro (by first | omega | rfl | assumption) el_rfl) dem_nil))))) ?_
    apply aw_seq
    apply aw_seq
    refine awr []
     ⟨43, [1, 2], [(14, .ls 10370), (41, .b (!((anglesO (nextV (openV t r y) e) (gapV (openV t r y)) m).isSome)))], [(10370, some (Spots_frK11 t r y e m))]⟩
     [] trivial ?_
    refine aw_cond (b := (!((anglesO (nextV (openV t r y) e) (gapV (openV t r y)) m).isSome))) rfl (fun h5 => ?_) (fun h5 => ?_)
    ·
     apply aw_seq
     refine awr []
      ⟨43, [1, 2], [(10, .l (.v (.slice none 0 0))), (11, .i 7)], []⟩
      [] trivial ?_
     exact aw_ret (ret_then ⟨.inr rfl, eok ⟨43, [1, 2], [(10, .ls 3), (11, .i (spotsE t r y e m))], [(3, some (Spots_frK10 t r y e m))]⟩
         (Ent.trans (Ent.nilSlot 10 70002 72 2 (Lst eS (spotsR t r y e m)) rfl (by omega) (by kernel_rfl)) (enr [(3, 70002)] ⟨rfl, (slot_i rfl (by first | rfl | omega | assumption | (simp_all [spotsR, spotsE, atE]))), trivial⟩ (conts_cons rfl (le_vec (by first | rfl | omega | assumption | (simp_all [spotsR, spotsE, atE])) el_rfl) trivial))) (wr_cons rfl (plain_Lst plain_eS) wr_nil)⟩)
    ·
     apply aw_skip
     apply aw_seq
     refine awr []
      ⟨43, [1, 2], [(10, .ls 10370), (11, .i 0)], [(10370, some (Spots_frK11 t r y e m))]⟩
      [] trivial ?_
     exact aw_ret ⟨.inr rfl, eok ⟨43, [1, 2], [(10, .ls 3), (11, .i (spotsE t r y e m))], [(3, some (Spots_frK10 t r y e m))]⟩
         (enr [(3, 10370)] ⟨rfl, (slot_i rfl (by first | rfl | omega | assumption | (simp_all [spotsR, spotsE, atE]))), trivial⟩ (conts_cons rfl (le_vec (by first | rfl | omega | assumption | (simp_all [spotsR, spotsE, atE])) (lst_eq (by first | rfl | omega | assumption | (simp_all [spotsR, spotsE, atE])))) trivial)) (wr_cons rfl (plain_Lst plain_eS) wr_nil)⟩
  ·
   refine awr [(4, .call [1, 2] (.tup [.one (.ref 10210 0), .one (.i 3)]) [(10210, some (Spots_frK8 t r y))])]
    ⟨43, [1, 2], [(3, .i e), (4, .i m), (12, .l (.ref 10210 0)), (13, .i 3)], (Spots_frH9 t r y)⟩
    [CallOK Try.prog 65 [(Spots_frA1 t), (Spots_frA2 r), .i y, .i e] [1, 2] [some (Spots_frK3 t), some (Spots_frK4 r)] (.tup [.one (.ref 10210 0), .one (.i 3)]) [(10210, some (Spots_frK8 t r y))]] (al1 (cfr (at_high_fr t r y e (by first | omega | (simp; done) | assumption) (by first | omega | (simp; done) | assumption) (dtr h1) h2) [(1, 1), (2, 2), (5, 10210)] (dem_cons rfl (le_ro rfl el_rfl) (dem_cons rfl (le_ro rfl el_rfl) dem_nil)))) ?_
   apply aw_seq
   apply aw_block
   apply aw_seq
   refine awr []
    ⟨43, [1, 2], [(3, .i e), (4, .i m), (12, .l (.ref 10210 0)), (13, .i 3), (24, .b (decide ((3 : Int) ≠ (0 : Int))))], (Spots_frH9 t r y)⟩
    [] trivial ?_
   have h6 : (decide ((3 : Int) ≠ (0 : Int))) = true := by decide
   refine aw_cond (b := decide ((3 : Int) ≠ (0 : Int))) rfl (fun _ => ?_) (fun h => Bool.noConfusion (h6.symm.trans h))
   apply aw_seq
   refine awr []
    ⟨43, [1, 2], [(10, .l (.v (.slice none 0 0))), (11, .i 3)], []⟩
    [] trivial ?_
   exact aw_ret (ret_block (ret_then ⟨.inr rfl, eok ⟨43, [1, 2], [(10, .ls 3), (11, .i (spotsE t r y e m))], [(3, some (Spots_frK10 t r y e m))]⟩
       (Ent.trans (Ent.nilSlot 10 70003 72 2 (Lst eS (spotsR t r y e m)) rfl (by omega) (by kernel_rfl)) (enr [(3, 70003)] ⟨rfl, (slot_i rfl (by first | rfl | omega | assumption | (simp_all [spotsR, spotsE, atE]))), trivial⟩ (conts_cons rfl (le_vec (by first | rfl | omega | assumption | (simp_all [spotsR, spotsE, atE])) el_rfl) trivial))) (wr_cons rfl (plain_Lst plain_eS) wr_nil)⟩))
 ·
  refine awr [(4, .call [1, 2] (.tup [.one (.v (.pointer none)), .one (.i (startE t r y))]) [])]
   ⟨43, [1, 2], [(3, .i e), (4, .i m), (12, .l (.v (.pointer none))), (13, .i (startE t r y))], []⟩
   [CallOK Try.prog 65 [(Spots_frA1 t), (Spots_frA2 r), .i y, .i e] [1, 2] [some (Spots_frK3 t), some (Spots_frK4 r)] (.tup [.one (.v (.pointer none)), .one (.i (startE t r y))]) []] (al1 (cfr (at_bad_fr t r y e (by first | omega | (simp; done) | assumption) (by first | omega | (simp; done) | assumption) (deq h1)) [(1, 1), (2, 2)] (dem_cons rfl (le_ro rfl el_rfl) (dem_cons rfl (le_ro rfl el_rfl) dem_nil)))) ?_
  apply aw_seq
  apply aw_block
  apply aw_seq
  refine awr []
   ⟨43, [1, 2], [(3, .i e), (4, .i m), (12, .l (.v (.pointer none))), (13, .i (startE t r y)), (24, .b (decide ((startE t r y) ≠ 0)))], []⟩
   [] trivial ?_
  have h7 : (decide ((startE t r y) ≠ 0)) = true := by simp_all
  refine aw_cond (b := decide ((startE t r y) ≠ 0)) rfl (fun _ => ?_) (fun h => Bool.noConfusion (h7.symm.trans h))
  apply aw_seq
  refine awr []
   ⟨43, [1, 2], [(10, .l (.v (.slice none 0 0))), (11, .i (startE t r y))], []⟩
   [] trivial ?_
  exact aw_ret (ret_block (ret_then ⟨.inr rfl, eok ⟨43, [1, 2], [(10, .ls 3), (11, .i (spotsE t r y e m))], [(3, some (Spots_frK10 t r y e m))]⟩
      (Ent.trans (Ent.nilSlot 10 70004 72 2 (Lst eS (spotsR t r y e m)) rfl (by omega) (by kernel_rfl)) (enr [(3, 70004)] ⟨rfl, (slot_i rfl (by first | rfl | omega | assumption | (simp_all [spotsR, spotsE, atE]))), trivial⟩ (conts_cons rfl (le_vec (by first | rfl | omega | assumption | (simp_all [spotsR, spotsE, atE])) el_rfl) trivial))) (wr_cons rfl (plain_Lst plain_eS) wr_nil)⟩))
end Go.Proofs.Ytbpblhmigijkaaa
