/- TrunkKeeps, walked. -/
import Derived.Test.YtbpblhmigijkaaaTw
import Derived.Test.YtbpblhmigijkaaaTu
namespace Go.Proofs.Ytbpblhmigijkaaa
open Go.RowKit
set_option linter.unusedVariables false
set_option linter.unusedSimpArgs false
def keepslaw_frK1 (t : TreeV) : Cn := .ro 3 t.holes.length (Lst eH t.holes)
def keepslaw_frK2 (r : RuleV) : Cn := .ro 2 r.sizes.length (Lst eZ r.sizes)
def keepslaw_frK3 (t : TreeV) (r : RuleV) : Cn := .blk 68 [.i t.year, .i t.glo, .i t.ghi, .i t.wlo, .i t.whi, .i t.health, .ls 1, .i r.slo, .i r.shi, .i r.ulo, .i r.uhi, .i r.hlo, .i r.hhi, .i r.apart, .i r.blo, .i r.bhi, .ls 2, .i r.n0, .i r.n1, .i r.n2, .i r.n3, .i r.n4, .i r.opn]
def keepslaw_frK4 (t : TreeV) : Cn := .blk 26 [.i t.year, .i t.glo, .i t.ghi, .i t.wlo, .i t.whi, .i t.health, .ls 1]
def keepslaw_frK5 (r : RuleV) : Cn := .blk 30 [.i r.slo, .i r.shi, .i r.ulo, .i r.uhi, .i r.hlo, .i r.hhi, .i r.apart, .i r.blo, .i r.bhi, .ls 2, .i r.n0, .i r.n1, .i r.n2, .i r.n3, .i r.n4, .i r.opn]
def keepslaw_frK6 (l : List Spt) : Cn := .vec 72 2 ((l).length) (Lst eS l)
def keepslaw_frK7 (t : TreeV) : Cn := .vec 74 3 ((t.holes).length) (Lst eH t.holes)
def keepslaw_frK8 (r : RuleV) : Cn := .vec 45 2 ((r.sizes).length) (Lst eZ r.sizes)
def keepslaw_frK9 (t : TreeV) (y : Int) (l : List Spt) : Cn := .vec 74 3 (((drillR t y l).holes).length) (Lst eH ((drillR t y l).holes))
def keepslaw_frK10 (t : TreeV) (y : Int) (l : List Spt) : Cn := .blk 26 [.i ((drillR t y l).year), .i ((drillR t y l).glo), .i ((drillR t y l).ghi), .i ((drillR t y l).wlo), .i ((drillR t y l).whi), .i ((drillR t y l).health), .ls 10520]
def keepslaw_frK11  : Cn := .vec 45 2 exRule.sizes.length (Lst eZ exRule.sizes)
def keepslaw_frK12  : Cn := .blk 26 [.i 0, .i 0, .i 0, .i 0, .i 0, .i 0, .ls 10520]
def keepslaw_frK13  : Cn := .vec 74 3 0 (Lst eH ([] : List Hol))
def keepslaw_frK14 (t : TreeV) (y : Int) (l : List Spt) : Cn := .vec 74 3 (((drillV t y l).holes).length) (Lst eH ((drillV t y l).holes))
def keepslaw_frK15 (t : TreeV) (y : Int) (l : List Spt) : Cn := .blk 26 [.i ((drillV t y l).year), .i ((drillV t y l).glo), .i ((drillV t y l).ghi), .i ((drillV t y l).wlo), .i ((drillV t y l).whi), .i ((drillV t y l).health), .ls 10870]
def keepslaw_frK16 (t : TreeV) (y : Int) (l : List Spt) : Cn := .blk 26 [.i ((drillV t y l).year), .i ((drillV t y l).glo), .i ((drillV t y l).ghi), .i ((drillV t y l).wlo), .i ((drillV t y l).whi), .i ((drillV t y l).health), .ls 10520]
def keepslaw_frK17  : Cn := .blk 26 [.i 0, .i 0, .i 0, .i 0, .i 0, .i 0, .v (.slice none 0 0)]
set_option maxHeartbeats 8000000 in
set_option maxRecDepth 100000 in
theorem keepslaw_fr (t : TreeV) (r : RuleV) (y : Int) (l : List Spt) (ht : t.holes.length ≤ 9223372036854775807) (hr : r.sizes.length ≤ 9223372036854775807) (hl : l.length ≤ 9223372036854775807) : CallFr Try.prog 9 [.agg [.i t.year, .i t.glo, .i t.ghi, .i t.wlo, .i t.whi, .i t.health, .ls 1, .i r.slo, .i r.shi, .i r.ulo, .i r.uhi, .i r.hlo, .i r.hhi, .i r.apart, .i r.blo, .i r.bhi, .ls 2, .i r.n0, .i r.n1, .i r.n2, .i r.n3, .i r.n4, .i r.opn], .i y, .ls 3] [1, 2, 3] [some (.ro 3 t.holes.length (Lst eH t.holes)), some (.ro 2 r.sizes.length (Lst eZ r.sizes)), some (.ro 2 l.length (Lst eS l))] (.b true) [] := by
 have hr2 : exRule.sizes.length ≤ 1000000 := by decide
 refine callFr_of (fn := Try.f9) (by kernel_rfl) rfl (by kernel_rfl) (by kernel_rfl) fun E => ?_
 refine aw_ent (T := ⟨161, [1, 2, 3], [(0, .agg [.i t.year, .i t.glo, .i t.ghi, .i t.wlo, .i t.whi, .i t.health, .ls 1, .i r.slo, .i r.shi, .i r.ulo, .i r.uhi, .i r.hlo, .i r.hhi, .i r.apart, .i r.blo, .i r.bhi, .ls 2, .i r.n0, .i r.n1, .i r.n2, .i r.n3, .i r.n4, .i r.opn]), (1, .i y), (2, .ls 3)], [(1, some (keepslaw_frK1 t)), (2, some (keepslaw_frK2 r)), (3, some (.ro 2 l.length (Lst eS l)))]⟩) (Ent.refl _) ?_
 refine aw_seq ?_
 refine aw_r [(0, .new 1003)]
  ⟨161, [1, 2, 3], [(1, .i y), (2, .ls 3), (3, .l (.ref 1003 0))], [(1, some (keepslaw_frK1 t)), (2, some (keepslaw_frK2 r)), (3, some (.ro 2 l.length (Lst eS l))), (1003, some (keepslaw_frK3 t r))]⟩
  [] (by kernel_rfl) trivial ?_
 refine aw_seq ?_
 refine aw_d [(4, .new 1007), (5, .new 1008)]
  ⟨161, [1, 2, 3], [(1, .i y), (2, .ls 3), (7, .l (.ref 1007 0)), (8, .l (.ref 1008 0))], [(1, some (keepslaw_frK1 t)), (2, some (keepslaw_frK2 r)), (3, some (.ro 2 l.length (Lst eS l))), (1007, some (keepslaw_frK4 t)), (1008, some (keepslaw_frK5 r))]⟩
  [] (by kernel_rfl) (by kernel_rfl) trivial ?_
 refine aw_seq ?_
 refine aw_seq ?_
 rcases Bool.eq_false_or_eq_true ((largeB t r)) with h1 | h1
 ·
  refine aw_r [(2, .call [1, 2] (.b (largeB t r)) []), (3, .dec true)]
   ⟨161, [1, 2, 3], [(1, .i y), (2, .ls 3), (7, .l (.ref 1007 0)), (8, .l (.ref 1008 0)), (32, .b true)], [(1, some (keepslaw_frK1 t)), (2, some (keepslaw_frK2 r)), (3, some (.ro 2 l.length (Lst eS l))), (1007, some (keepslaw_frK4 t)), (1008, some (keepslaw_frK5 r))]⟩
   [CallOK Try.prog 13 [.agg [.i t.year, .i t.glo, .i t.ghi, .i t.wlo, .i t.whi, .i t.health, .ls 1], .agg [.i r.slo, .i r.shi, .i r.ulo, .i r.uhi, .i r.hlo, .i r.hhi, .i r.apart, .i r.blo, .i r.bhi, .ls 2, .i r.n0, .i r.n1, .i r.n2, .i r.n3, .i r.n4, .i r.opn]] [1, 2] [some (keepslaw_frK1 t), some (keepslaw_frK2 r)] (.b (largeB t r)) [], (largeB t r) = true] (by kernel_rfl) (al2 (CallFr.to (large_fr t r (by first | omega | (simp; done) | assumption) (by first | omega | (simp; done) | assumption)) [(1, 1), (2, 2)] (by kernel_rfl) (by kernel_rfl) (by kernel_rfl) (by kernel_rfl) (by kernel_rfl) (dem_cons rfl (le_ro rfl el_rfl) (dem_cons rfl (le_ro rfl el_rfl) dem_nil))) (al1 h1)) ?_
  refine aw_true rfl ?_
  refine aw_seq ?_
  refine aw_r [(0, .call [] (.b true) [])]
   ⟨161, [1, 2, 3], [(6, .b true)], []⟩
   [CallOK Try.prog 14 [] [] [] (.b true) []] (by kernel_rfl) (al1 (CallFr.to (known_fr ) [] (by kernel_rfl) (by kernel_rfl) (by kernel_rfl) (by kernel_rfl) (by kernel_rfl) dem_nil)) ?_
  exact aw_ret (ret_then ⟨.inr rfl, end_ok ⟨161, [1, 2, 3], [(6, .b true)], []⟩
      (Ent.ren [] rfl rfl (by kernel_rfl) ⟨rfl, trivial⟩ trivial (by kernel_rfl)) rfl (by kernel_rfl) wr_nil (by kernel_rfl)⟩)
 ·
  refine aw_r [(2, .call [1, 2] (.b (largeB t r)) []), (3, .dec false)]
   ⟨161, [1, 2, 3], [(1, .i y), (2, .ls 3), (7, .l (.ref 1007 0)), (8, .l (.ref 1008 0)), (32, .b (decide (25 < ((l.length : Nat) : Int))))], [(1, some (keepslaw_frK1 t)), (2, some (keepslaw_frK2 r)), (3, some (.ro 2 l.length (Lst eS l))), (1007, some (keepslaw_frK4 t)), (1008, some (keepslaw_frK5 r))]⟩
   [CallOK Try.prog 13 [.agg [.i t.year, .i t.glo, .i t.ghi, .i t.wlo, .i t.whi, .i t.health, .ls 1], .agg [.i r.slo, .i r.shi, .i r.ulo, .i r.uhi, .i r.hlo, .i r.hhi, .i r.apart, .i r.blo, .i r.bhi, .ls 2, .i r.n0, .i r.n1, .i r.n2, .i r.n3, .i r.n4, .i r.opn]] [1, 2] [some (keepslaw_frK1 t), some (keepslaw_frK2 r)] (.b (largeB t r)) [], (largeB t r) = false] (by kernel_rfl) (al2 (CallFr.to (large_fr t r (by first | omega | (simp; done) | assumption) (by first | omega | (simp; done) | assumption)) [(1, 1), (2, 2)] (by kernel_rfl) (by kernel_rfl) (by kernel_rfl) (by kernel_rfl) (by kernel_rfl) (dem_cons rfl (le_ro rfl el_rfl) (dem_cons rfl (le_ro rfl el_rfl) dem_nil))) (al1 h1)) ?_
  refine aw_cond (b := decide (25 < ((l.length : Nat) : Int))) rfl (fun h2 => ?_) (fun h2 => ?_)
  ·
   have h2p : 25 < ((l.length : Nat) : Int) := dtr h2
   refine aw_seq ?_
   refine aw_r [(0, .call [] (.b true) [])]
    ⟨161, [1, 2, 3], [(6, .b true)], []⟩
    [CallOK Try.prog 14 [] [] [] (.b true) []] (by kernel_rfl) (al1 (CallFr.to (known_fr ) [] (by kernel_rfl) (by kernel_rfl) (by kernel_rfl) (by kernel_rfl) (by kernel_rfl) dem_nil)) ?_
   exact aw_ret (ret_then ⟨.inr rfl, end_ok ⟨161, [1, 2, 3], [(6, .b true)], []⟩
       (Ent.ren [] rfl rfl (by kernel_rfl) ⟨rfl, trivial⟩ trivial (by kernel_rfl)) rfl (by kernel_rfl) wr_nil (by kernel_rfl)⟩)
  ·
   have h2p : ((l.length : Nat) : Int) ≤ 25 := dlt h2
   refine aw_skip ?_
   refine aw_seq ?_
   have hsz := large_no (by assumption)
   refine aw_r [(1, .call [3] (.ls 10350) [(10350, some (keepslaw_frK6 l))])]
    ⟨161, [1, 2, 3], [(1, .i y), (2, .ls 3), (7, .l (.ref 1007 0)), (8, .l (.ref 1008 0)), (9, .ls 10350)], [(1, some (keepslaw_frK1 t)), (2, some (keepslaw_frK2 r)), (3, some (.ro 2 l.length (Lst eS l))), (1007, some (keepslaw_frK4 t)), (1008, some (keepslaw_frK5 r)), (10350, some (keepslaw_frK6 l))]⟩
    [CallOK Try.prog 44 [.ls 3] [3] [some (.ro 2 l.length (Lst eS l))] (.ls 10350) [(10350, some (keepslaw_frK6 l))]] (by kernel_rfl) (al1 (CallFr.to (spotsc_fr l (by omega)) [(1, 3), (2, 10350)] (by kernel_rfl) (by kernel_rfl) (by kernel_rfl) (by kernel_rfl) (by kernel_rfl) (dem_cons rfl (le_ro rfl el_rfl) dem_nil))) ?_
   refine aw_seq ?_
   refine aw_d [(1, .call [1] (.agg [.i t.year, .i t.glo, .i t.ghi, .i t.wlo, .i t.whi, .i t.health, .ls 10380]) [(10380, some (keepslaw_frK7 t))]), (3, .call [2] (.agg [.i r.slo, .i r.shi, .i r.ulo, .i r.uhi, .i r.hlo, .i r.hhi, .i r.apart, .i r.blo, .i r.bhi, .ls 10400, .i r.n0, .i r.n1, .i r.n2, .i r.n3, .i r.n4, .i r.opn]) [(10400, some (keepslaw_frK8 r))]), (6, .call [10380, 10400, 10350] (.tup [.one (.i ((keepsR t r y l).at_)), .one (.i ((keepsR t r y l).rule)), .one (.i (keepsE t r y l))]) [])]
    ⟨161, [1, 2, 3], [(1, .i y), (2, .ls 3), (7, .l (.ref 1007 0)), (8, .l (.ref 1008 0)), (9, .ls 10350), (10, .i ((keepsR t r y l).at_)), (11, .i ((keepsR t r y l).rule)), (12, .i (keepsE t r y l))], [(1, some (keepslaw_frK1 t)), (2, some (keepslaw_frK2 r)), (3, some (.ro 2 l.length (Lst eS l))), (1007, some (keepslaw_frK4 t)), (1008, some (keepslaw_frK5 r)), (10350, some (keepslaw_frK6 l))]⟩
    [CallOK Try.prog 15 [.agg [.i t.year, .i t.glo, .i t.ghi, .i t.wlo, .i t.whi, .i t.health, .ls 1]] [1] [some (keepslaw_frK1 t)] (.agg [.i t.year, .i t.glo, .i t.ghi, .i t.wlo, .i t.whi, .i t.health, .ls 10380]) [(10380, some (keepslaw_frK7 t))], CallOK Try.prog 16 [.agg [.i r.slo, .i r.shi, .i r.ulo, .i r.uhi, .i r.hlo, .i r.hhi, .i r.apart, .i r.blo, .i r.bhi, .ls 2, .i r.n0, .i r.n1, .i r.n2, .i r.n3, .i r.n4, .i r.opn]] [2] [some (keepslaw_frK2 r)] (.agg [.i r.slo, .i r.shi, .i r.ulo, .i r.uhi, .i r.hlo, .i r.hhi, .i r.apart, .i r.blo, .i r.bhi, .ls 10400, .i r.n0, .i r.n1, .i r.n2, .i r.n3, .i r.n4, .i r.opn]) [(10400, some (keepslaw_frK8 r))], CallOK Try.prog 45 [.agg [.i t.year, .i t.glo, .i t.ghi, .i t.wlo, .i t.whi, .i t.health, .ls 10380], .agg [.i r.slo, .i r.shi, .i r.ulo, .i r.uhi, .i r.hlo, .i r.hhi, .i r.apart, .i r.blo, .i r.bhi, .ls 10400, .i r.n0, .i r.n1, .i r.n2, .i r.n3, .i r.n4, .i r.opn], .i y, .ls 10350] [10380, 10400, 10350] [some (keepslaw_frK7 t), some (keepslaw_frK8 r), some (keepslaw_frK6 l)] (.tup [.one (.i ((keepsR t r y l).at_)), .one (.i ((keepsR t r y l).rule)), .one (.i (keepsE t r y l))]) []] (by kernel_rfl) (by kernel_rfl) (al2 (CallFr.to (own_fr t (by first | omega | (simp; done) | assumption)) [(1, 1), (2, 10380)] (by kernel_rfl) (by kernel_rfl) (by kernel_rfl) (by kernel_rfl) (by kernel_rfl) (dem_cons rfl (le_ro rfl el_rfl) dem_nil)) (al2 (CallFr.to (tapsc_fr r (by first | omega | (simp; done) | assumption)) [(1, 2), (2, 10400)] (by kernel_rfl) (by kernel_rfl) (by kernel_rfl) (by kernel_rfl) (by kernel_rfl) (dem_cons rfl (le_ro rfl el_rfl) dem_nil)) (al1 (CallFr.to (Keeps_fr t r y l (by first | omega | (simp; done) | assumption) (by first | omega | (simp; done) | assumption) (by first | omega | (simp; done) | assumption)) [(1, 10380), (2, 10400), (3, 10350)] (by kernel_rfl) (by kernel_rfl) (by kernel_rfl) (by kernel_rfl) (by kernel_rfl) (dem_cons rfl (le_vec_ro rfl el_rfl) (dem_cons rfl (le_vec_ro rfl el_rfl) (dem_cons rfl (le_vec_ro rfl el_rfl) dem_nil))))))) ?_
   refine aw_seq ?_
   refine aw_r [(1, .call [1] (.agg [.i t.year, .i t.glo, .i t.ghi, .i t.wlo, .i t.whi, .i t.health, .ls 10490]) [(10490, some (keepslaw_frK7 t))]), (4, .call [10490, 10350] (.tup [.agg [.i ((drillR t y l).year), .i ((drillR t y l).glo), .i ((drillR t y l).ghi), .i ((drillR t y l).wlo), .i ((drillR t y l).whi), .i ((drillR t y l).health), .ls 10520], .one (.i (drillE t y l))]) [(10520, some (keepslaw_frK9 t y l))]), (8, .new 1013)]
    ⟨161, [1, 2, 3], [(1, .i y), (2, .ls 3), (7, .l (.ref 1007 0)), (8, .l (.ref 1008 0)), (9, .ls 10350), (10, .i ((keepsR t r y l).at_)), (11, .i ((keepsR t r y l).rule)), (12, .i (keepsE t r y l)), (13, .l (.ref 1013 0)), (14, .i (drillE t y l))], [(1, some (keepslaw_frK1 t)), (2, some (keepslaw_frK2 r)), (3, some (.ro 2 l.length (Lst eS l))), (1007, some (keepslaw_frK4 t)), (1008, some (keepslaw_frK5 r)), (1013, some (keepslaw_frK10 t y l)), (10350, some (keepslaw_frK6 l)), (10520, some (keepslaw_frK9 t y l))]⟩
    [CallOK Try.prog 15 [.agg [.i t.year, .i t.glo, .i t.ghi, .i t.wlo, .i t.whi, .i t.health, .ls 1]] [1] [some (keepslaw_frK1 t)] (.agg [.i t.year, .i t.glo, .i t.ghi, .i t.wlo, .i t.whi, .i t.health, .ls 10490]) [(10490, some (keepslaw_frK7 t))], CallOK Try.prog 46 [.agg [.i t.year, .i t.glo, .i t.ghi, .i t.wlo, .i t.whi, .i t.health, .ls 10490], .i y, .ls 10350] [10490, 10350] [some (keepslaw_frK7 t), some (keepslaw_frK6 l)] (.tup [.agg [.i ((drillR t y l).year), .i ((drillR t y l).glo), .i ((drillR t y l).ghi), .i ((drillR t y l).wlo), .i ((drillR t y l).whi), .i ((drillR t y l).health), .ls 10520], .one (.i (drillE t y l))]) [(10520, some (keepslaw_frK9 t y l))]] (by kernel_rfl) (al2 (CallFr.to (own_fr t (by first | omega | (simp; done) | assumption)) [(1, 1), (2, 10490)] (by kernel_rfl) (by kernel_rfl) (by kernel_rfl) (by kernel_rfl) (by kernel_rfl) (dem_cons rfl (le_ro rfl el_rfl) dem_nil)) (al1 (CallFr.to (Drill_fr t y l (by first | omega | (simp; done) | assumption) (by first | omega | (simp; done) | assumption)) [(1, 10490), (3, 10350), (9, 10520)] (by kernel_rfl) (by kernel_rfl) (by kernel_rfl) (by kernel_rfl) (by kernel_rfl) (dem_cons rfl (le_vec_ro rfl el_rfl) (dem_cons rfl (le_vec_ro rfl el_rfl) dem_nil))))) ?_
   refine aw_seq ?_
   refine aw_seq ?_
   refine aw_r [(2, .call [10350, 3] (.b true) [])]
    ⟨161, [1, 2, 3], [(1, .i y), (2, .ls 3), (7, .l (.ref 1007 0)), (8, .l (.ref 1008 0)), (10, .i ((keepsR t r y l).at_)), (11, .i ((keepsR t r y l).rule)), (12, .i (keepsE t r y l)), (13, .l (.ref 1013 0)), (14, .i (drillE t y l)), (58, .b false)], [(1, some (keepslaw_frK1 t)), (2, some (keepslaw_frK2 r)), (3, some (.ro 2 l.length (Lst eS l))), (1007, some (keepslaw_frK4 t)), (1008, some (keepslaw_frK5 r)), (1013, some (keepslaw_frK10 t y l)), (10520, some (keepslaw_frK9 t y l))]⟩
    [CallOK Try.prog 35 [.ls 10350, .ls 3] [10350, 3] [some (keepslaw_frK6 l), some (.ro 2 l.length (Lst eS l))] (.b true) []] (by kernel_rfl) (al1 (CallFr.to (spotsS_fr l (by first | omega | (simp; done) | assumption)) [(1, 10350), (2, 3)] (by kernel_rfl) (by kernel_rfl) (by kernel_rfl) (by kernel_rfl) (by kernel_rfl) (dem_cons rfl (le_vec_ro rfl el_rfl) (dem_cons rfl (le_ro rfl el_rfl) dem_nil)))) ?_
   refine aw_false rfl ?_
   refine aw_skip ?_
   refine aw_seq ?_
   refine aw_r []
    ⟨161, [1, 2, 3], [(1, .i y), (2, .ls 3), (7, .l (.ref 1007 0)), (8, .l (.ref 1008 0)), (10, .i ((keepsR t r y l).at_)), (11, .i ((keepsR t r y l).rule)), (12, .i (keepsE t r y l)), (13, .l (.ref 1013 0)), (14, .i (drillE t y l)), (15, .i 0)], [(1, some (keepslaw_frK1 t)), (2, some (keepslaw_frK2 r)), (3, some (.ro 2 l.length (Lst eS l))), (1007, some (keepslaw_frK4 t)), (1008, some (keepslaw_frK5 r)), (1013, some (keepslaw_frK10 t y l)), (10520, some (keepslaw_frK9 t y l))]⟩
    [] (by kernel_rfl) trivial ?_
   refine aw_seq ?_
   refine aw_seq ?_
   refine aw_r []
    ⟨161, [1, 2, 3], [(1, .i y), (2, .ls 3), (7, .l (.ref 1007 0)), (8, .l (.ref 1008 0)), (10, .i ((keepsR t r y l).at_)), (11, .i ((keepsR t r y l).rule)), (12, .i (keepsE t r y l)), (13, .l (.ref 1013 0)), (14, .i (drillE t y l)), (15, .i 0), (61, .b (decide (20 < ((l.length : Nat) : Int))))], [(1, some (keepslaw_frK1 t)), (2, some (keepslaw_frK2 r)), (3, some (.ro 2 l.length (Lst eS l))), (1007, some (keepslaw_frK4 t)), (1008, some (keepslaw_frK5 r)), (1013, some (keepslaw_frK10 t y l)), (10520, some (keepslaw_frK9 t y l))]⟩
    [] (by kernel_rfl) trivial ?_
   refine aw_cond (b := decide (20 < ((l.length : Nat) : Int))) rfl (fun h3 => ?_) (fun h3 => ?_)
   ·
    have h3p : 20 < ((l.length : Nat) : Int) := dtr h3
    refine aw_r []
     ⟨161, [1, 2, 3], [(1, .i y), (2, .ls 3), (7, .l (.ref 1007 0)), (8, .l (.ref 1008 0)), (10, .i ((keepsR t r y l).at_)), (11, .i ((keepsR t r y l).rule)), (12, .i (keepsE t r y l)), (13, .l (.ref 1013 0)), (14, .i (drillE t y l)), (15, .i 5)], [(1, some (keepslaw_frK1 t)), (2, some (keepslaw_frK2 r)), (3, some (.ro 2 l.length (Lst eS l))), (1007, some (keepslaw_frK4 t)), (1008, some (keepslaw_frK5 r)), (1013, some (keepslaw_frK10 t y l)), (10520, some (keepslaw_frK9 t y l))]⟩
     [] (by kernel_rfl) trivial ?_
    refine aw_seq ?_
    have hLS : lsE l = 5 := by simp_all [lsE]
    refine aw_ent (T := ⟨161, [1, 2, 3], [(1, .i y), (2, .ls 3), (7, .l (.ref 1007 0)), (8, .l (.ref 1008 0)), (10, .i ((keepsR t r y l).at_)), (11, .i ((keepsR t r y l).rule)), (12, .i (keepsE t r y l)), (13, .l (.ref 1013 0)), (14, .i (drillE t y l)), (15, .i (lsE l))], [(1, some (keepslaw_frK1 t)), (2, some (keepslaw_frK2 r)), (3, some (.ro 2 l.length (Lst eS l))), (1007, some (keepslaw_frK4 t)), (1008, some (keepslaw_frK5 r)), (1013, some (keepslaw_frK10 t y l)), (10520, some (keepslaw_frK9 t y l))]⟩)
        (Ent.ren [] rfl rfl (by kernel_rfl) ⟨rfl, rfl, rfl, rfl, rfl, rfl, rfl, rfl, rfl, (slot_i rfl (by first | rfl | omega | assumption | (omega))), trivial⟩ (cro rfl (cro rfl (cro rfl (cbl rfl rfl (cbl rfl rfl (cbl rfl rfl (cve rfl trivial))))))) (by kernel_rfl)) ?_
    refine aw_d [(1, .call [] (.agg [.i exRule.slo, .i exRule.shi, .i exRule.ulo, .i exRule.uhi, .i exRule.hlo, .i exRule.hhi, .i exRule.apart, .i exRule.blo, .i exRule.bhi, .ls 10660, .i exRule.n0, .i exRule.n1, .i exRule.n2, .i exRule.n3, .i exRule.n4, .i exRule.opn]) [(10660, some keepslaw_frK11)]), (3, .call [1, 10660] (.i (startE t exRule y)) [])]
     ⟨161, [1, 2, 3], [(1, .i y), (2, .ls 3), (7, .l (.ref 1007 0)), (8, .l (.ref 1008 0)), (10, .i ((keepsR t r y l).at_)), (11, .i ((keepsR t r y l).rule)), (12, .i (keepsE t r y l)), (13, .l (.ref 1013 0)), (14, .i (drillE t y l)), (15, .i (lsE l)), (16, .i (startE t exRule y))], [(1, some (keepslaw_frK1 t)), (2, some (keepslaw_frK2 r)), (3, some (.ro 2 l.length (Lst eS l))), (1007, some (keepslaw_frK4 t)), (1008, some (keepslaw_frK5 r)), (1013, some (keepslaw_frK10 t y l)), (10520, some (keepslaw_frK9 t y l))]⟩
     [CallOK Try.prog 25 [] [] [] (.agg [.i exRule.slo, .i exRule.shi, .i exRule.ulo, .i exRule.uhi, .i exRule.hlo, .i exRule.hhi, .i exRule.apart, .i exRule.blo, .i exRule.bhi, .ls 10660, .i exRule.n0, .i exRule.n1, .i exRule.n2, .i exRule.n3, .i exRule.n4, .i exRule.opn]) [(10660, some keepslaw_frK11)], CallOK Try.prog 24 [.agg [.i t.year, .i t.glo, .i t.ghi, .i t.wlo, .i t.whi, .i t.health, .ls 1], .agg [.i exRule.slo, .i exRule.shi, .i exRule.ulo, .i exRule.uhi, .i exRule.hlo, .i exRule.hhi, .i exRule.apart, .i exRule.blo, .i exRule.bhi, .ls 10660, .i exRule.n0, .i exRule.n1, .i exRule.n2, .i exRule.n3, .i exRule.n4, .i exRule.opn], .i y] [1, 10660] [some (keepslaw_frK1 t), some keepslaw_frK11] (.i (startE t exRule y)) []] (by kernel_rfl) (by kernel_rfl) (al2 (CallFr.to (rules_fr ) [(1, 10660)] (by kernel_rfl) (by kernel_rfl) (by kernel_rfl) (by kernel_rfl) (by kernel_rfl) dem_nil) (al1 (CallFr.to (refStart_fr t exRule y (by first | omega | (simp; done) | assumption) (by first | omega | (simp; done) | assumption)) [(1, 1), (2, 10660)] (by kernel_rfl) (by kernel_rfl) (by kernel_rfl) (by kernel_rfl) (by kernel_rfl) (dem_cons rfl (le_ro rfl el_rfl) (dem_cons rfl (le_vec_ro rfl el_rfl) dem_nil))))) ?_
    refine aw_seq ?_
    refine aw_seq ?_
    refine aw_ent (T := ⟨161, [1, 2, 3], [(1, .i y), (2, .ls 3), (7, .l (.ref 1007 0)), (8, .l (.ref 1008 0)), (10, .i ((keepsR t r y l).at_)), (11, .i ((keepsR t r y l).rule)), (12, .i (keepsE t r y l)), (13, .l (.ref 1013 0)), (14, .i (drillE t y l)), (15, .i (lsE l)), (16, .i (girthE t y))], [(1, some (keepslaw_frK1 t)), (2, some (keepslaw_frK2 r)), (3, some (.ro 2 l.length (Lst eS l))), (1007, some (keepslaw_frK4 t)), (1008, some (keepslaw_frK5 r)), (1013, some (keepslaw_frK10 t y l)), (10520, some (keepslaw_frK9 t y l))]⟩)
        (Ent.ren [] rfl rfl (by kernel_rfl) ⟨rfl, rfl, rfl, rfl, rfl, rfl, rfl, rfl, rfl, rfl, (slot_i rfl (by first | rfl | omega | assumption | (exact st_ex2))), trivial⟩ (cro rfl (cro rfl (cro rfl (cbl rfl rfl (cbl rfl rfl (cbl rfl rfl (cve rfl trivial))))))) (by kernel_rfl)) ?_
    refine aw_r []
     ⟨161, [1, 2, 3], [(1, .i y), (2, .ls 3), (7, .l (.ref 1007 0)), (8, .l (.ref 1008 0)), (10, .i ((keepsR t r y l).at_)), (11, .i ((keepsR t r y l).rule)), (12, .i (keepsE t r y l)), (13, .l (.ref 1013 0)), (14, .i (drillE t y l)), (15, .i (lsE l)), (16, .i (girthE t y)), (70, .b (decide ((girthE t y) = 0)))], [(1, some (keepslaw_frK1 t)), (2, some (keepslaw_frK2 r)), (3, some (.ro 2 l.length (Lst eS l))), (1007, some (keepslaw_frK4 t)), (1008, some (keepslaw_frK5 r)), (1013, some (keepslaw_frK10 t y l)), (10520, some (keepslaw_frK9 t y l))]⟩
     [] (by kernel_rfl) trivial ?_
    refine aw_cond (b := decide ((girthE t y) = 0)) rfl (fun h4 => ?_) (fun h4 => ?_)
    ·
     have h4p : (girthE t y) = 0 := dtr h4
     refine aw_r []
      ⟨161, [1, 2, 3], [(1, .i y), (2, .ls 3), (7, .l (.ref 1007 0)), (8, .l (.ref 1008 0)), (10, .i ((keepsR t r y l).at_)), (11, .i ((keepsR t r y l).rule)), (12, .i (keepsE t r y l)), (13, .l (.ref 1013 0)), (14, .i (drillE t y l)), (15, .i (lsE l)), (16, .i (lsE l))], [(1, some (keepslaw_frK1 t)), (2, some (keepslaw_frK2 r)), (3, some (.ro 2 l.length (Lst eS l))), (1007, some (keepslaw_frK4 t)), (1008, some (keepslaw_frK5 r)), (1013, some (keepslaw_frK10 t y l)), (10520, some (keepslaw_frK9 t y l))]⟩
      [] (by kernel_rfl) trivial ?_
     refine aw_seq ?_
     refine aw_seq ?_
     refine aw_r []
      ⟨161, [1, 2, 3], [(1, .i y), (2, .ls 3), (7, .l (.ref 1007 0)), (8, .l (.ref 1008 0)), (10, .i ((keepsR t r y l).at_)), (11, .i ((keepsR t r y l).rule)), (12, .i (keepsE t r y l)), (13, .l (.ref 1013 0)), (14, .i (drillE t y l)), (15, .i (lsE l)), (16, .i (lsE l)), (73, .b (decide ((lsE l) ≠ 0)))], [(1, some (keepslaw_frK1 t)), (2, some (keepslaw_frK2 r)), (3, some (.ro 2 l.length (Lst eS l))), (1007, some (keepslaw_frK4 t)), (1008, some (keepslaw_frK5 r)), (1013, some (keepslaw_frK10 t y l)), (10520, some (keepslaw_frK9 t y l))]⟩
      [] (by kernel_rfl) trivial ?_
     have h5 : (decide ((lsE l) ≠ 0)) = true := by exact decide_eq_true (by omega)
     refine aw_cond (b := decide ((lsE l) ≠ 0)) rfl (fun _ => ?_) (fun h => Bool.noConfusion (h5.symm.trans h))
     refine aw_seq ?_
     have hEw := drillE_2 (show girthE t y = 0 by assumption) (show lsE l ≠ 0 by omega)
     have hR : drillR t y l = zeroT := drillR_bad (by omega)
     refine aw_ent (T := ⟨161, [1, 2, 3], [(1, .i y), (2, .ls 3), (7, .l (.ref 1007 0)), (8, .l (.ref 1008 0)), (10, .i ((keepsR t r y l).at_)), (11, .i ((keepsR t r y l).rule)), (12, .i (keepsE t r y l)), (13, .l (.ref 1013 0)), (14, .i (drillE t y l)), (15, .i (lsE l)), (16, .i (lsE l)), (73, .b (decide ((lsE l) ≠ 0)))], [(1, some (keepslaw_frK1 t)), (2, some (keepslaw_frK2 r)), (3, some (.ro 2 l.length (Lst eS l))), (1007, some (keepslaw_frK4 t)), (1008, some (keepslaw_frK5 r)), (1013, some keepslaw_frK12), (10520, some keepslaw_frK13)]⟩)
         (Ent.ren [] rfl rfl (by kernel_rfl) ⟨rfl, rfl, rfl, rfl, rfl, rfl, rfl, rfl, rfl, rfl, rfl, rfl, trivial⟩ (cro rfl (cro rfl (cro rfl (cbl rfl rfl (cbl rfl rfl (cbl rfl (by exact (cells_cons (cell_i (by first | rfl | omega | assumption | (rw [hR]; rfl) | ((rw [hR])))) (cells_cons (cell_i (by first | rfl | omega | assumption | (rw [hR]; rfl) | ((rw [hR])))) (cells_cons (cell_i (by first | rfl | omega | assumption | (rw [hR]; rfl) | ((rw [hR])))) (cells_cons (cell_i (by first | rfl | omega | assumption | (rw [hR]; rfl) | ((rw [hR])))) (cells_cons (cell_i (by first | rfl | omega | assumption | (rw [hR]; rfl) | ((rw [hR])))) (cells_cons (cell_i (by first | rfl | omega | assumption | (rw [hR]; rfl) | ((rw [hR])))) (cells_cons rfl rfl)))))))) (conts_cons rfl (le_vec (by first | rfl | omega | assumption | (rw [hR]; rfl) | ((rw [hR]))) (lst_eq (by first | rfl | omega | assumption | (rw [hR]; rfl) | ((rw [hR]))))) trivial))))))) (by kernel_rfl)) ?_
     have h6 : (decide ((drillE t y l) ≠ (lsE l))) = false := by exact decide_eq_false (fun h => h hEw)
     refine aw_r [(3, .dec false), (6, .call [10520] (.b true) [])]
      ⟨161, [1, 2, 3], [(1, .i y), (2, .ls 3), (7, .l (.ref 1007 0)), (8, .l (.ref 1008 0)), (10, .i ((keepsR t r y l).at_)), (11, .i ((keepsR t r y l).rule)), (12, .i (keepsE t r y l)), (15, .i (lsE l)), (82, .b false)], [(1, some (keepslaw_frK1 t)), (2, some (keepslaw_frK2 r)), (3, some (.ro 2 l.length (Lst eS l))), (1007, some (keepslaw_frK4 t)), (1008, some (keepslaw_frK5 r))]⟩
      [decide ((drillE t y l) ≠ (lsE l)) = false, CallOK Try.prog 21 [.agg [.i 0, .i 0, .i 0, .i 0, .i 0, .i 0, .ls 10520], .agg [.i 0, .i 0, .i 0, .i 0, .i 0, .i 0, .v (.slice none 0 0)]] [10520] [some keepslaw_frK13] (.b true) []] (by kernel_rfl) (al2 h6 (al1 (CallFr.to (holesZ_fr ) [(1, 10520)] (by kernel_rfl) (by kernel_rfl) (by kernel_rfl) (by kernel_rfl) (by kernel_rfl) (dem_cons rfl (le_vec_ro (by first | omega | rfl | assumption) el_rfl) dem_nil)))) ?_
     refine aw_false rfl ?_
     refine aw_skip ?_
     refine aw_seq ?_
     refine aw_seq ?_
     refine aw_r [(3, .call [1, 2] (.i (startE t r y)) [])]
      ⟨161, [1, 2, 3], [(1, .i y), (2, .ls 3), (7, .l (.ref 1007 0)), (8, .l (.ref 1008 0)), (10, .i ((keepsR t r y l).at_)), (11, .i ((keepsR t r y l).rule)), (12, .i (keepsE t r y l)), (15, .i (lsE l)), (16, .i (startE t r y))], [(1, some (keepslaw_frK1 t)), (2, some (keepslaw_frK2 r)), (3, some (.ro 2 l.length (Lst eS l))), (1007, some (keepslaw_frK4 t)), (1008, some (keepslaw_frK5 r))]⟩
      [CallOK Try.prog 24 [.agg [.i t.year, .i t.glo, .i t.ghi, .i t.wlo, .i t.whi, .i t.health, .ls 1], .agg [.i r.slo, .i r.shi, .i r.ulo, .i r.uhi, .i r.hlo, .i r.hhi, .i r.apart, .i r.blo, .i r.bhi, .ls 2, .i r.n0, .i r.n1, .i r.n2, .i r.n3, .i r.n4, .i r.opn], .i y] [1, 2] [some (keepslaw_frK1 t), some (keepslaw_frK2 r)] (.i (startE t r y)) []] (by kernel_rfl) (al1 (CallFr.to (refStart_fr t r y (by first | omega | (simp; done) | assumption) (by first | omega | (simp; done) | assumption)) [(1, 1), (2, 2)] (by kernel_rfl) (by kernel_rfl) (by kernel_rfl) (by kernel_rfl) (by kernel_rfl) (dem_cons rfl (le_ro rfl el_rfl) (dem_cons rfl (le_ro rfl el_rfl) dem_nil)))) ?_
     refine aw_seq ?_
     refine aw_r []
      ⟨161, [1, 2, 3], [(1, .i y), (2, .ls 3), (7, .l (.ref 1007 0)), (8, .l (.ref 1008 0)), (10, .i ((keepsR t r y l).at_)), (11, .i ((keepsR t r y l).rule)), (12, .i (keepsE t r y l)), (15, .i (lsE l)), (16, .i (startE t r y)), (120, .b (decide ((startE t r y) = 0)))], [(1, some (keepslaw_frK1 t)), (2, some (keepslaw_frK2 r)), (3, some (.ro 2 l.length (Lst eS l))), (1007, some (keepslaw_frK4 t)), (1008, some (keepslaw_frK5 r))]⟩
      [] (by kernel_rfl) trivial ?_
     refine aw_cond (b := decide ((startE t r y) = 0)) rfl (fun h7 => ?_) (fun h7 => ?_)
     ·
      have h7p : (startE t r y) = 0 := dtr h7
      refine aw_r []
       ⟨161, [1, 2, 3], [(1, .i y), (2, .ls 3), (7, .l (.ref 1007 0)), (8, .l (.ref 1008 0)), (10, .i ((keepsR t r y l).at_)), (11, .i ((keepsR t r y l).rule)), (12, .i (keepsE t r y l)), (16, .i (lsE l))], [(1, some (keepslaw_frK1 t)), (2, some (keepslaw_frK2 r)), (3, some (.ro 2 l.length (Lst eS l))), (1007, some (keepslaw_frK4 t)), (1008, some (keepslaw_frK5 r))]⟩
       [] (by kernel_rfl) trivial ?_
      refine aw_seq ?_
      refine aw_seq ?_
      refine aw_r []
       ⟨161, [1, 2, 3], [(1, .i y), (2, .ls 3), (7, .l (.ref 1007 0)), (8, .l (.ref 1008 0)), (10, .i ((keepsR t r y l).at_)), (11, .i ((keepsR t r y l).rule)), (12, .i (keepsE t r y l)), (16, .i (lsE l)), (123, .b (decide ((lsE l) ≠ 0)))], [(1, some (keepslaw_frK1 t)), (2, some (keepslaw_frK2 r)), (3, some (.ro 2 l.length (Lst eS l))), (1007, some (keepslaw_frK4 t)), (1008, some (keepslaw_frK5 r))]⟩
       [] (by kernel_rfl) trivial ?_
      refine aw_cond (b := decide ((lsE l) ≠ 0)) rfl (fun _ => ?_) (fun h => Bool.noConfusion (h5.symm.trans h))
      refine aw_seq ?_
      have h8 : (decide ((keepsE t r y l) = (lsE l))) = true := by exact decide_eq_true (keepsE_2 (by assumption))
      have h9 : (decide ((keepsR t r y l).at_ = 0)) = true := by exact decide_eq_true (by rw [keepsR_bad (by first | (rw [keepsE_1 (by assumption)]; assumption) | (rw [keepsE_2 (by omega)]; omega))])
      have h10 : (decide ((keepsR t r y l).rule = 0)) = true := by exact decide_eq_true (by rw [keepsR_bad (by first | (rw [keepsE_1 (by assumption)]; assumption) | (rw [keepsE_2 (by omega)]; omega))])
      refine aw_r [(3, .dec true), (7, .dec true), (11, .dec true), (12, .call [] (.b true) [])]
       ⟨161, [1, 2, 3], [(6, .b true)], []⟩
       [decide ((keepsE t r y l) = (lsE l)) = true, decide ((keepsR t r y l).at_ = 0) = true, decide ((keepsR t r y l).rule = 0) = true, CallOK Try.prog 14 [] [] [] (.b true) []] (by kernel_rfl) (al2 h8 (al2 h9 (al2 h10 (al1 (CallFr.to (known_fr ) [] (by kernel_rfl) (by kernel_rfl) (by kernel_rfl) (by kernel_rfl) (by kernel_rfl) dem_nil))))) ?_
      exact aw_ret (ret_then ⟨.inr rfl, end_ok ⟨161, [1, 2, 3], [(6, .b true)], []⟩
          (Ent.ren [] rfl rfl (by kernel_rfl) ⟨rfl, trivial⟩ trivial (by kernel_rfl)) rfl (by kernel_rfl) wr_nil (by kernel_rfl)⟩)
     ·
      have h7p : (startE t r y) ≠ 0 := deq h7
      refine aw_skip ?_
      refine aw_seq ?_
      refine aw_seq ?_
      refine aw_r []
       ⟨161, [1, 2, 3], [(1, .i y), (2, .ls 3), (7, .l (.ref 1007 0)), (8, .l (.ref 1008 0)), (10, .i ((keepsR t r y l).at_)), (11, .i ((keepsR t r y l).rule)), (12, .i (keepsE t r y l)), (16, .i (startE t r y)), (123, .b (decide ((startE t r y) ≠ 0)))], [(1, some (keepslaw_frK1 t)), (2, some (keepslaw_frK2 r)), (3, some (.ro 2 l.length (Lst eS l))), (1007, some (keepslaw_frK4 t)), (1008, some (keepslaw_frK5 r))]⟩
       [] (by kernel_rfl) trivial ?_
      have h11 : (decide ((startE t r y) ≠ 0)) = true := by exact decide_eq_true (by assumption)
      refine aw_cond (b := decide ((startE t r y) ≠ 0)) rfl (fun _ => ?_) (fun h => Bool.noConfusion (h11.symm.trans h))
      refine aw_seq ?_
      have h12 : (decide ((keepsE t r y l) = (startE t r y))) = true := by exact decide_eq_true (keepsE_1 (by assumption))
      have h13 : (decide ((keepsR t r y l).at_ = 0)) = true := by exact decide_eq_true (by rw [keepsR_bad (by first | (rw [keepsE_1 (by assumption)]; assumption) | (rw [keepsE_2 (by omega)]; omega))])
      have h14 : (decide ((keepsR t r y l).rule = 0)) = true := by exact decide_eq_true (by rw [keepsR_bad (by first | (rw [keepsE_1 (by assumption)]; assumption) | (rw [keepsE_2 (by omega)]; omega))])
      refine aw_r [(3, .dec true), (7, .dec true), (11, .dec true), (12, .call [] (.b true) [])]
       ⟨161, [1, 2, 3], [(6, .b true)], []⟩
       [decide ((keepsE t r y l) = (startE t r y)) = true, decide ((keepsR t r y l).at_ = 0) = true, decide ((keepsR t r y l).rule = 0) = true, CallOK Try.prog 14 [] [] [] (.b true) []] (by kernel_rfl) (al2 h12 (al2 h13 (al2 h14 (al1 (CallFr.to (known_fr ) [] (by kernel_rfl) (by kernel_rfl) (by kernel_rfl) (by kernel_rfl) (by kernel_rfl) dem_nil))))) ?_
      exact aw_ret (ret_then ⟨.inr rfl, end_ok ⟨161, [1, 2, 3], [(6, .b true)], []⟩
          (Ent.ren [] rfl rfl (by kernel_rfl) ⟨rfl, trivial⟩ trivial (by kernel_rfl)) rfl (by kernel_rfl) wr_nil (by kernel_rfl)⟩)
    ·
     have h4p : (girthE t y) ≠ 0 := deq h4
     refine aw_skip ?_
     refine aw_seq ?_
     refine aw_seq ?_
     refine aw_r []
      ⟨161, [1, 2, 3], [(1, .i y), (2, .ls 3), (7, .l (.ref 1007 0)), (8, .l (.ref 1008 0)), (10, .i ((keepsR t r y l).at_)), (11, .i ((keepsR t r y l).rule)), (12, .i (keepsE t r y l)), (13, .l (.ref 1013 0)), (14, .i (drillE t y l)), (15, .i (lsE l)), (16, .i (girthE t y)), (73, .b (decide ((girthE t y) ≠ 0)))], [(1, some (keepslaw_frK1 t)), (2, some (keepslaw_frK2 r)), (3, some (.ro 2 l.length (Lst eS l))), (1007, some (keepslaw_frK4 t)), (1008, some (keepslaw_frK5 r)), (1013, some (keepslaw_frK10 t y l)), (10520, some (keepslaw_frK9 t y l))]⟩
      [] (by kernel_rfl) trivial ?_
     have h15 : (decide ((girthE t y) ≠ 0)) = true := by exact decide_eq_true (by assumption)
     refine aw_cond (b := decide ((girthE t y) ≠ 0)) rfl (fun _ => ?_) (fun h => Bool.noConfusion (h15.symm.trans h))
     refine aw_seq ?_
     have hEw := drillE_1 (l := l) (show girthE t y ≠ 0 by assumption)
     have hR : drillR t y l = zeroT := drillR_bad (by omega)
     refine aw_ent (T := ⟨161, [1, 2, 3], [(1, .i y), (2, .ls 3), (7, .l (.ref 1007 0)), (8, .l (.ref 1008 0)), (10, .i ((keepsR t r y l).at_)), (11, .i ((keepsR t r y l).rule)), (12, .i (keepsE t r y l)), (13, .l (.ref 1013 0)), (14, .i (drillE t y l)), (15, .i (lsE l)), (16, .i (girthE t y)), (73, .b (decide ((girthE t y) ≠ 0)))], [(1, some (keepslaw_frK1 t)), (2, some (keepslaw_frK2 r)), (3, some (.ro 2 l.length (Lst eS l))), (1007, some (keepslaw_frK4 t)), (1008, some (keepslaw_frK5 r)), (1013, some keepslaw_frK12), (10520, some keepslaw_frK13)]⟩)
         (Ent.ren [] rfl rfl (by kernel_rfl) ⟨rfl, rfl, rfl, rfl, rfl, rfl, rfl, rfl, rfl, rfl, rfl, rfl, trivial⟩ (cro rfl (cro rfl (cro rfl (cbl rfl rfl (cbl rfl rfl (cbl rfl (by exact (cells_cons (cell_i (by first | rfl | omega | assumption | (rw [hR]; rfl) | ((rw [hR])))) (cells_cons (cell_i (by first | rfl | omega | assumption | (rw [hR]; rfl) | ((rw [hR])))) (cells_cons (cell_i (by first | rfl | omega | assumption | (rw [hR]; rfl) | ((rw [hR])))) (cells_cons (cell_i (by first | rfl | omega | assumption | (rw [hR]; rfl) | ((rw [hR])))) (cells_cons (cell_i (by first | rfl | omega | assumption | (rw [hR]; rfl) | ((rw [hR])))) (cells_cons (cell_i (by first | rfl | omega | assumption | (rw [hR]; rfl) | ((rw [hR])))) (cells_cons rfl rfl)))))))) (conts_cons rfl (le_vec (by first | rfl | omega | assumption | (rw [hR]; rfl) | ((rw [hR]))) (lst_eq (by first | rfl | omega | assumption | (rw [hR]; rfl) | ((rw [hR]))))) trivial))))))) (by kernel_rfl)) ?_
     have h16 : (decide ((drillE t y l) ≠ (girthE t y))) = false := by exact decide_eq_false (fun h => h hEw)
     refine aw_r [(3, .dec false), (6, .call [10520] (.b true) [])]
      ⟨161, [1, 2, 3], [(1, .i y), (2, .ls 3), (7, .l (.ref 1007 0)), (8, .l (.ref 1008 0)), (10, .i ((keepsR t r y l).at_)), (11, .i ((keepsR t r y l).rule)), (12, .i (keepsE t r y l)), (15, .i (lsE l)), (82, .b false)], [(1, some (keepslaw_frK1 t)), (2, some (keepslaw_frK2 r)), (3, some (.ro 2 l.length (Lst eS l))), (1007, some (keepslaw_frK4 t)), (1008, some (keepslaw_frK5 r))]⟩
      [decide ((drillE t y l) ≠ (girthE t y)) = false, CallOK Try.prog 21 [.agg [.i 0, .i 0, .i 0, .i 0, .i 0, .i 0, .ls 10520], .agg [.i 0, .i 0, .i 0, .i 0, .i 0, .i 0, .v (.slice none 0 0)]] [10520] [some keepslaw_frK13] (.b true) []] (by kernel_rfl) (al2 h16 (al1 (CallFr.to (holesZ_fr ) [(1, 10520)] (by kernel_rfl) (by kernel_rfl) (by kernel_rfl) (by kernel_rfl) (by kernel_rfl) (dem_cons rfl (le_vec_ro (by first | omega | rfl | assumption) el_rfl) dem_nil)))) ?_
     refine aw_false rfl ?_
     refine aw_skip ?_
     refine aw_seq ?_
     refine aw_seq ?_
     refine aw_r [(3, .call [1, 2] (.i (startE t r y)) [])]
      ⟨161, [1, 2, 3], [(1, .i y), (2, .ls 3), (7, .l (.ref 1007 0)), (8, .l (.ref 1008 0)), (10, .i ((keepsR t r y l).at_)), (11, .i ((keepsR t r y l).rule)), (12, .i (keepsE t r y l)), (15, .i (lsE l)), (16, .i (startE t r y))], [(1, some (keepslaw_frK1 t)), (2, some (keepslaw_frK2 r)), (3, some (.ro 2 l.length (Lst eS l))), (1007, some (keepslaw_frK4 t)), (1008, some (keepslaw_frK5 r))]⟩
      [CallOK Try.prog 24 [.agg [.i t.year, .i t.glo, .i t.ghi, .i t.wlo, .i t.whi, .i t.health, .ls 1], .agg [.i r.slo, .i r.shi, .i r.ulo, .i r.uhi, .i r.hlo, .i r.hhi, .i r.apart, .i r.blo, .i r.bhi, .ls 2, .i r.n0, .i r.n1, .i r.n2, .i r.n3, .i r.n4, .i r.opn], .i y] [1, 2] [some (keepslaw_frK1 t), some (keepslaw_frK2 r)] (.i (startE t r y)) []] (by kernel_rfl) (al1 (CallFr.to (refStart_fr t r y (by first | omega | (simp; done) | assumption) (by first | omega | (simp; done) | assumption)) [(1, 1), (2, 2)] (by kernel_rfl) (by kernel_rfl) (by kernel_rfl) (by kernel_rfl) (by kernel_rfl) (dem_cons rfl (le_ro rfl el_rfl) (dem_cons rfl (le_ro rfl el_rfl) dem_nil)))) ?_
     refine aw_seq ?_
     refine aw_r []
      ⟨161, [1, 2, 3], [(1, .i y), (2, .ls 3), (7, .l (.ref 1007 0)), (8, .l (.ref 1008 0)), (10, .i ((keepsR t r y l).at_)), (11, .i ((keepsR t r y l).rule)), (12, .i (keepsE t r y l)), (15, .i (lsE l)), (16, .i (startE t r y)), (120, .b (decide ((startE t r y) = 0)))], [(1, some (keepslaw_frK1 t)), (2, some (keepslaw_frK2 r)), (3, some (.ro 2 l.length (Lst eS l))), (1007, some (keepslaw_frK4 t)), (1008, some (keepslaw_frK5 r))]⟩
      [] (by kernel_rfl) trivial ?_
     refine aw_cond (b := decide ((startE t r y) = 0)) rfl (fun h17 => ?_) (fun h17 => ?_)
     ·
      have h17p : (startE t r y) = 0 := dtr h17
      refine aw_r []
       ⟨161, [1, 2, 3], [(1, .i y), (2, .ls 3), (7, .l (.ref 1007 0)), (8, .l (.ref 1008 0)), (10, .i ((keepsR t r y l).at_)), (11, .i ((keepsR t r y l).rule)), (12, .i (keepsE t r y l)), (16, .i (lsE l))], [(1, some (keepslaw_frK1 t)), (2, some (keepslaw_frK2 r)), (3, some (.ro 2 l.length (Lst eS l))), (1007, some (keepslaw_frK4 t)), (1008, some (keepslaw_frK5 r))]⟩
       [] (by kernel_rfl) trivial ?_
      refine aw_seq ?_
      refine aw_seq ?_
      refine aw_r []
       ⟨161, [1, 2, 3], [(1, .i y), (2, .ls 3), (7, .l (.ref 1007 0)), (8, .l (.ref 1008 0)), (10, .i ((keepsR t r y l).at_)), (11, .i ((keepsR t r y l).rule)), (12, .i (keepsE t r y l)), (16, .i (lsE l)), (123, .b (decide ((lsE l) ≠ 0)))], [(1, some (keepslaw_frK1 t)), (2, some (keepslaw_frK2 r)), (3, some (.ro 2 l.length (Lst eS l))), (1007, some (keepslaw_frK4 t)), (1008, some (keepslaw_frK5 r))]⟩
       [] (by kernel_rfl) trivial ?_
      have h18 : (decide ((lsE l) ≠ 0)) = true := by exact decide_eq_true (by omega)
      refine aw_cond (b := decide ((lsE l) ≠ 0)) rfl (fun _ => ?_) (fun h => Bool.noConfusion (h18.symm.trans h))
      refine aw_seq ?_
      have h19 : (decide ((keepsE t r y l) = (lsE l))) = true := by exact decide_eq_true (keepsE_2 (by assumption))
      have h20 : (decide ((keepsR t r y l).at_ = 0)) = true := by exact decide_eq_true (by rw [keepsR_bad (by first | (rw [keepsE_1 (by assumption)]; assumption) | (rw [keepsE_2 (by omega)]; omega))])
      have h21 : (decide ((keepsR t r y l).rule = 0)) = true := by exact decide_eq_true (by rw [keepsR_bad (by first | (rw [keepsE_1 (by assumption)]; assumption) | (rw [keepsE_2 (by omega)]; omega))])
      refine aw_r [(3, .dec true), (7, .dec true), (11, .dec true), (12, .call [] (.b true) [])]
       ⟨161, [1, 2, 3], [(6, .b true)], []⟩
       [decide ((keepsE t r y l) = (lsE l)) = true, decide ((keepsR t r y l).at_ = 0) = true, decide ((keepsR t r y l).rule = 0) = true, CallOK Try.prog 14 [] [] [] (.b true) []] (by kernel_rfl) (al2 h19 (al2 h20 (al2 h21 (al1 (CallFr.to (known_fr ) [] (by kernel_rfl) (by kernel_rfl) (by kernel_rfl) (by kernel_rfl) (by kernel_rfl) dem_nil))))) ?_
      exact aw_ret (ret_then ⟨.inr rfl, end_ok ⟨161, [1, 2, 3], [(6, .b true)], []⟩
          (Ent.ren [] rfl rfl (by kernel_rfl) ⟨rfl, trivial⟩ trivial (by kernel_rfl)) rfl (by kernel_rfl) wr_nil (by kernel_rfl)⟩)
     ·
      have h17p : (startE t r y) ≠ 0 := deq h17
      refine aw_skip ?_
      refine aw_seq ?_
      refine aw_seq ?_
      refine aw_r []
       ⟨161, [1, 2, 3], [(1, .i y), (2, .ls 3), (7, .l (.ref 1007 0)), (8, .l (.ref 1008 0)), (10, .i ((keepsR t r y l).at_)), (11, .i ((keepsR t r y l).rule)), (12, .i (keepsE t r y l)), (16, .i (startE t r y)), (123, .b (decide ((startE t r y) ≠ 0)))], [(1, some (keepslaw_frK1 t)), (2, some (keepslaw_frK2 r)), (3, some (.ro 2 l.length (Lst eS l))), (1007, some (keepslaw_frK4 t)), (1008, some (keepslaw_frK5 r))]⟩
       [] (by kernel_rfl) trivial ?_
      have h22 : (decide ((startE t r y) ≠ 0)) = true := by exact decide_eq_true (by assumption)
      refine aw_cond (b := decide ((startE t r y) ≠ 0)) rfl (fun _ => ?_) (fun h => Bool.noConfusion (h22.symm.trans h))
      refine aw_seq ?_
      have h23 : (decide ((keepsE t r y l) = (startE t r y))) = true := by exact decide_eq_true (keepsE_1 (by assumption))
      have h24 : (decide ((keepsR t r y l).at_ = 0)) = true := by exact decide_eq_true (by rw [keepsR_bad (by first | (rw [keepsE_1 (by assumption)]; assumption) | (rw [keepsE_2 (by omega)]; omega))])
      have h25 : (decide ((keepsR t r y l).rule = 0)) = true := by exact decide_eq_true (by rw [keepsR_bad (by first | (rw [keepsE_1 (by assumption)]; assumption) | (rw [keepsE_2 (by omega)]; omega))])
      refine aw_r [(3, .dec true), (7, .dec true), (11, .dec true), (12, .call [] (.b true) [])]
       ⟨161, [1, 2, 3], [(6, .b true)], []⟩
       [decide ((keepsE t r y l) = (startE t r y)) = true, decide ((keepsR t r y l).at_ = 0) = true, decide ((keepsR t r y l).rule = 0) = true, CallOK Try.prog 14 [] [] [] (.b true) []] (by kernel_rfl) (al2 h23 (al2 h24 (al2 h25 (al1 (CallFr.to (known_fr ) [] (by kernel_rfl) (by kernel_rfl) (by kernel_rfl) (by kernel_rfl) (by kernel_rfl) dem_nil))))) ?_
      exact aw_ret (ret_then ⟨.inr rfl, end_ok ⟨161, [1, 2, 3], [(6, .b true)], []⟩
          (Ent.ren [] rfl rfl (by kernel_rfl) ⟨rfl, trivial⟩ trivial (by kernel_rfl)) rfl (by kernel_rfl) wr_nil (by kernel_rfl)⟩)
   ·
    have h3p : ((l.length : Nat) : Int) ≤ 20 := dlt h3
    refine aw_seq ?_
    refine aw_r [(1, .call [3] (.b (spotsB l)) [])]
     ⟨161, [1, 2, 3], [(1, .i y), (2, .ls 3), (7, .l (.ref 1007 0)), (8, .l (.ref 1008 0)), (10, .i ((keepsR t r y l).at_)), (11, .i ((keepsR t r y l).rule)), (12, .i (keepsE t r y l)), (13, .l (.ref 1013 0)), (14, .i (drillE t y l)), (15, .i 0), (64, .b (!(spotsB l)))], [(1, some (keepslaw_frK1 t)), (2, some (keepslaw_frK2 r)), (3, some (.ro 2 l.length (Lst eS l))), (1007, some (keepslaw_frK4 t)), (1008, some (keepslaw_frK5 r)), (1013, some (keepslaw_frK10 t y l)), (10520, some (keepslaw_frK9 t y l))]⟩
     [CallOK Try.prog 39 [.ls 3] [3] [some (.ro 2 l.length (Lst eS l))] (.b (spotsB l)) []] (by kernel_rfl) (al1 (CallFr.to (refOn_fr l (by first | omega | (simp; done) | decide)) [(0, 3)] (by kernel_rfl) (by kernel_rfl) (by kernel_rfl) (by kernel_rfl) (by kernel_rfl) (dem_cons rfl (le_ro rfl el_rfl) dem_nil))) ?_
    refine aw_cond (b := (!(spotsB l))) rfl (fun h26 => ?_) (fun h26 => ?_)
    ·
     refine aw_r []
      ⟨161, [1, 2, 3], [(1, .i y), (2, .ls 3), (7, .l (.ref 1007 0)), (8, .l (.ref 1008 0)), (10, .i ((keepsR t r y l).at_)), (11, .i ((keepsR t r y l).rule)), (12, .i (keepsE t r y l)), (13, .l (.ref 1013 0)), (14, .i (drillE t y l)), (15, .i 3)], [(1, some (keepslaw_frK1 t)), (2, some (keepslaw_frK2 r)), (3, some (.ro 2 l.length (Lst eS l))), (1007, some (keepslaw_frK4 t)), (1008, some (keepslaw_frK5 r)), (1013, some (keepslaw_frK10 t y l)), (10520, some (keepslaw_frK9 t y l))]⟩
      [] (by kernel_rfl) trivial ?_
     refine aw_seq ?_
     have hLS : lsE l = 3 := by simp_all [lsE]
     refine aw_ent (T := ⟨161, [1, 2, 3], [(1, .i y), (2, .ls 3), (7, .l (.ref 1007 0)), (8, .l (.ref 1008 0)), (10, .i ((keepsR t r y l).at_)), (11, .i ((keepsR t r y l).rule)), (12, .i (keepsE t r y l)), (13, .l (.ref 1013 0)), (14, .i (drillE t y l)), (15, .i (lsE l))], [(1, some (keepslaw_frK1 t)), (2, some (keepslaw_frK2 r)), (3, some (.ro 2 l.length (Lst eS l))), (1007, some (keepslaw_frK4 t)), (1008, some (keepslaw_frK5 r)), (1013, some (keepslaw_frK10 t y l)), (10520, some (keepslaw_frK9 t y l))]⟩)
         (Ent.ren [] rfl rfl (by kernel_rfl) ⟨rfl, rfl, rfl, rfl, rfl, rfl, rfl, rfl, rfl, (slot_i rfl (by first | rfl | omega | assumption | (omega))), trivial⟩ (cro rfl (cro rfl (cro rfl (cbl rfl rfl (cbl rfl rfl (cbl rfl rfl (cve rfl trivial))))))) (by kernel_rfl)) ?_
     refine aw_d [(1, .call [] (.agg [.i exRule.slo, .i exRule.shi, .i exRule.ulo, .i exRule.uhi, .i exRule.hlo, .i exRule.hhi, .i exRule.apart, .i exRule.blo, .i exRule.bhi, .ls 10660, .i exRule.n0, .i exRule.n1, .i exRule.n2, .i exRule.n3, .i exRule.n4, .i exRule.opn]) [(10660, some keepslaw_frK11)]), (3, .call [1, 10660] (.i (startE t exRule y)) [])]
      ⟨161, [1, 2, 3], [(1, .i y), (2, .ls 3), (7, .l (.ref 1007 0)), (8, .l (.ref 1008 0)), (10, .i ((keepsR t r y l).at_)), (11, .i ((keepsR t r y l).rule)), (12, .i (keepsE t r y l)), (13, .l (.ref 1013 0)), (14, .i (drillE t y l)), (15, .i (lsE l)), (16, .i (startE t exRule y))], [(1, some (keepslaw_frK1 t)), (2, some (keepslaw_frK2 r)), (3, some (.ro 2 l.length (Lst eS l))), (1007, some (keepslaw_frK4 t)), (1008, some (keepslaw_frK5 r)), (1013, some (keepslaw_frK10 t y l)), (10520, some (keepslaw_frK9 t y l))]⟩
      [CallOK Try.prog 25 [] [] [] (.agg [.i exRule.slo, .i exRule.shi, .i exRule.ulo, .i exRule.uhi, .i exRule.hlo, .i exRule.hhi, .i exRule.apart, .i exRule.blo, .i exRule.bhi, .ls 10660, .i exRule.n0, .i exRule.n1, .i exRule.n2, .i exRule.n3, .i exRule.n4, .i exRule.opn]) [(10660, some keepslaw_frK11)], CallOK Try.prog 24 [.agg [.i t.year, .i t.glo, .i t.ghi, .i t.wlo, .i t.whi, .i t.health, .ls 1], .agg [.i exRule.slo, .i exRule.shi, .i exRule.ulo, .i exRule.uhi, .i exRule.hlo, .i exRule.hhi, .i exRule.apart, .i exRule.blo, .i exRule.bhi, .ls 10660, .i exRule.n0, .i exRule.n1, .i exRule.n2, .i exRule.n3, .i exRule.n4, .i exRule.opn], .i y] [1, 10660] [some (keepslaw_frK1 t), some keepslaw_frK11] (.i (startE t exRule y)) []] (by kernel_rfl) (by kernel_rfl) (al2 (CallFr.to (rules_fr ) [(1, 10660)] (by kernel_rfl) (by kernel_rfl) (by kernel_rfl) (by kernel_rfl) (by kernel_rfl) dem_nil) (al1 (CallFr.to (refStart_fr t exRule y (by first | omega | (simp; done) | assumption) (by first | omega | (simp; done) | assumption)) [(1, 1), (2, 10660)] (by kernel_rfl) (by kernel_rfl) (by kernel_rfl) (by kernel_rfl) (by kernel_rfl) (dem_cons rfl (le_ro rfl el_rfl) (dem_cons rfl (le_vec_ro rfl el_rfl) dem_nil))))) ?_
     refine aw_seq ?_
     refine aw_seq ?_
     refine aw_ent (T := ⟨161, [1, 2, 3], [(1, .i y), (2, .ls 3), (7, .l (.ref 1007 0)), (8, .l (.ref 1008 0)), (10, .i ((keepsR t r y l).at_)), (11, .i ((keepsR t r y l).rule)), (12, .i (keepsE t r y l)), (13, .l (.ref 1013 0)), (14, .i (drillE t y l)), (15, .i (lsE l)), (16, .i (girthE t y))], [(1, some (keepslaw_frK1 t)), (2, some (keepslaw_frK2 r)), (3, some (.ro 2 l.length (Lst eS l))), (1007, some (keepslaw_frK4 t)), (1008, some (keepslaw_frK5 r)), (1013, some (keepslaw_frK10 t y l)), (10520, some (keepslaw_frK9 t y l))]⟩)
         (Ent.ren [] rfl rfl (by kernel_rfl) ⟨rfl, rfl, rfl, rfl, rfl, rfl, rfl, rfl, rfl, rfl, (slot_i rfl (by first | rfl | omega | assumption | (exact st_ex2))), trivial⟩ (cro rfl (cro rfl (cro rfl (cbl rfl rfl (cbl rfl rfl (cbl rfl rfl (cve rfl trivial))))))) (by kernel_rfl)) ?_
     refine aw_r []
      ⟨161, [1, 2, 3], [(1, .i y), (2, .ls 3), (7, .l (.ref 1007 0)), (8, .l (.ref 1008 0)), (10, .i ((keepsR t r y l).at_)), (11, .i ((keepsR t r y l).rule)), (12, .i (keepsE t r y l)), (13, .l (.ref 1013 0)), (14, .i (drillE t y l)), (15, .i (lsE l)), (16, .i (girthE t y)), (70, .b (decide ((girthE t y) = 0)))], [(1, some (keepslaw_frK1 t)), (2, some (keepslaw_frK2 r)), (3, some (.ro 2 l.length (Lst eS l))), (1007, some (keepslaw_frK4 t)), (1008, some (keepslaw_frK5 r)), (1013, some (keepslaw_frK10 t y l)), (10520, some (keepslaw_frK9 t y l))]⟩
      [] (by kernel_rfl) trivial ?_
     refine aw_cond (b := decide ((girthE t y) = 0)) rfl (fun h27 => ?_) (fun h27 => ?_)
     ·
      have h27p : (girthE t y) = 0 := dtr h27
      refine aw_r []
       ⟨161, [1, 2, 3], [(1, .i y), (2, .ls 3), (7, .l (.ref 1007 0)), (8, .l (.ref 1008 0)), (10, .i ((keepsR t r y l).at_)), (11, .i ((keepsR t r y l).rule)), (12, .i (keepsE t r y l)), (13, .l (.ref 1013 0)), (14, .i (drillE t y l)), (15, .i (lsE l)), (16, .i (lsE l))], [(1, some (keepslaw_frK1 t)), (2, some (keepslaw_frK2 r)), (3, some (.ro 2 l.length (Lst eS l))), (1007, some (keepslaw_frK4 t)), (1008, some (keepslaw_frK5 r)), (1013, some (keepslaw_frK10 t y l)), (10520, some (keepslaw_frK9 t y l))]⟩
       [] (by kernel_rfl) trivial ?_
      refine aw_seq ?_
      refine aw_seq ?_
      refine aw_r []
       ⟨161, [1, 2, 3], [(1, .i y), (2, .ls 3), (7, .l (.ref 1007 0)), (8, .l (.ref 1008 0)), (10, .i ((keepsR t r y l).at_)), (11, .i ((keepsR t r y l).rule)), (12, .i (keepsE t r y l)), (13, .l (.ref 1013 0)), (14, .i (drillE t y l)), (15, .i (lsE l)), (16, .i (lsE l)), (73, .b (decide ((lsE l) ≠ 0)))], [(1, some (keepslaw_frK1 t)), (2, some (keepslaw_frK2 r)), (3, some (.ro 2 l.length (Lst eS l))), (1007, some (keepslaw_frK4 t)), (1008, some (keepslaw_frK5 r)), (1013, some (keepslaw_frK10 t y l)), (10520, some (keepslaw_frK9 t y l))]⟩
       [] (by kernel_rfl) trivial ?_
      have h28 : (decide ((lsE l) ≠ 0)) = true := by exact decide_eq_true (by omega)
      refine aw_cond (b := decide ((lsE l) ≠ 0)) rfl (fun _ => ?_) (fun h => Bool.noConfusion (h28.symm.trans h))
      refine aw_seq ?_
      have hEw := drillE_2 (show girthE t y = 0 by assumption) (show lsE l ≠ 0 by omega)
      have hR : drillR t y l = zeroT := drillR_bad (by omega)
      refine aw_ent (T := ⟨161, [1, 2, 3], [(1, .i y), (2, .ls 3), (7, .l (.ref 1007 0)), (8, .l (.ref 1008 0)), (10, .i ((keepsR t r y l).at_)), (11, .i ((keepsR t r y l).rule)), (12, .i (keepsE t r y l)), (13, .l (.ref 1013 0)), (14, .i (drillE t y l)), (15, .i (lsE l)), (16, .i (lsE l)), (73, .b (decide ((lsE l) ≠ 0)))], [(1, some (keepslaw_frK1 t)), (2, some (keepslaw_frK2 r)), (3, some (.ro 2 l.length (Lst eS l))), (1007, some (keepslaw_frK4 t)), (1008, some (keepslaw_frK5 r)), (1013, some keepslaw_frK12), (10520, some keepslaw_frK13)]⟩)
          (Ent.ren [] rfl rfl (by kernel_rfl) ⟨rfl, rfl, rfl, rfl, rfl, rfl, rfl, rfl, rfl, rfl, rfl, rfl, trivial⟩ (cro rfl (cro rfl (cro rfl (cbl rfl rfl (cbl rfl rfl (cbl rfl (by exact (cells_cons (cell_i (by first | rfl | omega | assumption | (rw [hR]; rfl) | ((rw [hR])))) (cells_cons (cell_i (by first | rfl | omega | assumption | (rw [hR]; rfl) | ((rw [hR])))) (cells_cons (cell_i (by first | rfl | omega | assumption | (rw [hR]; rfl) | ((rw [hR])))) (cells_cons (cell_i (by first | rfl | omega | assumption | (rw [hR]; rfl) | ((rw [hR])))) (cells_cons (cell_i (by first | rfl | omega | assumption | (rw [hR]; rfl) | ((rw [hR])))) (cells_cons (cell_i (by first | rfl | omega | assumption | (rw [hR]; rfl) | ((rw [hR])))) (cells_cons rfl rfl)))))))) (conts_cons rfl (le_vec (by first | rfl | omega | assumption | (rw [hR]; rfl) | ((rw [hR]))) (lst_eq (by first | rfl | omega | assumption | (rw [hR]; rfl) | ((rw [hR]))))) trivial))))))) (by kernel_rfl)) ?_
      have h29 : (decide ((drillE t y l) ≠ (lsE l))) = false := by exact decide_eq_false (fun h => h hEw)
      refine aw_r [(3, .dec false), (6, .call [10520] (.b true) [])]
       ⟨161, [1, 2, 3], [(1, .i y), (2, .ls 3), (7, .l (.ref 1007 0)), (8, .l (.ref 1008 0)), (10, .i ((keepsR t r y l).at_)), (11, .i ((keepsR t r y l).rule)), (12, .i (keepsE t r y l)), (15, .i (lsE l)), (82, .b false)], [(1, some (keepslaw_frK1 t)), (2, some (keepslaw_frK2 r)), (3, some (.ro 2 l.length (Lst eS l))), (1007, some (keepslaw_frK4 t)), (1008, some (keepslaw_frK5 r))]⟩
       [decide ((drillE t y l) ≠ (lsE l)) = false, CallOK Try.prog 21 [.agg [.i 0, .i 0, .i 0, .i 0, .i 0, .i 0, .ls 10520], .agg [.i 0, .i 0, .i 0, .i 0, .i 0, .i 0, .v (.slice none 0 0)]] [10520] [some keepslaw_frK13] (.b true) []] (by kernel_rfl) (al2 h29 (al1 (CallFr.to (holesZ_fr ) [(1, 10520)] (by kernel_rfl) (by kernel_rfl) (by kernel_rfl) (by kernel_rfl) (by kernel_rfl) (dem_cons rfl (le_vec_ro (by first | omega | rfl | assumption) el_rfl) dem_nil)))) ?_
      refine aw_false rfl ?_
      refine aw_skip ?_
      refine aw_seq ?_
      refine aw_seq ?_
      refine aw_r [(3, .call [1, 2] (.i (startE t r y)) [])]
       ⟨161, [1, 2, 3], [(1, .i y), (2, .ls 3), (7, .l (.ref 1007 0)), (8, .l (.ref 1008 0)), (10, .i ((keepsR t r y l).at_)), (11, .i ((keepsR t r y l).rule)), (12, .i (keepsE t r y l)), (15, .i (lsE l)), (16, .i (startE t r y))], [(1, some (keepslaw_frK1 t)), (2, some (keepslaw_frK2 r)), (3, some (.ro 2 l.length (Lst eS l))), (1007, some (keepslaw_frK4 t)), (1008, some (keepslaw_frK5 r))]⟩
       [CallOK Try.prog 24 [.agg [.i t.year, .i t.glo, .i t.ghi, .i t.wlo, .i t.whi, .i t.health, .ls 1], .agg [.i r.slo, .i r.shi, .i r.ulo, .i r.uhi, .i r.hlo, .i r.hhi, .i r.apart, .i r.blo, .i r.bhi, .ls 2, .i r.n0, .i r.n1, .i r.n2, .i r.n3, .i r.n4, .i r.opn], .i y] [1, 2] [some (keepslaw_frK1 t), some (keepslaw_frK2 r)] (.i (startE t r y)) []] (by kernel_rfl) (al1 (CallFr.to (refStart_fr t r y (by first | omega | (simp; done) | assumption) (by first | omega | (simp; done) | assumption)) [(1, 1), (2, 2)] (by kernel_rfl) (by kernel_rfl) (by kernel_rfl) (by kernel_rfl) (by kernel_rfl) (dem_cons rfl (le_ro rfl el_rfl) (dem_cons rfl (le_ro rfl el_rfl) dem_nil)))) ?_
      refine aw_seq ?_
      refine aw_r []
       ⟨161, [1, 2, 3], [(1, .i y), (2, .ls 3), (7, .l (.ref 1007 0)), (8, .l (.ref 1008 0)), (10, .i ((keepsR t r y l).at_)), (11, .i ((keepsR t r y l).rule)), (12, .i (keepsE t r y l)), (15, .i (lsE l)), (16, .i (startE t r y)), (120, .b (decide ((startE t r y) = 0)))], [(1, some (keepslaw_frK1 t)), (2, some (keepslaw_frK2 r)), (3, some (.ro 2 l.length (Lst eS l))), (1007, some (keepslaw_frK4 t)), (1008, some (keepslaw_frK5 r))]⟩
       [] (by kernel_rfl) trivial ?_
      refine aw_cond (b := decide ((startE t r y) = 0)) rfl (fun h30 => ?_) (fun h30 => ?_)
      ·
       have h30p : (startE t r y) = 0 := dtr h30
       refine aw_r []
        ⟨161, [1, 2, 3], [(1, .i y), (2, .ls 3), (7, .l (.ref 1007 0)), (8, .l (.ref 1008 0)), (10, .i ((keepsR t r y l).at_)), (11, .i ((keepsR t r y l).rule)), (12, .i (keepsE t r y l)), (16, .i (lsE l))], [(1, some (keepslaw_frK1 t)), (2, some (keepslaw_frK2 r)), (3, some (.ro 2 l.length (Lst eS l))), (1007, some (keepslaw_frK4 t)), (1008, some (keepslaw_frK5 r))]⟩
        [] (by kernel_rfl) trivial ?_
       refine aw_seq ?_
       refine aw_seq ?_
       refine aw_r []
        ⟨161, [1, 2, 3], [(1, .i y), (2, .ls 3), (7, .l (.ref 1007 0)), (8, .l (.ref 1008 0)), (10, .i ((keepsR t r y l).at_)), (11, .i ((keepsR t r y l).rule)), (12, .i (keepsE t r y l)), (16, .i (lsE l)), (123, .b (decide ((lsE l) ≠ 0)))], [(1, some (keepslaw_frK1 t)), (2, some (keepslaw_frK2 r)), (3, some (.ro 2 l.length (Lst eS l))), (1007, some (keepslaw_frK4 t)), (1008, some (keepslaw_frK5 r))]⟩
        [] (by kernel_rfl) trivial ?_
       refine aw_cond (b := decide ((lsE l) ≠ 0)) rfl (fun _ => ?_) (fun h => Bool.noConfusion (h28.symm.trans h))
       refine aw_seq ?_
       have h31 : (decide ((keepsE t r y l) = (lsE l))) = true := by exact decide_eq_true (keepsE_2 (by assumption))
       have h32 : (decide ((keepsR t r y l).at_ = 0)) = true := by exact decide_eq_true (by rw [keepsR_bad (by first | (rw [keepsE_1 (by assumption)]; assumption) | (rw [keepsE_2 (by omega)]; omega))])
       have h33 : (decide ((keepsR t r y l).rule = 0)) = true := by exact decide_eq_true (by rw [keepsR_bad (by first | (rw [keepsE_1 (by assumption)]; assumption) | (rw [keepsE_2 (by omega)]; omega))])
       refine aw_r [(3, .dec true), (7, .dec true), (11, .dec true), (12, .call [] (.b true) [])]
        ⟨161, [1, 2, 3], [(6, .b true)], []⟩
        [decide ((keepsE t r y l) = (lsE l)) = true, decide ((keepsR t r y l).at_ = 0) = true, decide ((keepsR t r y l).rule = 0) = true, CallOK Try.prog 14 [] [] [] (.b true) []] (by kernel_rfl) (al2 h31 (al2 h32 (al2 h33 (al1 (CallFr.to (known_fr ) [] (by kernel_rfl) (by kernel_rfl) (by kernel_rfl) (by kernel_rfl) (by kernel_rfl) dem_nil))))) ?_
       exact aw_ret (ret_then ⟨.inr rfl, end_ok ⟨161, [1, 2, 3], [(6, .b true)], []⟩
           (Ent.ren [] rfl rfl (by kernel_rfl) ⟨rfl, trivial⟩ trivial (by kernel_rfl)) rfl (by kernel_rfl) wr_nil (by kernel_rfl)⟩)
      ·
       have h30p : (startE t r y) ≠ 0 := deq h30
       refine aw_skip ?_
       refine aw_seq ?_
       refine aw_seq ?_
       refine aw_r []
        ⟨161, [1, 2, 3], [(1, .i y), (2, .ls 3), (7, .l (.ref 1007 0)), (8, .l (.ref 1008 0)), (10, .i ((keepsR t r y l).at_)), (11, .i ((keepsR t r y l).rule)), (12, .i (keepsE t r y l)), (16, .i (startE t r y)), (123, .b (decide ((startE t r y) ≠ 0)))], [(1, some (keepslaw_frK1 t)), (2, some (keepslaw_frK2 r)), (3, some (.ro 2 l.length (Lst eS l))), (1007, some (keepslaw_frK4 t)), (1008, some (keepslaw_frK5 r))]⟩
        [] (by kernel_rfl) trivial ?_
       have h34 : (decide ((startE t r y) ≠ 0)) = true := by exact decide_eq_true (by assumption)
       refine aw_cond (b := decide ((startE t r y) ≠ 0)) rfl (fun _ => ?_) (fun h => Bool.noConfusion (h34.symm.trans h))
       refine aw_seq ?_
       have h35 : (decide ((keepsE t r y l) = (startE t r y))) = true := by exact decide_eq_true (keepsE_1 (by assumption))
       have h36 : (decide ((keepsR t r y l).at_ = 0)) = true := by exact decide_eq_true (by rw [keepsR_bad (by first | (rw [keepsE_1 (by assumption)]; assumption) | (rw [keepsE_2 (by omega)]; omega))])
       have h37 : (decide ((keepsR t r y l).rule = 0)) = true := by exact decide_eq_true (by rw [keepsR_bad (by first | (rw [keepsE_1 (by assumption)]; assumption) | (rw [keepsE_2 (by omega)]; omega))])
       refine aw_r [(3, .dec true), (7, .dec true), (11, .dec true), (12, .call [] (.b true) [])]
        ⟨161, [1, 2, 3], [(6, .b true)], []⟩
        [decide ((keepsE t r y l) = (startE t r y)) = true, decide ((keepsR t r y l).at_ = 0) = true, decide ((keepsR t r y l).rule = 0) = true, CallOK Try.prog 14 [] [] [] (.b true) []] (by kernel_rfl) (al2 h35 (al2 h36 (al2 h37 (al1 (CallFr.to (known_fr ) [] (by kernel_rfl) (by kernel_rfl) (by kernel_rfl) (by kernel_rfl) (by kernel_rfl) dem_nil))))) ?_
       exact aw_ret (ret_then ⟨.inr rfl, end_ok ⟨161, [1, 2, 3], [(6, .b true)], []⟩
           (Ent.ren [] rfl rfl (by kernel_rfl) ⟨rfl, trivial⟩ trivial (by kernel_rfl)) rfl (by kernel_rfl) wr_nil (by kernel_rfl)⟩)
     ·
      have h27p : (girthE t y) ≠ 0 := deq h27
      refine aw_skip ?_
      refine aw_seq ?_
      refine aw_seq ?_
      refine aw_r []
       ⟨161, [1, 2, 3], [(1, .i y), (2, .ls 3), (7, .l (.ref 1007 0)), (8, .l (.ref 1008 0)), (10, .i ((keepsR t r y l).at_)), (11, .i ((keepsR t r y l).rule)), (12, .i (keepsE t r y l)), (13, .l (.ref 1013 0)), (14, .i (drillE t y l)), (15, .i (lsE l)), (16, .i (girthE t y)), (73, .b (decide ((girthE t y) ≠ 0)))], [(1, some (keepslaw_frK1 t)), (2, some (keepslaw_frK2 r)), (3, some (.ro 2 l.length (Lst eS l))), (1007, some (keepslaw_frK4 t)), (1008, some (keepslaw_frK5 r)), (1013, some (keepslaw_frK10 t y l)), (10520, some (keepslaw_frK9 t y l))]⟩
       [] (by kernel_rfl) trivial ?_
      have h38 : (decide ((girthE t y) ≠ 0)) = true := by exact decide_eq_true (by assumption)
      refine aw_cond (b := decide ((girthE t y) ≠ 0)) rfl (fun _ => ?_) (fun h => Bool.noConfusion (h38.symm.trans h))
      refine aw_seq ?_
      have hEw := drillE_1 (l := l) (show girthE t y ≠ 0 by assumption)
      have hR : drillR t y l = zeroT := drillR_bad (by omega)
      refine aw_ent (T := ⟨161, [1, 2, 3], [(1, .i y), (2, .ls 3), (7, .l (.ref 1007 0)), (8, .l (.ref 1008 0)), (10, .i ((keepsR t r y l).at_)), (11, .i ((keepsR t r y l).rule)), (12, .i (keepsE t r y l)), (13, .l (.ref 1013 0)), (14, .i (drillE t y l)), (15, .i (lsE l)), (16, .i (girthE t y)), (73, .b (decide ((girthE t y) ≠ 0)))], [(1, some (keepslaw_frK1 t)), (2, some (keepslaw_frK2 r)), (3, some (.ro 2 l.length (Lst eS l))), (1007, some (keepslaw_frK4 t)), (1008, some (keepslaw_frK5 r)), (1013, some keepslaw_frK12), (10520, some keepslaw_frK13)]⟩)
          (Ent.ren [] rfl rfl (by kernel_rfl) ⟨rfl, rfl, rfl, rfl, rfl, rfl, rfl, rfl, rfl, rfl, rfl, rfl, trivial⟩ (cro rfl (cro rfl (cro rfl (cbl rfl rfl (cbl rfl rfl (cbl rfl (by exact (cells_cons (cell_i (by first | rfl | omega | assumption | (rw [hR]; rfl) | ((rw [hR])))) (cells_cons (cell_i (by first | rfl | omega | assumption | (rw [hR]; rfl) | ((rw [hR])))) (cells_cons (cell_i (by first | rfl | omega | assumption | (rw [hR]; rfl) | ((rw [hR])))) (cells_cons (cell_i (by first | rfl | omega | assumption | (rw [hR]; rfl) | ((rw [hR])))) (cells_cons (cell_i (by first | rfl | omega | assumption | (rw [hR]; rfl) | ((rw [hR])))) (cells_cons (cell_i (by first | rfl | omega | assumption | (rw [hR]; rfl) | ((rw [hR])))) (cells_cons rfl rfl)))))))) (conts_cons rfl (le_vec (by first | rfl | omega | assumption | (rw [hR]; rfl) | ((rw [hR]))) (lst_eq (by first | rfl | omega | assumption | (rw [hR]; rfl) | ((rw [hR]))))) trivial))))))) (by kernel_rfl)) ?_
      have h39 : (decide ((drillE t y l) ≠ (girthE t y))) = false := by exact decide_eq_false (fun h => h hEw)
      refine aw_r [(3, .dec false), (6, .call [10520] (.b true) [])]
       ⟨161, [1, 2, 3], [(1, .i y), (2, .ls 3), (7, .l (.ref 1007 0)), (8, .l (.ref 1008 0)), (10, .i ((keepsR t r y l).at_)), (11, .i ((keepsR t r y l).rule)), (12, .i (keepsE t r y l)), (15, .i (lsE l)), (82, .b false)], [(1, some (keepslaw_frK1 t)), (2, some (keepslaw_frK2 r)), (3, some (.ro 2 l.length (Lst eS l))), (1007, some (keepslaw_frK4 t)), (1008, some (keepslaw_frK5 r))]⟩
       [decide ((drillE t y l) ≠ (girthE t y)) = false, CallOK Try.prog 21 [.agg [.i 0, .i 0, .i 0, .i 0, .i 0, .i 0, .ls 10520], .agg [.i 0, .i 0, .i 0, .i 0, .i 0, .i 0, .v (.slice none 0 0)]] [10520] [some keepslaw_frK13] (.b true) []] (by kernel_rfl) (al2 h39 (al1 (CallFr.to (holesZ_fr ) [(1, 10520)] (by kernel_rfl) (by kernel_rfl) (by kernel_rfl) (by kernel_rfl) (by kernel_rfl) (dem_cons rfl (le_vec_ro (by first | omega | rfl | assumption) el_rfl) dem_nil)))) ?_
      refine aw_false rfl ?_
      refine aw_skip ?_
      refine aw_seq ?_
      refine aw_seq ?_
      refine aw_r [(3, .call [1, 2] (.i (startE t r y)) [])]
       ⟨161, [1, 2, 3], [(1, .i y), (2, .ls 3), (7, .l (.ref 1007 0)), (8, .l (.ref 1008 0)), (10, .i ((keepsR t r y l).at_)), (11, .i ((keepsR t r y l).rule)), (12, .i (keepsE t r y l)), (15, .i (lsE l)), (16, .i (startE t r y))], [(1, some (keepslaw_frK1 t)), (2, some (keepslaw_frK2 r)), (3, some (.ro 2 l.length (Lst eS l))), (1007, some (keepslaw_frK4 t)), (1008, some (keepslaw_frK5 r))]⟩
       [CallOK Try.prog 24 [.agg [.i t.year, .i t.glo, .i t.ghi, .i t.wlo, .i t.whi, .i t.health, .ls 1], .agg [.i r.slo, .i r.shi, .i r.ulo, .i r.uhi, .i r.hlo, .i r.hhi, .i r.apart, .i r.blo, .i r.bhi, .ls 2, .i r.n0, .i r.n1, .i r.n2, .i r.n3, .i r.n4, .i r.opn], .i y] [1, 2] [some (keepslaw_frK1 t), some (keepslaw_frK2 r)] (.i (startE t r y)) []] (by kernel_rfl) (al1 (CallFr.to (refStart_fr t r y (by first | omega | (simp; done) | assumption) (by first | omega | (simp; done) | assumption)) [(1, 1), (2, 2)] (by kernel_rfl) (by kernel_rfl) (by kernel_rfl) (by kernel_rfl) (by kernel_rfl) (dem_cons rfl (le_ro rfl el_rfl) (dem_cons rfl (le_ro rfl el_rfl) dem_nil)))) ?_
      refine aw_seq ?_
      refine aw_r []
       ⟨161, [1, 2, 3], [(1, .i y), (2, .ls 3), (7, .l (.ref 1007 0)), (8, .l (.ref 1008 0)), (10, .i ((keepsR t r y l).at_)), (11, .i ((keepsR t r y l).rule)), (12, .i (keepsE t r y l)), (15, .i (lsE l)), (16, .i (startE t r y)), (120, .b (decide ((startE t r y) = 0)))], [(1, some (keepslaw_frK1 t)), (2, some (keepslaw_frK2 r)), (3, some (.ro 2 l.length (Lst eS l))), (1007, some (keepslaw_frK4 t)), (1008, some (keepslaw_frK5 r))]⟩
       [] (by kernel_rfl) trivial ?_
      refine aw_cond (b := decide ((startE t r y) = 0)) rfl (fun h40 => ?_) (fun h40 => ?_)
      ·
       have h40p : (startE t r y) = 0 := dtr h40
       refine aw_r []
        ⟨161, [1, 2, 3], [(1, .i y), (2, .ls 3), (7, .l (.ref 1007 0)), (8, .l (.ref 1008 0)), (10, .i ((keepsR t r y l).at_)), (11, .i ((keepsR t r y l).rule)), (12, .i (keepsE t r y l)), (16, .i (lsE l))], [(1, some (keepslaw_frK1 t)), (2, some (keepslaw_frK2 r)), (3, some (.ro 2 l.length (Lst eS l))), (1007, some (keepslaw_frK4 t)), (1008, some (keepslaw_frK5 r))]⟩
        [] (by kernel_rfl) trivial ?_
       refine aw_seq ?_
       refine aw_seq ?_
       refine aw_r []
        ⟨161, [1, 2, 3], [(1, .i y), (2, .ls 3), (7, .l (.ref 1007 0)), (8, .l (.ref 1008 0)), (10, .i ((keepsR t r y l).at_)), (11, .i ((keepsR t r y l).rule)), (12, .i (keepsE t r y l)), (16, .i (lsE l)), (123, .b (decide ((lsE l) ≠ 0)))], [(1, some (keepslaw_frK1 t)), (2, some (keepslaw_frK2 r)), (3, some (.ro 2 l.length (Lst eS l))), (1007, some (keepslaw_frK4 t)), (1008, some (keepslaw_frK5 r))]⟩
        [] (by kernel_rfl) trivial ?_
       have h41 : (decide ((lsE l) ≠ 0)) = true := by exact decide_eq_true (by omega)
       refine aw_cond (b := decide ((lsE l) ≠ 0)) rfl (fun _ => ?_) (fun h => Bool.noConfusion (h41.symm.trans h))
       refine aw_seq ?_
       have h42 : (decide ((keepsE t r y l) = (lsE l))) = true := by exact decide_eq_true (keepsE_2 (by assumption))
       have h43 : (decide ((keepsR t r y l).at_ = 0)) = true := by exact decide_eq_true (by rw [keepsR_bad (by first | (rw [keepsE_1 (by assumption)]; assumption) | (rw [keepsE_2 (by omega)]; omega))])
       have h44 : (decide ((keepsR t r y l).rule = 0)) = true := by exact decide_eq_true (by rw [keepsR_bad (by first | (rw [keepsE_1 (by assumption)]; assumption) | (rw [keepsE_2 (by omega)]; omega))])
       refine aw_r [(3, .dec true), (7, .dec true), (11, .dec true), (12, .call [] (.b true) [])]
        ⟨161, [1, 2, 3], [(6, .b true)], []⟩
        [decide ((keepsE t r y l) = (lsE l)) = true, decide ((keepsR t r y l).at_ = 0) = true, decide ((keepsR t r y l).rule = 0) = true, CallOK Try.prog 14 [] [] [] (.b true) []] (by kernel_rfl) (al2 h42 (al2 h43 (al2 h44 (al1 (CallFr.to (known_fr ) [] (by kernel_rfl) (by kernel_rfl) (by kernel_rfl) (by kernel_rfl) (by kernel_rfl) dem_nil))))) ?_
       exact aw_ret (ret_then ⟨.inr rfl, end_ok ⟨161, [1, 2, 3], [(6, .b true)], []⟩
           (Ent.ren [] rfl rfl (by kernel_rfl) ⟨rfl, trivial⟩ trivial (by kernel_rfl)) rfl (by kernel_rfl) wr_nil (by kernel_rfl)⟩)
      ·
       have h40p : (startE t r y) ≠ 0 := deq h40
       refine aw_skip ?_
       refine aw_seq ?_
       refine aw_seq ?_
       refine aw_r []
        ⟨161, [1, 2, 3], [(1, .i y), (2, .ls 3), (7, .l (.ref 1007 0)), (8, .l (.ref 1008 0)), (10, .i ((keepsR t r y l).at_)), (11, .i ((keepsR t r y l).rule)), (12, .i (keepsE t r y l)), (16, .i (startE t r y)), (123, .b (decide ((startE t r y) ≠ 0)))], [(1, some (keepslaw_frK1 t)), (2, some (keepslaw_frK2 r)), (3, some (.ro 2 l.length (Lst eS l))), (1007, some (keepslaw_frK4 t)), (1008, some (keepslaw_frK5 r))]⟩
        [] (by kernel_rfl) trivial ?_
       have h45 : (decide ((startE t r y) ≠ 0)) = true := by exact decide_eq_true (by assumption)
       refine aw_cond (b := decide ((startE t r y) ≠ 0)) rfl (fun _ => ?_) (fun h => Bool.noConfusion (h45.symm.trans h))
       refine aw_seq ?_
       have h46 : (decide ((keepsE t r y l) = (startE t r y))) = true := by exact decide_eq_true (keepsE_1 (by assumption))
       have h47 : (decide ((keepsR t r y l).at_ = 0)) = true := by exact decide_eq_true (by rw [keepsR_bad (by first | (rw [keepsE_1 (by assumption)]; assumption) | (rw [keepsE_2 (by omega)]; omega))])
       have h48 : (decide ((keepsR t r y l).rule = 0)) = true := by exact decide_eq_true (by rw [keepsR_bad (by first | (rw [keepsE_1 (by assumption)]; assumption) | (rw [keepsE_2 (by omega)]; omega))])
       refine aw_r [(3, .dec true), (7, .dec true), (11, .dec true), (12, .call [] (.b true) [])]
        ⟨161, [1, 2, 3], [(6, .b true)], []⟩
        [decide ((keepsE t r y l) = (startE t r y)) = true, decide ((keepsR t r y l).at_ = 0) = true, decide ((keepsR t r y l).rule = 0) = true, CallOK Try.prog 14 [] [] [] (.b true) []] (by kernel_rfl) (al2 h46 (al2 h47 (al2 h48 (al1 (CallFr.to (known_fr ) [] (by kernel_rfl) (by kernel_rfl) (by kernel_rfl) (by kernel_rfl) (by kernel_rfl) dem_nil))))) ?_
       exact aw_ret (ret_then ⟨.inr rfl, end_ok ⟨161, [1, 2, 3], [(6, .b true)], []⟩
           (Ent.ren [] rfl rfl (by kernel_rfl) ⟨rfl, trivial⟩ trivial (by kernel_rfl)) rfl (by kernel_rfl) wr_nil (by kernel_rfl)⟩)
    ·
     refine aw_skip ?_
     refine aw_seq ?_
     have hLS : lsE l = 0 := by simp_all [lsE]
     refine aw_ent (T := ⟨161, [1, 2, 3], [(1, .i y), (2, .ls 3), (7, .l (.ref 1007 0)), (8, .l (.ref 1008 0)), (10, .i ((keepsR t r y l).at_)), (11, .i ((keepsR t r y l).rule)), (12, .i (keepsE t r y l)), (13, .l (.ref 1013 0)), (14, .i (drillE t y l)), (15, .i (lsE l)), (64, .b (!(spotsB l)))], [(1, some (keepslaw_frK1 t)), (2, some (keepslaw_frK2 r)), (3, some (.ro 2 l.length (Lst eS l))), (1007, some (keepslaw_frK4 t)), (1008, some (keepslaw_frK5 r)), (1013, some (keepslaw_frK10 t y l)), (10520, some (keepslaw_frK9 t y l))]⟩)
         (Ent.ren [] rfl rfl (by kernel_rfl) ⟨rfl, rfl, rfl, rfl, rfl, rfl, rfl, rfl, rfl, (slot_i rfl (by first | rfl | omega | assumption | (omega))), rfl, trivial⟩ (cro rfl (cro rfl (cro rfl (cbl rfl rfl (cbl rfl rfl (cbl rfl rfl (cve rfl trivial))))))) (by kernel_rfl)) ?_
     refine aw_d [(1, .call [] (.agg [.i exRule.slo, .i exRule.shi, .i exRule.ulo, .i exRule.uhi, .i exRule.hlo, .i exRule.hhi, .i exRule.apart, .i exRule.blo, .i exRule.bhi, .ls 10660, .i exRule.n0, .i exRule.n1, .i exRule.n2, .i exRule.n3, .i exRule.n4, .i exRule.opn]) [(10660, some keepslaw_frK11)]), (3, .call [1, 10660] (.i (startE t exRule y)) [])]
      ⟨161, [1, 2, 3], [(1, .i y), (2, .ls 3), (7, .l (.ref 1007 0)), (8, .l (.ref 1008 0)), (10, .i ((keepsR t r y l).at_)), (11, .i ((keepsR t r y l).rule)), (12, .i (keepsE t r y l)), (13, .l (.ref 1013 0)), (14, .i (drillE t y l)), (15, .i (lsE l)), (16, .i (startE t exRule y))], [(1, some (keepslaw_frK1 t)), (2, some (keepslaw_frK2 r)), (3, some (.ro 2 l.length (Lst eS l))), (1007, some (keepslaw_frK4 t)), (1008, some (keepslaw_frK5 r)), (1013, some (keepslaw_frK10 t y l)), (10520, some (keepslaw_frK9 t y l))]⟩
      [CallOK Try.prog 25 [] [] [] (.agg [.i exRule.slo, .i exRule.shi, .i exRule.ulo, .i exRule.uhi, .i exRule.hlo, .i exRule.hhi, .i exRule.apart, .i exRule.blo, .i exRule.bhi, .ls 10660, .i exRule.n0, .i exRule.n1, .i exRule.n2, .i exRule.n3, .i exRule.n4, .i exRule.opn]) [(10660, some keepslaw_frK11)], CallOK Try.prog 24 [.agg [.i t.year, .i t.glo, .i t.ghi, .i t.wlo, .i t.whi, .i t.health, .ls 1], .agg [.i exRule.slo, .i exRule.shi, .i exRule.ulo, .i exRule.uhi, .i exRule.hlo, .i exRule.hhi, .i exRule.apart, .i exRule.blo, .i exRule.bhi, .ls 10660, .i exRule.n0, .i exRule.n1, .i exRule.n2, .i exRule.n3, .i exRule.n4, .i exRule.opn], .i y] [1, 10660] [some (keepslaw_frK1 t), some keepslaw_frK11] (.i (startE t exRule y)) []] (by kernel_rfl) (by kernel_rfl) (al2 (CallFr.to (rules_fr ) [(1, 10660)] (by kernel_rfl) (by kernel_rfl) (by kernel_rfl) (by kernel_rfl) (by kernel_rfl) dem_nil) (al1 (CallFr.to (refStart_fr t exRule y (by first | omega | (simp; done) | assumption) (by first | omega | (simp; done) | assumption)) [(1, 1), (2, 10660)] (by kernel_rfl) (by kernel_rfl) (by kernel_rfl) (by kernel_rfl) (by kernel_rfl) (dem_cons rfl (le_ro rfl el_rfl) (dem_cons rfl (le_vec_ro rfl el_rfl) dem_nil))))) ?_
     refine aw_seq ?_
     refine aw_seq ?_
     refine aw_ent (T := ⟨161, [1, 2, 3], [(1, .i y), (2, .ls 3), (7, .l (.ref 1007 0)), (8, .l (.ref 1008 0)), (10, .i ((keepsR t r y l).at_)), (11, .i ((keepsR t r y l).rule)), (12, .i (keepsE t r y l)), (13, .l (.ref 1013 0)), (14, .i (drillE t y l)), (15, .i (lsE l)), (16, .i (girthE t y))], [(1, some (keepslaw_frK1 t)), (2, some (keepslaw_frK2 r)), (3, some (.ro 2 l.length (Lst eS l))), (1007, some (keepslaw_frK4 t)), (1008, some (keepslaw_frK5 r)), (1013, some (keepslaw_frK10 t y l)), (10520, some (keepslaw_frK9 t y l))]⟩)
         (Ent.ren [] rfl rfl (by kernel_rfl) ⟨rfl, rfl, rfl, rfl, rfl, rfl, rfl, rfl, rfl, rfl, (slot_i rfl (by first | rfl | omega | assumption | (exact st_ex2))), trivial⟩ (cro rfl (cro rfl (cro rfl (cbl rfl rfl (cbl rfl rfl (cbl rfl rfl (cve rfl trivial))))))) (by kernel_rfl)) ?_
     refine aw_r []
      ⟨161, [1, 2, 3], [(1, .i y), (2, .ls 3), (7, .l (.ref 1007 0)), (8, .l (.ref 1008 0)), (10, .i ((keepsR t r y l).at_)), (11, .i ((keepsR t r y l).rule)), (12, .i (keepsE t r y l)), (13, .l (.ref 1013 0)), (14, .i (drillE t y l)), (15, .i (lsE l)), (16, .i (girthE t y)), (70, .b (decide ((girthE t y) = 0)))], [(1, some (keepslaw_frK1 t)), (2, some (keepslaw_frK2 r)), (3, some (.ro 2 l.length (Lst eS l))), (1007, some (keepslaw_frK4 t)), (1008, some (keepslaw_frK5 r)), (1013, some (keepslaw_frK10 t y l)), (10520, some (keepslaw_frK9 t y l))]⟩
      [] (by kernel_rfl) trivial ?_
     refine aw_cond (b := decide ((girthE t y) = 0)) rfl (fun h49 => ?_) (fun h49 => ?_)
     ·
      have h49p : (girthE t y) = 0 := dtr h49
      refine aw_r []
       ⟨161, [1, 2, 3], [(1, .i y), (2, .ls 3), (7, .l (.ref 1007 0)), (8, .l (.ref 1008 0)), (10, .i ((keepsR t r y l).at_)), (11, .i ((keepsR t r y l).rule)), (12, .i (keepsE t r y l)), (13, .l (.ref 1013 0)), (14, .i (drillE t y l)), (15, .i (lsE l)), (16, .i (lsE l))], [(1, some (keepslaw_frK1 t)), (2, some (keepslaw_frK2 r)), (3, some (.ro 2 l.length (Lst eS l))), (1007, some (keepslaw_frK4 t)), (1008, some (keepslaw_frK5 r)), (1013, some (keepslaw_frK10 t y l)), (10520, some (keepslaw_frK9 t y l))]⟩
       [] (by kernel_rfl) trivial ?_
      refine aw_seq ?_
      refine aw_seq ?_
      refine aw_r []
       ⟨161, [1, 2, 3], [(1, .i y), (2, .ls 3), (7, .l (.ref 1007 0)), (8, .l (.ref 1008 0)), (10, .i ((keepsR t r y l).at_)), (11, .i ((keepsR t r y l).rule)), (12, .i (keepsE t r y l)), (13, .l (.ref 1013 0)), (14, .i (drillE t y l)), (15, .i (lsE l)), (16, .i (lsE l)), (73, .b (decide ((lsE l) ≠ 0)))], [(1, some (keepslaw_frK1 t)), (2, some (keepslaw_frK2 r)), (3, some (.ro 2 l.length (Lst eS l))), (1007, some (keepslaw_frK4 t)), (1008, some (keepslaw_frK5 r)), (1013, some (keepslaw_frK10 t y l)), (10520, some (keepslaw_frK9 t y l))]⟩
       [] (by kernel_rfl) trivial ?_
      have h50 : (decide ((lsE l) ≠ 0)) = false := by exact decide_eq_false (by omega)
      refine aw_cond (b := decide ((lsE l) ≠ 0)) rfl (fun h => Bool.noConfusion (h50.symm.trans h)) (fun _ => ?_)
      refine aw_seq ?_
      rcases Bool.eq_false_or_eq_true (drillB t y l) with h51 | h51
      ·
       refine aw_r [(3, .call [1, 3] (.tup [.agg [.i ((drillV t y l).year), .i ((drillV t y l).glo), .i ((drillV t y l).ghi), .i ((drillV t y l).wlo), .i ((drillV t y l).whi), .i ((drillV t y l).health), .ls 10870], .one (.v (.bool true))]) [(10870, some (keepslaw_frK14 t y l))]), (7, .new 1017)]
        ⟨161, [1, 2, 3], [(1, .i y), (2, .ls 3), (7, .l (.ref 1007 0)), (8, .l (.ref 1008 0)), (10, .i ((keepsR t r y l).at_)), (11, .i ((keepsR t r y l).rule)), (12, .i (keepsE t r y l)), (13, .l (.ref 1013 0)), (14, .i (drillE t y l)), (15, .i (lsE l)), (17, .l (.ref 1017 0)), (18, .b true)], [(1, some (keepslaw_frK1 t)), (2, some (keepslaw_frK2 r)), (3, some (.ro 2 l.length (Lst eS l))), (1007, some (keepslaw_frK4 t)), (1008, some (keepslaw_frK5 r)), (1013, some (keepslaw_frK10 t y l)), (1017, some (keepslaw_frK15 t y l)), (10520, some (keepslaw_frK9 t y l)), (10870, some (keepslaw_frK14 t y l))]⟩
        [CallOK Try.prog 47 [.agg [.i t.year, .i t.glo, .i t.ghi, .i t.wlo, .i t.whi, .i t.health, .ls 1], .i y, .ls 3] [1, 3] [some (keepslaw_frK1 t), some (.ro 2 l.length (Lst eS l))] (.tup [.agg [.i ((drillV t y l).year), .i ((drillV t y l).glo), .i ((drillV t y l).ghi), .i ((drillV t y l).wlo), .i ((drillV t y l).whi), .i ((drillV t y l).health), .ls 10870], .one (.v (.bool true))]) [(10870, some (keepslaw_frK14 t y l))]] (by kernel_rfl) (al1 (CallFr.to (refDrill_ok t y l (by first | omega | (simp; done) | assumption) (by first | omega | (simp; done) | assumption) h51) [(1, 1), (3, 3), (9, 10870)] (by kernel_rfl) (by kernel_rfl) (by kernel_rfl) (by kernel_rfl) (by kernel_rfl) (dem_cons rfl (le_ro rfl el_rfl) (dem_cons rfl (le_ro rfl el_rfl) dem_nil)))) ?_
       refine aw_seq ?_
       have hE0 : drillE t y l = 0 := by rw [drillE_3 (by omega) (by omega)]; exact if_pos (by assumption)
       have hR : drillR t y l = drillV t y l := drillR_ok hE0
       have hdl : (drillV t y l).holes.length ≤ 1000000 := by have := of_decide_eq_true (show drillB t y l = true by assumption); omega
       refine aw_ent (T := ⟨161, [1, 2, 3], [(1, .i y), (2, .ls 3), (7, .l (.ref 1007 0)), (8, .l (.ref 1008 0)), (10, .i ((keepsR t r y l).at_)), (11, .i ((keepsR t r y l).rule)), (12, .i (keepsE t r y l)), (13, .l (.ref 1013 0)), (14, .i (drillE t y l)), (15, .i (lsE l)), (17, .l (.ref 1017 0)), (18, .b true)], [(1, some (keepslaw_frK1 t)), (2, some (keepslaw_frK2 r)), (3, some (.ro 2 l.length (Lst eS l))), (1007, some (keepslaw_frK4 t)), (1008, some (keepslaw_frK5 r)), (1013, some (keepslaw_frK16 t y l)), (1017, some (keepslaw_frK15 t y l)), (10520, some (keepslaw_frK14 t y l)), (10870, some (keepslaw_frK14 t y l))]⟩)
           (Ent.ren [] rfl rfl (by kernel_rfl) ⟨rfl, rfl, rfl, rfl, rfl, rfl, rfl, rfl, rfl, rfl, rfl, rfl, trivial⟩ (cro rfl (cro rfl (cro rfl (cbl rfl rfl (cbl rfl rfl (cbl rfl (by exact (cells_cons (cell_i (by first | rfl | omega | assumption | (rw [hR]; rfl) | ((rw [hR])))) (cells_cons (cell_i (by first | rfl | omega | assumption | (rw [hR]; rfl) | ((rw [hR])))) (cells_cons (cell_i (by first | rfl | omega | assumption | (rw [hR]; rfl) | ((rw [hR])))) (cells_cons (cell_i (by first | rfl | omega | assumption | (rw [hR]; rfl) | ((rw [hR])))) (cells_cons (cell_i (by first | rfl | omega | assumption | (rw [hR]; rfl) | ((rw [hR])))) (cells_cons (cell_i (by first | rfl | omega | assumption | (rw [hR]; rfl) | ((rw [hR])))) (cells_cons rfl rfl)))))))) (cbl rfl rfl (conts_cons rfl (le_vec (by first | rfl | omega | assumption | (rw [hR]; rfl) | ((rw [hR]))) (lst_eq (by first | rfl | omega | assumption | (rw [hR]; rfl) | ((rw [hR]))))) (cve rfl trivial))))))))) (by kernel_rfl)) ?_
       have h52 : (decide ((drillE t y l) ≠ 0)) = false := by exact decide_eq_false (fun h => h hE0)
       refine aw_r [(4, .dec false), (7, .call [10520, 10870] (.b true) [])]
        ⟨161, [1, 2, 3], [(1, .i y), (2, .ls 3), (7, .l (.ref 1007 0)), (8, .l (.ref 1008 0)), (10, .i ((keepsR t r y l).at_)), (11, .i ((keepsR t r y l).rule)), (12, .i (keepsE t r y l)), (15, .i (lsE l)), (114, .b false)], [(1, some (keepslaw_frK1 t)), (2, some (keepslaw_frK2 r)), (3, some (.ro 2 l.length (Lst eS l))), (1007, some (keepslaw_frK4 t)), (1008, some (keepslaw_frK5 r))]⟩
        [decide ((drillE t y l) ≠ 0) = false, CallOK Try.prog 21 [.agg [.i ((drillV t y l).year), .i ((drillV t y l).glo), .i ((drillV t y l).ghi), .i ((drillV t y l).wlo), .i ((drillV t y l).whi), .i ((drillV t y l).health), .ls 10520], .agg [.i ((drillV t y l).year), .i ((drillV t y l).glo), .i ((drillV t y l).ghi), .i ((drillV t y l).wlo), .i ((drillV t y l).whi), .i ((drillV t y l).health), .ls 10870]] [10520, 10870] [some (keepslaw_frK14 t y l), some (keepslaw_frK14 t y l)] (.b true) []] (by kernel_rfl) (al2 h52 (al1 (CallFr.to (holesS_fr (drillV t y l) (by first | omega | (simp; done) | assumption)) [(1, 10520), (2, 10870)] (by kernel_rfl) (by kernel_rfl) (by kernel_rfl) (by kernel_rfl) (by kernel_rfl) (dem_cons rfl (le_vec_ro rfl el_rfl) (dem_cons rfl (le_vec_ro rfl el_rfl) dem_nil))))) ?_
       refine aw_false rfl ?_
       refine aw_skip ?_
       refine aw_seq ?_
       refine aw_seq ?_
       refine aw_r [(3, .call [1, 2] (.i (startE t r y)) [])]
        ⟨161, [1, 2, 3], [(1, .i y), (2, .ls 3), (7, .l (.ref 1007 0)), (8, .l (.ref 1008 0)), (10, .i ((keepsR t r y l).at_)), (11, .i ((keepsR t r y l).rule)), (12, .i (keepsE t r y l)), (15, .i (lsE l)), (16, .i (startE t r y))], [(1, some (keepslaw_frK1 t)), (2, some (keepslaw_frK2 r)), (3, some (.ro 2 l.length (Lst eS l))), (1007, some (keepslaw_frK4 t)), (1008, some (keepslaw_frK5 r))]⟩
        [CallOK Try.prog 24 [.agg [.i t.year, .i t.glo, .i t.ghi, .i t.wlo, .i t.whi, .i t.health, .ls 1], .agg [.i r.slo, .i r.shi, .i r.ulo, .i r.uhi, .i r.hlo, .i r.hhi, .i r.apart, .i r.blo, .i r.bhi, .ls 2, .i r.n0, .i r.n1, .i r.n2, .i r.n3, .i r.n4, .i r.opn], .i y] [1, 2] [some (keepslaw_frK1 t), some (keepslaw_frK2 r)] (.i (startE t r y)) []] (by kernel_rfl) (al1 (CallFr.to (refStart_fr t r y (by first | omega | (simp; done) | assumption) (by first | omega | (simp; done) | assumption)) [(1, 1), (2, 2)] (by kernel_rfl) (by kernel_rfl) (by kernel_rfl) (by kernel_rfl) (by kernel_rfl) (dem_cons rfl (le_ro rfl el_rfl) (dem_cons rfl (le_ro rfl el_rfl) dem_nil)))) ?_
       refine aw_seq ?_
       refine aw_r []
        ⟨161, [1, 2, 3], [(1, .i y), (2, .ls 3), (7, .l (.ref 1007 0)), (8, .l (.ref 1008 0)), (10, .i ((keepsR t r y l).at_)), (11, .i ((keepsR t r y l).rule)), (12, .i (keepsE t r y l)), (15, .i (lsE l)), (16, .i (startE t r y)), (120, .b (decide ((startE t r y) = 0)))], [(1, some (keepslaw_frK1 t)), (2, some (keepslaw_frK2 r)), (3, some (.ro 2 l.length (Lst eS l))), (1007, some (keepslaw_frK4 t)), (1008, some (keepslaw_frK5 r))]⟩
        [] (by kernel_rfl) trivial ?_
       refine aw_cond (b := decide ((startE t r y) = 0)) rfl (fun h53 => ?_) (fun h53 => ?_)
       ·
        have h53p : (startE t r y) = 0 := dtr h53
        refine aw_r []
         ⟨161, [1, 2, 3], [(1, .i y), (2, .ls 3), (7, .l (.ref 1007 0)), (8, .l (.ref 1008 0)), (10, .i ((keepsR t r y l).at_)), (11, .i ((keepsR t r y l).rule)), (12, .i (keepsE t r y l)), (16, .i (lsE l))], [(1, some (keepslaw_frK1 t)), (2, some (keepslaw_frK2 r)), (3, some (.ro 2 l.length (Lst eS l))), (1007, some (keepslaw_frK4 t)), (1008, some (keepslaw_frK5 r))]⟩
         [] (by kernel_rfl) trivial ?_
        refine aw_seq ?_
        refine aw_seq ?_
        refine aw_r []
         ⟨161, [1, 2, 3], [(1, .i y), (2, .ls 3), (7, .l (.ref 1007 0)), (8, .l (.ref 1008 0)), (10, .i ((keepsR t r y l).at_)), (11, .i ((keepsR t r y l).rule)), (12, .i (keepsE t r y l)), (16, .i (lsE l)), (123, .b (decide ((lsE l) ≠ 0)))], [(1, some (keepslaw_frK1 t)), (2, some (keepslaw_frK2 r)), (3, some (.ro 2 l.length (Lst eS l))), (1007, some (keepslaw_frK4 t)), (1008, some (keepslaw_frK5 r))]⟩
         [] (by kernel_rfl) trivial ?_
        refine aw_cond (b := decide ((lsE l) ≠ 0)) rfl (fun h => Bool.noConfusion (h50.symm.trans h)) (fun _ => ?_)
        refine aw_skip ?_
        refine aw_seq ?_
        obtain ⟨hls, hl20⟩ := lsE_0 (l := l) (by omega)
        refine aw_r [(4, .call [1, 2, 3] (.tup [.one (.i ((keepsV (openV t r y) l).at_)), .one (.i ((keepsV (openV t r y) l).rule))]) [])]
         ⟨161, [1, 2, 3], [(10, .i ((keepsR t r y l).at_)), (11, .i ((keepsR t r y l).rule)), (12, .i (keepsE t r y l)), (19, .i ((keepsV (openV t r y) l).at_)), (20, .i ((keepsV (openV t r y) l).rule))], []⟩
         [CallOK Try.prog 48 [.agg [.i t.year, .i t.glo, .i t.ghi, .i t.wlo, .i t.whi, .i t.health, .ls 1], .agg [.i r.slo, .i r.shi, .i r.ulo, .i r.uhi, .i r.hlo, .i r.hhi, .i r.apart, .i r.blo, .i r.bhi, .ls 2, .i r.n0, .i r.n1, .i r.n2, .i r.n3, .i r.n4, .i r.opn], .i y, .ls 3] [1, 2, 3] [some (keepslaw_frK1 t), some (keepslaw_frK2 r), some (.ro 2 l.length (Lst eS l))] (.tup [.one (.i ((keepsV (openV t r y) l).at_)), .one (.i ((keepsV (openV t r y) l).rule))]) []] (by kernel_rfl) (al1 (CallFr.to (refKeeps_fr t r y (by first | omega | (simp; done) | assumption) (by first | omega | (simp; done) | assumption) l (by assumption) (by assumption) (by omega)) [(1, 1), (2, 2), (3, 3)] (by kernel_rfl) (by kernel_rfl) (by kernel_rfl) (by kernel_rfl) (by kernel_rfl) (dem_cons rfl (le_ro rfl el_rfl) (dem_cons rfl (le_ro rfl el_rfl) (dem_cons rfl (le_ro rfl el_rfl) dem_nil))))) ?_
        refine aw_seq ?_
        have h54 : (decide ((keepsE t r y l) = 0)) = true := by exact decide_eq_true ((keepsE_2 (by omega)).trans (by omega))
        have h55 : (decide ((keepsR t r y l).at_ = (keepsV (openV t r y) l).at_)) = true := by exact decide_eq_true (by rw [keepsR_ok ((keepsE_2 (by omega)).trans (by omega))])
        have h56 : (decide ((keepsR t r y l).rule = (keepsV (openV t r y) l).rule)) = true := by exact decide_eq_true (by rw [keepsR_ok ((keepsE_2 (by omega)).trans (by omega))])
        refine aw_r [(2, .dec true), (7, .dec true), (12, .dec true), (13, .call [] (.b true) [])]
         ⟨161, [1, 2, 3], [(6, .b true)], []⟩
         [decide ((keepsE t r y l) = 0) = true, decide ((keepsR t r y l).at_ = (keepsV (openV t r y) l).at_) = true, decide ((keepsR t r y l).rule = (keepsV (openV t r y) l).rule) = true, CallOK Try.prog 14 [] [] [] (.b true) []] (by kernel_rfl) (al2 h54 (al2 h55 (al2 h56 (al1 (CallFr.to (known_fr ) [] (by kernel_rfl) (by kernel_rfl) (by kernel_rfl) (by kernel_rfl) (by kernel_rfl) dem_nil))))) ?_
        exact aw_ret ⟨.inr rfl, end_ok ⟨161, [1, 2, 3], [(6, .b true)], []⟩
            (Ent.ren [] rfl rfl (by kernel_rfl) ⟨rfl, trivial⟩ trivial (by kernel_rfl)) rfl (by kernel_rfl) wr_nil (by kernel_rfl)⟩
       ·
        have h53p : (startE t r y) ≠ 0 := deq h53
        refine aw_skip ?_
        refine aw_seq ?_
        refine aw_seq ?_
        refine aw_r []
         ⟨161, [1, 2, 3], [(1, .i y), (2, .ls 3), (7, .l (.ref 1007 0)), (8, .l (.ref 1008 0)), (10, .i ((keepsR t r y l).at_)), (11, .i ((keepsR t r y l).rule)), (12, .i (keepsE t r y l)), (16, .i (startE t r y)), (123, .b (decide ((startE t r y) ≠ 0)))], [(1, some (keepslaw_frK1 t)), (2, some (keepslaw_frK2 r)), (3, some (.ro 2 l.length (Lst eS l))), (1007, some (keepslaw_frK4 t)), (1008, some (keepslaw_frK5 r))]⟩
         [] (by kernel_rfl) trivial ?_
        have h57 : (decide ((startE t r y) ≠ 0)) = true := by exact decide_eq_true (by assumption)
        refine aw_cond (b := decide ((startE t r y) ≠ 0)) rfl (fun _ => ?_) (fun h => Bool.noConfusion (h57.symm.trans h))
        refine aw_seq ?_
        have h58 : (decide ((keepsE t r y l) = (startE t r y))) = true := by exact decide_eq_true (keepsE_1 (by assumption))
        have h59 : (decide ((keepsR t r y l).at_ = 0)) = true := by exact decide_eq_true (by rw [keepsR_bad (by first | (rw [keepsE_1 (by assumption)]; assumption) | (rw [keepsE_2 (by omega)]; omega))])
        have h60 : (decide ((keepsR t r y l).rule = 0)) = true := by exact decide_eq_true (by rw [keepsR_bad (by first | (rw [keepsE_1 (by assumption)]; assumption) | (rw [keepsE_2 (by omega)]; omega))])
        refine aw_r [(3, .dec true), (7, .dec true), (11, .dec true), (12, .call [] (.b true) [])]
         ⟨161, [1, 2, 3], [(6, .b true)], []⟩
         [decide ((keepsE t r y l) = (startE t r y)) = true, decide ((keepsR t r y l).at_ = 0) = true, decide ((keepsR t r y l).rule = 0) = true, CallOK Try.prog 14 [] [] [] (.b true) []] (by kernel_rfl) (al2 h58 (al2 h59 (al2 h60 (al1 (CallFr.to (known_fr ) [] (by kernel_rfl) (by kernel_rfl) (by kernel_rfl) (by kernel_rfl) (by kernel_rfl) dem_nil))))) ?_
        exact aw_ret (ret_then ⟨.inr rfl, end_ok ⟨161, [1, 2, 3], [(6, .b true)], []⟩
            (Ent.ren [] rfl rfl (by kernel_rfl) ⟨rfl, trivial⟩ trivial (by kernel_rfl)) rfl (by kernel_rfl) wr_nil (by kernel_rfl)⟩)
      ·
       refine aw_r [(3, .call [1, 3] (.tup [.agg [.i 0, .i 0, .i 0, .i 0, .i 0, .i 0, .v (.slice none 0 0)], .one (.v (.bool false))]) []), (7, .new 1017)]
        ⟨161, [1, 2, 3], [(1, .i y), (2, .ls 3), (7, .l (.ref 1007 0)), (8, .l (.ref 1008 0)), (10, .i ((keepsR t r y l).at_)), (11, .i ((keepsR t r y l).rule)), (12, .i (keepsE t r y l)), (13, .l (.ref 1013 0)), (14, .i (drillE t y l)), (15, .i (lsE l)), (17, .l (.ref 1017 0)), (18, .b false)], [(1, some (keepslaw_frK1 t)), (2, some (keepslaw_frK2 r)), (3, some (.ro 2 l.length (Lst eS l))), (1007, some (keepslaw_frK4 t)), (1008, some (keepslaw_frK5 r)), (1013, some (keepslaw_frK10 t y l)), (1017, some keepslaw_frK17), (10520, some (keepslaw_frK9 t y l))]⟩
        [CallOK Try.prog 47 [.agg [.i t.year, .i t.glo, .i t.ghi, .i t.wlo, .i t.whi, .i t.health, .ls 1], .i y, .ls 3] [1, 3] [some (keepslaw_frK1 t), some (.ro 2 l.length (Lst eS l))] (.tup [.agg [.i 0, .i 0, .i 0, .i 0, .i 0, .i 0, .v (.slice none 0 0)], .one (.v (.bool false))]) []] (by kernel_rfl) (al1 (CallFr.to (refDrill_no t y l (by first | omega | (simp; done) | assumption) (by first | omega | (simp; done) | assumption) h51) [(1, 1), (3, 3)] (by kernel_rfl) (by kernel_rfl) (by kernel_rfl) (by kernel_rfl) (by kernel_rfl) (dem_cons rfl (le_ro rfl el_rfl) (dem_cons rfl (le_ro rfl el_rfl) dem_nil)))) ?_
       refine aw_seq ?_
       have hE8 : drillE t y l = 8 := by rw [drillE_3 (by omega) (by omega)]; exact if_neg (fun h => Bool.noConfusion (h.symm.trans (by assumption : drillB t y l = false)))
       have hR : drillR t y l = zeroT := drillR_bad (by omega)
       refine aw_ent (T := ⟨161, [1, 2, 3], [(1, .i y), (2, .ls 3), (7, .l (.ref 1007 0)), (8, .l (.ref 1008 0)), (10, .i ((keepsR t r y l).at_)), (11, .i ((keepsR t r y l).rule)), (12, .i (keepsE t r y l)), (13, .l (.ref 1013 0)), (14, .i (drillE t y l)), (15, .i (lsE l)), (17, .l (.ref 1017 0)), (18, .b false)], [(1, some (keepslaw_frK1 t)), (2, some (keepslaw_frK2 r)), (3, some (.ro 2 l.length (Lst eS l))), (1007, some (keepslaw_frK4 t)), (1008, some (keepslaw_frK5 r)), (1013, some keepslaw_frK12), (1017, some keepslaw_frK17), (10520, some keepslaw_frK13)]⟩)
           (Ent.ren [] rfl rfl (by kernel_rfl) ⟨rfl, rfl, rfl, rfl, rfl, rfl, rfl, rfl, rfl, rfl, rfl, rfl, trivial⟩ (cro rfl (cro rfl (cro rfl (cbl rfl rfl (cbl rfl rfl (cbl rfl (by exact (cells_cons (cell_i (by first | rfl | omega | assumption | (rw [hR]; rfl) | ((rw [hR])))) (cells_cons (cell_i (by first | rfl | omega | assumption | (rw [hR]; rfl) | ((rw [hR])))) (cells_cons (cell_i (by first | rfl | omega | assumption | (rw [hR]; rfl) | ((rw [hR])))) (cells_cons (cell_i (by first | rfl | omega | assumption | (rw [hR]; rfl) | ((rw [hR])))) (cells_cons (cell_i (by first | rfl | omega | assumption | (rw [hR]; rfl) | ((rw [hR])))) (cells_cons (cell_i (by first | rfl | omega | assumption | (rw [hR]; rfl) | ((rw [hR])))) (cells_cons rfl rfl)))))))) (cbl rfl rfl (conts_cons rfl (le_vec (by first | rfl | omega | assumption | (rw [hR]; rfl) | ((rw [hR]))) (lst_eq (by first | rfl | omega | assumption | (rw [hR]; rfl) | ((rw [hR]))))) trivial)))))))) (by kernel_rfl)) ?_
       have h61 : (decide ((drillE t y l) ≠ 8)) = false := by exact decide_eq_false (fun h => h hE8)
       refine aw_r [(17, .dec false), (20, .call [10520] (.b true) [])]
        ⟨161, [1, 2, 3], [(1, .i y), (2, .ls 3), (7, .l (.ref 1007 0)), (8, .l (.ref 1008 0)), (10, .i ((keepsR t r y l).at_)), (11, .i ((keepsR t r y l).rule)), (12, .i (keepsE t r y l)), (15, .i (lsE l)), (114, .b false)], [(1, some (keepslaw_frK1 t)), (2, some (keepslaw_frK2 r)), (3, some (.ro 2 l.length (Lst eS l))), (1007, some (keepslaw_frK4 t)), (1008, some (keepslaw_frK5 r))]⟩
        [decide ((drillE t y l) ≠ 8) = false, CallOK Try.prog 21 [.agg [.i 0, .i 0, .i 0, .i 0, .i 0, .i 0, .ls 10520], .agg [.i 0, .i 0, .i 0, .i 0, .i 0, .i 0, .v (.slice none 0 0)]] [10520] [some keepslaw_frK13] (.b true) []] (by kernel_rfl) (al2 h61 (al1 (CallFr.to (holesZ_fr ) [(1, 10520)] (by kernel_rfl) (by kernel_rfl) (by kernel_rfl) (by kernel_rfl) (by kernel_rfl) (dem_cons rfl (le_vec_ro (by first | omega | rfl | assumption) el_rfl) dem_nil)))) ?_
       refine aw_false rfl ?_
       refine aw_skip ?_
       refine aw_seq ?_
       refine aw_seq ?_
       refine aw_r [(3, .call [1, 2] (.i (startE t r y)) [])]
        ⟨161, [1, 2, 3], [(1, .i y), (2, .ls 3), (7, .l (.ref 1007 0)), (8, .l (.ref 1008 0)), (10, .i ((keepsR t r y l).at_)), (11, .i ((keepsR t r y l).rule)), (12, .i (keepsE t r y l)), (15, .i (lsE l)), (16, .i (startE t r y))], [(1, some (keepslaw_frK1 t)), (2, some (keepslaw_frK2 r)), (3, some (.ro 2 l.length (Lst eS l))), (1007, some (keepslaw_frK4 t)), (1008, some (keepslaw_frK5 r))]⟩
        [CallOK Try.prog 24 [.agg [.i t.year, .i t.glo, .i t.ghi, .i t.wlo, .i t.whi, .i t.health, .ls 1], .agg [.i r.slo, .i r.shi, .i r.ulo, .i r.uhi, .i r.hlo, .i r.hhi, .i r.apart, .i r.blo, .i r.bhi, .ls 2, .i r.n0, .i r.n1, .i r.n2, .i r.n3, .i r.n4, .i r.opn], .i y] [1, 2] [some (keepslaw_frK1 t), some (keepslaw_frK2 r)] (.i (startE t r y)) []] (by kernel_rfl) (al1 (CallFr.to (refStart_fr t r y (by first | omega | (simp; done) | assumption) (by first | omega | (simp; done) | assumption)) [(1, 1), (2, 2)] (by kernel_rfl) (by kernel_rfl) (by kernel_rfl) (by kernel_rfl) (by kernel_rfl) (dem_cons rfl (le_ro rfl el_rfl) (dem_cons rfl (le_ro rfl el_rfl) dem_nil)))) ?_
       refine aw_seq ?_
       refine aw_r []
        ⟨161, [1, 2, 3], [(1, .i y), (2, .ls 3), (7, .l (.ref 1007 0)), (8, .l (.ref 1008 0)), (10, .i ((keepsR t r y l).at_)), (11, .i ((keepsR t r y l).rule)), (12, .i (keepsE t r y l)), (15, .i (lsE l)), (16, .i (startE t r y)), (120, .b (decide ((startE t r y) = 0)))], [(1, some (keepslaw_frK1 t)), (2, some (keepslaw_frK2 r)), (3, some (.ro 2 l.length (Lst eS l))), (1007, some (keepslaw_frK4 t)), (1008, some (keepslaw_frK5 r))]⟩
        [] (by kernel_rfl) trivial ?_
       refine aw_cond (b := decide ((startE t r y) = 0)) rfl (fun h62 => ?_) (fun h62 => ?_)
       ·
        have h62p : (startE t r y) = 0 := dtr h62
        refine aw_r []
         ⟨161, [1, 2, 3], [(1, .i y), (2, .ls 3), (7, .l (.ref 1007 0)), (8, .l (.ref 1008 0)), (10, .i ((keepsR t r y l).at_)), (11, .i ((keepsR t r y l).rule)), (12, .i (keepsE t r y l)), (16, .i (lsE l))], [(1, some (keepslaw_frK1 t)), (2, some (keepslaw_frK2 r)), (3, some (.ro 2 l.length (Lst eS l))), (1007, some (keepslaw_frK4 t)), (1008, some (keepslaw_frK5 r))]⟩
         [] (by kernel_rfl) trivial ?_
        refine aw_seq ?_
        refine aw_seq ?_
        refine aw_r []
         ⟨161, [1, 2, 3], [(1, .i y), (2, .ls 3), (7, .l (.ref 1007 0)), (8, .l (.ref 1008 0)), (10, .i ((keepsR t r y l).at_)), (11, .i ((keepsR t r y l).rule)), (12, .i (keepsE t r y l)), (16, .i (lsE l)), (123, .b (decide ((lsE l) ≠ 0)))], [(1, some (keepslaw_frK1 t)), (2, some (keepslaw_frK2 r)), (3, some (.ro 2 l.length (Lst eS l))), (1007, some (keepslaw_frK4 t)), (1008, some (keepslaw_frK5 r))]⟩
         [] (by kernel_rfl) trivial ?_
        refine aw_cond (b := decide ((lsE l) ≠ 0)) rfl (fun h => Bool.noConfusion (h50.symm.trans h)) (fun _ => ?_)
        refine aw_skip ?_
        refine aw_seq ?_
        obtain ⟨hls, hl20⟩ := lsE_0 (l := l) (by omega)
        refine aw_r [(4, .call [1, 2, 3] (.tup [.one (.i ((keepsV (openV t r y) l).at_)), .one (.i ((keepsV (openV t r y) l).rule))]) [])]
         ⟨161, [1, 2, 3], [(10, .i ((keepsR t r y l).at_)), (11, .i ((keepsR t r y l).rule)), (12, .i (keepsE t r y l)), (19, .i ((keepsV (openV t r y) l).at_)), (20, .i ((keepsV (openV t r y) l).rule))], []⟩
         [CallOK Try.prog 48 [.agg [.i t.year, .i t.glo, .i t.ghi, .i t.wlo, .i t.whi, .i t.health, .ls 1], .agg [.i r.slo, .i r.shi, .i r.ulo, .i r.uhi, .i r.hlo, .i r.hhi, .i r.apart, .i r.blo, .i r.bhi, .ls 2, .i r.n0, .i r.n1, .i r.n2, .i r.n3, .i r.n4, .i r.opn], .i y, .ls 3] [1, 2, 3] [some (keepslaw_frK1 t), some (keepslaw_frK2 r), some (.ro 2 l.length (Lst eS l))] (.tup [.one (.i ((keepsV (openV t r y) l).at_)), .one (.i ((keepsV (openV t r y) l).rule))]) []] (by kernel_rfl) (al1 (CallFr.to (refKeeps_fr t r y (by first | omega | (simp; done) | assumption) (by first | omega | (simp; done) | assumption) l (by assumption) (by assumption) (by omega)) [(1, 1), (2, 2), (3, 3)] (by kernel_rfl) (by kernel_rfl) (by kernel_rfl) (by kernel_rfl) (by kernel_rfl) (dem_cons rfl (le_ro rfl el_rfl) (dem_cons rfl (le_ro rfl el_rfl) (dem_cons rfl (le_ro rfl el_rfl) dem_nil))))) ?_
        refine aw_seq ?_
        have h63 : (decide ((keepsE t r y l) = 0)) = true := by exact decide_eq_true ((keepsE_2 (by omega)).trans (by omega))
        have h64 : (decide ((keepsR t r y l).at_ = (keepsV (openV t r y) l).at_)) = true := by exact decide_eq_true (by rw [keepsR_ok ((keepsE_2 (by omega)).trans (by omega))])
        have h65 : (decide ((keepsR t r y l).rule = (keepsV (openV t r y) l).rule)) = true := by exact decide_eq_true (by rw [keepsR_ok ((keepsE_2 (by omega)).trans (by omega))])
        refine aw_r [(2, .dec true), (7, .dec true), (12, .dec true), (13, .call [] (.b true) [])]
         ⟨161, [1, 2, 3], [(6, .b true)], []⟩
         [decide ((keepsE t r y l) = 0) = true, decide ((keepsR t r y l).at_ = (keepsV (openV t r y) l).at_) = true, decide ((keepsR t r y l).rule = (keepsV (openV t r y) l).rule) = true, CallOK Try.prog 14 [] [] [] (.b true) []] (by kernel_rfl) (al2 h63 (al2 h64 (al2 h65 (al1 (CallFr.to (known_fr ) [] (by kernel_rfl) (by kernel_rfl) (by kernel_rfl) (by kernel_rfl) (by kernel_rfl) dem_nil))))) ?_
        exact aw_ret ⟨.inr rfl, end_ok ⟨161, [1, 2, 3], [(6, .b true)], []⟩
            (Ent.ren [] rfl rfl (by kernel_rfl) ⟨rfl, trivial⟩ trivial (by kernel_rfl)) rfl (by kernel_rfl) wr_nil (by kernel_rfl)⟩
       ·
        have h62p : (startE t r y) ≠ 0 := deq h62
        refine aw_skip ?_
        refine aw_seq ?_
        refine aw_seq ?_
        refine aw_r []
         ⟨161, [1, 2, 3], [(1, .i y), (2, .ls 3), (7, .l (.ref 1007 0)), (8, .l (.ref 1008 0)), (10, .i ((keepsR t r y l).at_)), (11, .i ((keepsR t r y l).rule)), (12, .i (keepsE t r y l)), (16, .i (startE t r y)), (123, .b (decide ((startE t r y) ≠ 0)))], [(1, some (keepslaw_frK1 t)), (2, some (keepslaw_frK2 r)), (3, some (.ro 2 l.length (Lst eS l))), (1007, some (keepslaw_frK4 t)), (1008, some (keepslaw_frK5 r))]⟩
         [] (by kernel_rfl) trivial ?_
        have h66 : (decide ((startE t r y) ≠ 0)) = true := by exact decide_eq_true (by assumption)
        refine aw_cond (b := decide ((startE t r y) ≠ 0)) rfl (fun _ => ?_) (fun h => Bool.noConfusion (h66.symm.trans h))
        refine aw_seq ?_
        have h67 : (decide ((keepsE t r y l) = (startE t r y))) = true := by exact decide_eq_true (keepsE_1 (by assumption))
        have h68 : (decide ((keepsR t r y l).at_ = 0)) = true := by exact decide_eq_true (by rw [keepsR_bad (by first | (rw [keepsE_1 (by assumption)]; assumption) | (rw [keepsE_2 (by omega)]; omega))])
        have h69 : (decide ((keepsR t r y l).rule = 0)) = true := by exact decide_eq_true (by rw [keepsR_bad (by first | (rw [keepsE_1 (by assumption)]; assumption) | (rw [keepsE_2 (by omega)]; omega))])
        refine aw_r [(3, .dec true), (7, .dec true), (11, .dec true), (12, .call [] (.b true) [])]
         ⟨161, [1, 2, 3], [(6, .b true)], []⟩
         [decide ((keepsE t r y l) = (startE t r y)) = true, decide ((keepsR t r y l).at_ = 0) = true, decide ((keepsR t r y l).rule = 0) = true, CallOK Try.prog 14 [] [] [] (.b true) []] (by kernel_rfl) (al2 h67 (al2 h68 (al2 h69 (al1 (CallFr.to (known_fr ) [] (by kernel_rfl) (by kernel_rfl) (by kernel_rfl) (by kernel_rfl) (by kernel_rfl) dem_nil))))) ?_
        exact aw_ret (ret_then ⟨.inr rfl, end_ok ⟨161, [1, 2, 3], [(6, .b true)], []⟩
            (Ent.ren [] rfl rfl (by kernel_rfl) ⟨rfl, trivial⟩ trivial (by kernel_rfl)) rfl (by kernel_rfl) wr_nil (by kernel_rfl)⟩)
     ·
      have h49p : (girthE t y) ≠ 0 := deq h49
      refine aw_skip ?_
      refine aw_seq ?_
      refine aw_seq ?_
      refine aw_r []
       ⟨161, [1, 2, 3], [(1, .i y), (2, .ls 3), (7, .l (.ref 1007 0)), (8, .l (.ref 1008 0)), (10, .i ((keepsR t r y l).at_)), (11, .i ((keepsR t r y l).rule)), (12, .i (keepsE t r y l)), (13, .l (.ref 1013 0)), (14, .i (drillE t y l)), (15, .i (lsE l)), (16, .i (girthE t y)), (73, .b (decide ((girthE t y) ≠ 0)))], [(1, some (keepslaw_frK1 t)), (2, some (keepslaw_frK2 r)), (3, some (.ro 2 l.length (Lst eS l))), (1007, some (keepslaw_frK4 t)), (1008, some (keepslaw_frK5 r)), (1013, some (keepslaw_frK10 t y l)), (10520, some (keepslaw_frK9 t y l))]⟩
       [] (by kernel_rfl) trivial ?_
      have h70 : (decide ((girthE t y) ≠ 0)) = true := by exact decide_eq_true (by assumption)
      refine aw_cond (b := decide ((girthE t y) ≠ 0)) rfl (fun _ => ?_) (fun h => Bool.noConfusion (h70.symm.trans h))
      refine aw_seq ?_
      have hEw := drillE_1 (l := l) (show girthE t y ≠ 0 by assumption)
      have hR : drillR t y l = zeroT := drillR_bad (by omega)
      refine aw_ent (T := ⟨161, [1, 2, 3], [(1, .i y), (2, .ls 3), (7, .l (.ref 1007 0)), (8, .l (.ref 1008 0)), (10, .i ((keepsR t r y l).at_)), (11, .i ((keepsR t r y l).rule)), (12, .i (keepsE t r y l)), (13, .l (.ref 1013 0)), (14, .i (drillE t y l)), (15, .i (lsE l)), (16, .i (girthE t y)), (73, .b (decide ((girthE t y) ≠ 0)))], [(1, some (keepslaw_frK1 t)), (2, some (keepslaw_frK2 r)), (3, some (.ro 2 l.length (Lst eS l))), (1007, some (keepslaw_frK4 t)), (1008, some (keepslaw_frK5 r)), (1013, some keepslaw_frK12), (10520, some keepslaw_frK13)]⟩)
          (Ent.ren [] rfl rfl (by kernel_rfl) ⟨rfl, rfl, rfl, rfl, rfl, rfl, rfl, rfl, rfl, rfl, rfl, rfl, trivial⟩ (cro rfl (cro rfl (cro rfl (cbl rfl rfl (cbl rfl rfl (cbl rfl (by exact (cells_cons (cell_i (by first | rfl | omega | assumption | (rw [hR]; rfl) | ((rw [hR])))) (cells_cons (cell_i (by first | rfl | omega | assumption | (rw [hR]; rfl) | ((rw [hR])))) (cells_cons (cell_i (by first | rfl | omega | assumption | (rw [hR]; rfl) | ((rw [hR])))) (cells_cons (cell_i (by first | rfl | omega | assumption | (rw [hR]; rfl) | ((rw [hR])))) (cells_cons (cell_i (by first | rfl | omega | assumption | (rw [hR]; rfl) | ((rw [hR])))) (cells_cons (cell_i (by first | rfl | omega | assumption | (rw [hR]; rfl) | ((rw [hR])))) (cells_cons rfl rfl)))))))) (conts_cons rfl (le_vec (by first | rfl | omega | assumption | (rw [hR]; rfl) | ((rw [hR]))) (lst_eq (by first | rfl | omega | assumption | (rw [hR]; rfl) | ((rw [hR]))))) trivial))))))) (by kernel_rfl)) ?_
      have h71 : (decide ((drillE t y l) ≠ (girthE t y))) = false := by exact decide_eq_false (fun h => h hEw)
      refine aw_r [(3, .dec false), (6, .call [10520] (.b true) [])]
       ⟨161, [1, 2, 3], [(1, .i y), (2, .ls 3), (7, .l (.ref 1007 0)), (8, .l (.ref 1008 0)), (10, .i ((keepsR t r y l).at_)), (11, .i ((keepsR t r y l).rule)), (12, .i (keepsE t r y l)), (15, .i (lsE l)), (82, .b false)], [(1, some (keepslaw_frK1 t)), (2, some (keepslaw_frK2 r)), (3, some (.ro 2 l.length (Lst eS l))), (1007, some (keepslaw_frK4 t)), (1008, some (keepslaw_frK5 r))]⟩
       [decide ((drillE t y l) ≠ (girthE t y)) = false, CallOK Try.prog 21 [.agg [.i 0, .i 0, .i 0, .i 0, .i 0, .i 0, .ls 10520], .agg [.i 0, .i 0, .i 0, .i 0, .i 0, .i 0, .v (.slice none 0 0)]] [10520] [some keepslaw_frK13] (.b true) []] (by kernel_rfl) (al2 h71 (al1 (CallFr.to (holesZ_fr ) [(1, 10520)] (by kernel_rfl) (by kernel_rfl) (by kernel_rfl) (by kernel_rfl) (by kernel_rfl) (dem_cons rfl (le_vec_ro (by first | omega | rfl | assumption) el_rfl) dem_nil)))) ?_
      refine aw_false rfl ?_
      refine aw_skip ?_
      refine aw_seq ?_
      refine aw_seq ?_
      refine aw_r [(3, .call [1, 2] (.i (startE t r y)) [])]
       ⟨161, [1, 2, 3], [(1, .i y), (2, .ls 3), (7, .l (.ref 1007 0)), (8, .l (.ref 1008 0)), (10, .i ((keepsR t r y l).at_)), (11, .i ((keepsR t r y l).rule)), (12, .i (keepsE t r y l)), (15, .i (lsE l)), (16, .i (startE t r y))], [(1, some (keepslaw_frK1 t)), (2, some (keepslaw_frK2 r)), (3, some (.ro 2 l.length (Lst eS l))), (1007, some (keepslaw_frK4 t)), (1008, some (keepslaw_frK5 r))]⟩
       [CallOK Try.prog 24 [.agg [.i t.year, .i t.glo, .i t.ghi, .i t.wlo, .i t.whi, .i t.health, .ls 1], .agg [.i r.slo, .i r.shi, .i r.ulo, .i r.uhi, .i r.hlo, .i r.hhi, .i r.apart, .i r.blo, .i r.bhi, .ls 2, .i r.n0, .i r.n1, .i r.n2, .i r.n3, .i r.n4, .i r.opn], .i y] [1, 2] [some (keepslaw_frK1 t), some (keepslaw_frK2 r)] (.i (startE t r y)) []] (by kernel_rfl) (al1 (CallFr.to (refStart_fr t r y (by first | omega | (simp; done) | assumption) (by first | omega | (simp; done) | assumption)) [(1, 1), (2, 2)] (by kernel_rfl) (by kernel_rfl) (by kernel_rfl) (by kernel_rfl) (by kernel_rfl) (dem_cons rfl (le_ro rfl el_rfl) (dem_cons rfl (le_ro rfl el_rfl) dem_nil)))) ?_
      refine aw_seq ?_
      refine aw_r []
       ⟨161, [1, 2, 3], [(1, .i y), (2, .ls 3), (7, .l (.ref 1007 0)), (8, .l (.ref 1008 0)), (10, .i ((keepsR t r y l).at_)), (11, .i ((keepsR t r y l).rule)), (12, .i (keepsE t r y l)), (15, .i (lsE l)), (16, .i (startE t r y)), (120, .b (decide ((startE t r y) = 0)))], [(1, some (keepslaw_frK1 t)), (2, some (keepslaw_frK2 r)), (3, some (.ro 2 l.length (Lst eS l))), (1007, some (keepslaw_frK4 t)), (1008, some (keepslaw_frK5 r))]⟩
       [] (by kernel_rfl) trivial ?_
      refine aw_cond (b := decide ((startE t r y) = 0)) rfl (fun h72 => ?_) (fun h72 => ?_)
      ·
       have h72p : (startE t r y) = 0 := dtr h72
       refine aw_r []
        ⟨161, [1, 2, 3], [(1, .i y), (2, .ls 3), (7, .l (.ref 1007 0)), (8, .l (.ref 1008 0)), (10, .i ((keepsR t r y l).at_)), (11, .i ((keepsR t r y l).rule)), (12, .i (keepsE t r y l)), (16, .i (lsE l))], [(1, some (keepslaw_frK1 t)), (2, some (keepslaw_frK2 r)), (3, some (.ro 2 l.length (Lst eS l))), (1007, some (keepslaw_frK4 t)), (1008, some (keepslaw_frK5 r))]⟩
        [] (by kernel_rfl) trivial ?_
       refine aw_seq ?_
       refine aw_seq ?_
       refine aw_r []
        ⟨161, [1, 2, 3], [(1, .i y), (2, .ls 3), (7, .l (.ref 1007 0)), (8, .l (.ref 1008 0)), (10, .i ((keepsR t r y l).at_)), (11, .i ((keepsR t r y l).rule)), (12, .i (keepsE t r y l)), (16, .i (lsE l)), (123, .b (decide ((lsE l) ≠ 0)))], [(1, some (keepslaw_frK1 t)), (2, some (keepslaw_frK2 r)), (3, some (.ro 2 l.length (Lst eS l))), (1007, some (keepslaw_frK4 t)), (1008, some (keepslaw_frK5 r))]⟩
        [] (by kernel_rfl) trivial ?_
       have h73 : (decide ((lsE l) ≠ 0)) = false := by exact decide_eq_false (by omega)
       refine aw_cond (b := decide ((lsE l) ≠ 0)) rfl (fun h => Bool.noConfusion (h73.symm.trans h)) (fun _ => ?_)
       refine aw_skip ?_
       refine aw_seq ?_
       obtain ⟨hls, hl20⟩ := lsE_0 (l := l) (by omega)
       refine aw_r [(4, .call [1, 2, 3] (.tup [.one (.i ((keepsV (openV t r y) l).at_)), .one (.i ((keepsV (openV t r y) l).rule))]) [])]
        ⟨161, [1, 2, 3], [(10, .i ((keepsR t r y l).at_)), (11, .i ((keepsR t r y l).rule)), (12, .i (keepsE t r y l)), (19, .i ((keepsV (openV t r y) l).at_)), (20, .i ((keepsV (openV t r y) l).rule))], []⟩
        [CallOK Try.prog 48 [.agg [.i t.year, .i t.glo, .i t.ghi, .i t.wlo, .i t.whi, .i t.health, .ls 1], .agg [.i r.slo, .i r.shi, .i r.ulo, .i r.uhi, .i r.hlo, .i r.hhi, .i r.apart, .i r.blo, .i r.bhi, .ls 2, .i r.n0, .i r.n1, .i r.n2, .i r.n3, .i r.n4, .i r.opn], .i y, .ls 3] [1, 2, 3] [some (keepslaw_frK1 t), some (keepslaw_frK2 r), some (.ro 2 l.length (Lst eS l))] (.tup [.one (.i ((keepsV (openV t r y) l).at_)), .one (.i ((keepsV (openV t r y) l).rule))]) []] (by kernel_rfl) (al1 (CallFr.to (refKeeps_fr t r y (by first | omega | (simp; done) | assumption) (by first | omega | (simp; done) | assumption) l (by assumption) (by assumption) (by omega)) [(1, 1), (2, 2), (3, 3)] (by kernel_rfl) (by kernel_rfl) (by kernel_rfl) (by kernel_rfl) (by kernel_rfl) (dem_cons rfl (le_ro rfl el_rfl) (dem_cons rfl (le_ro rfl el_rfl) (dem_cons rfl (le_ro rfl el_rfl) dem_nil))))) ?_
       refine aw_seq ?_
       have h74 : (decide ((keepsE t r y l) = 0)) = true := by exact decide_eq_true ((keepsE_2 (by omega)).trans (by omega))
       have h75 : (decide ((keepsR t r y l).at_ = (keepsV (openV t r y) l).at_)) = true := by exact decide_eq_true (by rw [keepsR_ok ((keepsE_2 (by omega)).trans (by omega))])
       have h76 : (decide ((keepsR t r y l).rule = (keepsV (openV t r y) l).rule)) = true := by exact decide_eq_true (by rw [keepsR_ok ((keepsE_2 (by omega)).trans (by omega))])
       refine aw_r [(2, .dec true), (7, .dec true), (12, .dec true), (13, .call [] (.b true) [])]
        ⟨161, [1, 2, 3], [(6, .b true)], []⟩
        [decide ((keepsE t r y l) = 0) = true, decide ((keepsR t r y l).at_ = (keepsV (openV t r y) l).at_) = true, decide ((keepsR t r y l).rule = (keepsV (openV t r y) l).rule) = true, CallOK Try.prog 14 [] [] [] (.b true) []] (by kernel_rfl) (al2 h74 (al2 h75 (al2 h76 (al1 (CallFr.to (known_fr ) [] (by kernel_rfl) (by kernel_rfl) (by kernel_rfl) (by kernel_rfl) (by kernel_rfl) dem_nil))))) ?_
       exact aw_ret ⟨.inr rfl, end_ok ⟨161, [1, 2, 3], [(6, .b true)], []⟩
           (Ent.ren [] rfl rfl (by kernel_rfl) ⟨rfl, trivial⟩ trivial (by kernel_rfl)) rfl (by kernel_rfl) wr_nil (by kernel_rfl)⟩
      ·
       have h72p : (startE t r y) ≠ 0 := deq h72
       refine aw_skip ?_
       refine aw_seq ?_
       refine aw_seq ?_
       refine aw_r []
        ⟨161, [1, 2, 3], [(1, .i y), (2, .ls 3), (7, .l (.ref 1007 0)), (8, .l (.ref 1008 0)), (10, .i ((keepsR t r y l).at_)), (11, .i ((keepsR t r y l).rule)), (12, .i (keepsE t r y l)), (16, .i (startE t r y)), (123, .b (decide ((startE t r y) ≠ 0)))], [(1, some (keepslaw_frK1 t)), (2, some (keepslaw_frK2 r)), (3, some (.ro 2 l.length (Lst eS l))), (1007, some (keepslaw_frK4 t)), (1008, some (keepslaw_frK5 r))]⟩
        [] (by kernel_rfl) trivial ?_
       have h77 : (decide ((startE t r y) ≠ 0)) = true := by exact decide_eq_true (by assumption)
       refine aw_cond (b := decide ((startE t r y) ≠ 0)) rfl (fun _ => ?_) (fun h => Bool.noConfusion (h77.symm.trans h))
       refine aw_seq ?_
       have h78 : (decide ((keepsE t r y l) = (startE t r y))) = true := by exact decide_eq_true (keepsE_1 (by assumption))
       have h79 : (decide ((keepsR t r y l).at_ = 0)) = true := by exact decide_eq_true (by rw [keepsR_bad (by first | (rw [keepsE_1 (by assumption)]; assumption) | (rw [keepsE_2 (by omega)]; omega))])
       have h80 : (decide ((keepsR t r y l).rule = 0)) = true := by exact decide_eq_true (by rw [keepsR_bad (by first | (rw [keepsE_1 (by assumption)]; assumption) | (rw [keepsE_2 (by omega)]; omega))])
       refine aw_r [(3, .dec true), (7, .dec true), (11, .dec true), (12, .call [] (.b true) [])]
        ⟨161, [1, 2, 3], [(6, .b true)], []⟩
        [decide ((keepsE t r y l) = (startE t r y)) = true, decide ((keepsR t r y l).at_ = 0) = true, decide ((keepsR t r y l).rule = 0) = true, CallOK Try.prog 14 [] [] [] (.b true) []] (by kernel_rfl) (al2 h78 (al2 h79 (al2 h80 (al1 (CallFr.to (known_fr ) [] (by kernel_rfl) (by kernel_rfl) (by kernel_rfl) (by kernel_rfl) (by kernel_rfl) dem_nil))))) ?_
       exact aw_ret (ret_then ⟨.inr rfl, end_ok ⟨161, [1, 2, 3], [(6, .b true)], []⟩
           (Ent.ren [] rfl rfl (by kernel_rfl) ⟨rfl, trivial⟩ trivial (by kernel_rfl)) rfl (by kernel_rfl) wr_nil (by kernel_rfl)⟩)
end Go.Proofs.Ytbpblhmigijkaaa
