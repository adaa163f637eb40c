/- TrunkFree, walked. -/
import Derived.Test.YtbpblhmigijkaaaTw
import Derived.Test.YtbpblhmigijkaaaTaf
import Derived.Test.YtbpblhmigijkaaaTrm2
import Derived.Test.YtbpblhmigijkaaaTfp
import Derived.Test.YtbpblhmigijkaaaA31
namespace Go.Proofs.Ytbpblhmigijkaaa
open Go.RowKit
set_option linter.unusedVariables false
set_option linter.unusedSimpArgs false
def freelaw_frA1 (t : TreeV) : SV := .agg [.i t.year, .i t.glo, .i t.ghi, .i t.wlo, .i t.whi, .i t.health, .ls 1]
def freelaw_frA2 (r : RuleV) : SV := .agg [.i r.slo, .i r.shi, .i r.ulo, .i r.uhi, .i r.hlo, .i r.hhi, .i r.apart, .i r.blo, .i r.bhi, .ls 2, .i r.n0, .i r.n1, .i r.n2, .i r.n3, .i r.n4, .i r.opn]
def freelaw_frK3 (t : TreeV) : Cn := .ro 3 t.holes.length (Lst eH t.holes)
def freelaw_frK4 (r : RuleV) : Cn := .ro 2 r.sizes.length (Lst eZ r.sizes)
def freelaw_frK5 (t : TreeV) : Cn := .blk 26 [.i t.year, .i t.glo, .i t.ghi, .i t.wlo, .i t.whi, .i t.health, .ls 1]
def freelaw_frK6 (r : RuleV) : Cn := .blk 30 [.i r.slo, .i r.shi, .i r.ulo, .i r.uhi, .i r.hlo, .i r.hhi, .i r.apart, .i r.blo, .i r.bhi, .ls 2, .i r.n0, .i r.n1, .i r.n2, .i r.n3, .i r.n4, .i r.opn]
def freelaw_frH7 (t : TreeV) (r : RuleV) (a0 : Int) (a1 : Int) (a2 : Int) : List (Nat × Option Cn) := [(1, some (freelaw_frK3 t)), (2, some (freelaw_frK4 r)), (1003, some (freelaw_frK5 t)), (1004, some (freelaw_frK6 r)), (1005, some (.blk 51 [.i a0, .i a1, .i a2]))]
def freelaw_frA8 (t : TreeV) : SV := .agg [.i t.year, .i t.glo, .i t.ghi, .i t.wlo, .i t.whi, .i t.health, .ls 10220]
def freelaw_frK9 (t : TreeV) : Cn := .vec 74 3 ((t.holes).length) (Lst eH t.holes)
def freelaw_frA10 (r : RuleV) : SV := .agg [.i r.slo, .i r.shi, .i r.ulo, .i r.uhi, .i r.hlo, .i r.hhi, .i r.apart, .i r.blo, .i r.bhi, .ls 10240, .i r.n0, .i r.n1, .i r.n2, .i r.n3, .i r.n4, .i r.opn]
def freelaw_frK11 (r : RuleV) : Cn := .vec 45 2 ((r.sizes).length) (Lst eZ r.sizes)
def freelaw_frK12 (t : TreeV) (r : RuleV) (a0 : Int) (a1 : Int) : Cn := .vec 23 2 ((freeR t r a0 a1).length) (Lst eG (freeR t r a0 a1))
def freelaw_frH13 (t : TreeV) (r : RuleV) (a0 : Int) (a1 : Int) (a2 : Int) : List (Nat × Option Cn) := [(1, some (freelaw_frK3 t)), (2, some (freelaw_frK4 r)), (1003, some (freelaw_frK5 t)), (1004, some (freelaw_frK6 r)), (1005, some (.blk 51 [.i a0, .i a1, .i a2])), (10290, some (freelaw_frK12 t r a0 a1))]
def freelaw_frA14 (t : TreeV) : SV := .agg [.i t.year, .i t.glo, .i t.ghi, .i t.wlo, .i t.whi, .i t.health, .ls 10340]
def freelaw_frA15 (r : RuleV) : SV := .agg [.i r.slo, .i r.shi, .i r.ulo, .i r.uhi, .i r.hlo, .i r.hhi, .i r.apart, .i r.blo, .i r.bhi, .ls 10360, .i r.n0, .i r.n1, .i r.n2, .i r.n3, .i r.n4, .i r.opn]
def freelaw_frA16 (t : TreeV) : SV := .agg [.i t.year, .i t.glo, .i t.ghi, .i t.wlo, .i t.whi, .i t.health, .ls 10460]
def freelaw_frA17 (r : RuleV) : SV := .agg [.i r.slo, .i r.shi, .i r.ulo, .i r.uhi, .i r.hlo, .i r.hhi, .i r.apart, .i r.blo, .i r.bhi, .ls 10480, .i r.n0, .i r.n1, .i r.n2, .i r.n3, .i r.n4, .i r.opn]
def freelaw_frK18 (t : TreeV) (r : RuleV) (a0 : Int) (a1 : Int) (a2 : Int) : Cn := .vec 72 2 ((spotsR t r a0 a1 a2).length) (Lst eS (spotsR t r a0 a1 a2))
def freelaw_frH19 (t : TreeV) (r : RuleV) (a0 : Int) (a1 : Int) (a2 : Int) : List (Nat × Option Cn) := [(1, some (freelaw_frK3 t)), (2, some (freelaw_frK4 r)), (1003, some (freelaw_frK5 t)), (1004, some (freelaw_frK6 r)), (1005, some (.blk 51 [.i a0, .i a1, .i a2])), (10290, some (freelaw_frK12 t r a0 a1)), (10550, some (freelaw_frK18 t r a0 a1 a2))]
def freelaw_frK20 (t : TreeV) (r : RuleV) (a0 : Int) (a1 : Int) : Cn := .vec 23 2 ((freeV (openV t r a0) a1).length) (Lst eG (freeV (openV t r a0) a1))
def freelaw_frH21 (t : TreeV) (r : RuleV) (a0 : Int) (a1 : Int) (a2 : Int) : List (Nat × Option Cn) := [(1, some (freelaw_frK3 t)), (2, some (freelaw_frK4 r)), (1003, some (freelaw_frK5 t)), (1004, some (freelaw_frK6 r)), (1005, some (.blk 51 [.i a0, .i a1, .i a2])), (10290, some (freelaw_frK20 t r a0 a1)), (10550, some (freelaw_frK18 t r a0 a1 a2))]
def freelaw_frH22 (t : TreeV) (r : RuleV) (a0 : Int) (a1 : Int) (a2 : Int) : List (Nat × Option Cn) := [(1, some (freelaw_frK3 t)), (2, some (freelaw_frK4 r)), (1003, some (freelaw_frK5 t)), (1004, some (freelaw_frK6 r)), (1005, some (.blk 51 [.i a0, .i a1, .i a2])), (10550, some (freelaw_frK18 t r a0 a1 a2))]
def freelaw_frK23 (t : TreeV) (r : RuleV) (a0 : Int) (a1 : Int) (a2 : Int) : Cn := .vec 72 2 ((spotsL (openV t r a0) a1 a2).length) (Lst eS (spotsL (openV t r a0) a1 a2))
def freelaw_frH24 (t : TreeV) (r : RuleV) (a0 : Int) (a1 : Int) (a2 : Int) : List (Nat × Option Cn) := [(10550, some (freelaw_frK18 t r a0 a1 a2)), (11610, some (freelaw_frK23 t r a0 a1 a2))]
def freelaw_frH25 (t : TreeV) (r : RuleV) (a0 : Int) (a1 : Int) (a2 : Int) : List (Nat × Option Cn) := [(10550, some (freelaw_frK23 t r a0 a1 a2)), (11610, some (freelaw_frK23 t r a0 a1 a2))]
set_option maxHeartbeats 8000000 in
set_option maxRecDepth 100000 in
theorem freelaw_fr (t : TreeV) (r : RuleV) (a0 a1 a2 : Int) (ht : t.holes.length ≤ 9223372036854775807) (hr : r.sizes.length ≤ 9223372036854775807) : CallFr Try.prog 4 [(freelaw_frA1 t), (freelaw_frA2 r), .agg [.i a0, .i a1, .i a2]] [1, 2] [some (.ro 3 t.holes.length (Lst eH t.holes)), some (.ro 2 r.sizes.length (Lst eZ r.sizes))] (.b true) [] := by
 refine callFr_of (fn := Try.f4) (by kernel_rfl) rfl (by kernel_rfl) (by kernel_rfl) fun E => ?_
 refine aw_ent (T := ⟨186, [1, 2], [(0, (freelaw_frA1 t)), (1, (freelaw_frA2 r)), (2, .agg [.i a0, .i a1, .i a2])], [(1, some (freelaw_frK3 t)), (2, some (freelaw_frK4 r))]⟩) (Ent.refl _) ?_
 apply aw_seq
 refine awr [(0, .new 1003), (1, .new 1004), (2, .new 1005)]
  ⟨186, [1, 2], [(3, .l (.ref 1003 0)), (4, .l (.ref 1004 0)), (5, .l (.ref 1005 0))], (freelaw_frH7 t r a0 a1 a2)⟩
  [] trivial ?_
 apply aw_seq
 apply aw_seq
 refine awr [(2, .call [1, 2] (.b (largeB t r)) [])]
  ⟨186, [1, 2], [(3, .l (.ref 1003 0)), (4, .l (.ref 1004 0)), (5, .l (.ref 1005 0)), (18, .b (largeB t r))], (freelaw_frH7 t r a0 a1 a2)⟩
  [CallOK Try.prog 13 [(freelaw_frA1 t), (freelaw_frA2 r)] [1, 2] [some (freelaw_frK3 t), some (freelaw_frK4 r)] (.b (largeB t r)) []] (al1 (cfr (large_fr t r (by first | omega | (simp; done) | assumption) (by first | omega | (simp; done) | assumption)) [(1, 1), (2, 2)] (dem_cons rfl (le_ro rfl el_rfl) (dem_cons rfl (le_ro rfl el_rfl) dem_nil)))) ?_
 refine aw_cond (b := (largeB t r)) rfl (fun h1 => ?_) (fun h1 => ?_)
 ·
  apply aw_seq
  refine awr [(0, .call [] (.b true) [])]
   ⟨186, [1, 2], [(6, .b true)], []⟩
   [CallOK Try.prog 14 [] [] [] (.b true) []] (al1 (cfr (known_fr ) [] dem_nil)) ?_
  exact aw_ret (ret_then ⟨.inr rfl, eok ⟨186, [1, 2], [(6, .b true)], []⟩
      (enr [] ⟨rfl, trivial⟩ trivial) wr_nil⟩)
 ·
  apply aw_skip
  apply aw_seq
  have hsz := large_no (by assumption)
  refine awd [(1, .call [1] ((freelaw_frA8 t)) [(10220, some (freelaw_frK9 t))]), (3, .call [2] ((freelaw_frA10 r)) [(10240, some (freelaw_frK11 r))]), (4, .idx 0), (6, .idx 1), (8, .call [10220, 10240] (.tup [.one (.ls 10290), .one (.i (atE t r a0 a1))]) [(10290, some (freelaw_frK12 t r a0 a1))])]
   ⟨186, [1, 2], [(3, .l (.ref 1003 0)), (4, .l (.ref 1004 0)), (5, .l (.ref 1005 0)), (7, .ls 10290), (8, .i (atE t r a0 a1))], (freelaw_frH13 t r a0 a1 a2)⟩
   [CallOK Try.prog 15 [(freelaw_frA1 t)] [1] [some (freelaw_frK3 t)] ((freelaw_frA8 t)) [(10220, some (freelaw_frK9 t))], CallOK Try.prog 16 [(freelaw_frA2 r)] [2] [some (freelaw_frK4 r)] ((freelaw_frA10 r)) [(10240, some (freelaw_frK11 r))], 0 = ((0 : Nat) : Int), 1 = ((1 : Nat) : Int), CallOK Try.prog 28 [(freelaw_frA8 t), (freelaw_frA10 r), .i a0, .i a1] [10220, 10240] [some (freelaw_frK9 t), some (freelaw_frK11 r)] (.tup [.one (.ls 10290), .one (.i (atE t r a0 a1))]) [(10290, some (freelaw_frK12 t r a0 a1))]] (al2 (cfr (own_fr t (by first | omega | (simp; done) | assumption)) [(1, 1), (2, 10220)] (dem_cons rfl (le_ro rfl el_rfl) dem_nil)) (al2 (cfr (tapsc_fr r (by first | omega | (simp; done) | assumption)) [(1, 2), (2, 10240)] (dem_cons rfl (le_ro rfl el_rfl) dem_nil)) (al2 (by omega) (al2 (by omega) (al1 (cfr (Free_fr t r a0 a1 (by first | omega | (simp; done) | assumption) (by first | omega | (simp; done) | assumption)) [(1, 10220), (2, 10240), (3, 10290)] (dem_cons rfl (le_vec_ro rfl el_rfl) (dem_cons rfl (le_vec_ro rfl el_rfl) dem_nil)))))))) ?_
  apply aw_seq
  refine awd [(1, .call [1] ((freelaw_frA14 t)) [(10340, some (freelaw_frK9 t))]), (3, .call [2] ((freelaw_frA15 r)) [(10360, some (freelaw_frK11 r))]), (4, .idx 0), (6, .idx 1), (8, .call [10340, 10360] (.tup [.one (.i (mostR t r a0 a1)), .one (.i (atE t r a0 a1))]) [])]
   ⟨186, [1, 2], [(3, .l (.ref 1003 0)), (4, .l (.ref 1004 0)), (5, .l (.ref 1005 0)), (7, .ls 10290), (8, .i (atE t r a0 a1)), (9, .i (mostR t r a0 a1)), (10, .i (atE t r a0 a1))], (freelaw_frH13 t r a0 a1 a2)⟩
   [CallOK Try.prog 15 [(freelaw_frA1 t)] [1] [some (freelaw_frK3 t)] ((freelaw_frA14 t)) [(10340, some (freelaw_frK9 t))], CallOK Try.prog 16 [(freelaw_frA2 r)] [2] [some (freelaw_frK4 r)] ((freelaw_frA15 r)) [(10360, some (freelaw_frK11 r))], 0 = ((0 : Nat) : Int), 1 = ((1 : Nat) : Int), CallOK Try.prog 29 [(freelaw_frA14 t), (freelaw_frA15 r), .i a0, .i a1] [10340, 10360] [some (freelaw_frK9 t), some (freelaw_frK11 r)] (.tup [.one (.i (mostR t r a0 a1)), .one (.i (atE t r a0 a1))]) []] (al2 (cfr (own_fr t (by first | omega | (simp; done) | assumption)) [(1, 1), (2, 10340)] (dem_cons rfl (le_ro rfl el_rfl) dem_nil)) (al2 (cfr (tapsc_fr r (by first | omega | (simp; done) | assumption)) [(1, 2), (2, 10360)] (dem_cons rfl (le_ro rfl el_rfl) dem_nil)) (al2 (by omega) (al2 (by omega) (al1 (cfr (Most_fr t r a0 a1 (by first | omega | (simp; done) | assumption) (by first | omega | (simp; done) | assumption)) [(1, 10340), (2, 10360)] (dem_cons rfl (le_vec_ro rfl el_rfl) (dem_cons rfl (le_vec_ro rfl el_rfl) dem_nil)))))))) ?_
  apply aw_seq
  refine awd [(1, .call [1] ((freelaw_frA16 t)) [(10460, some (freelaw_frK9 t))]), (3, .call [2] ((freelaw_frA17 r)) [(10480, some (freelaw_frK11 r))]), (4, .idx 0), (6, .idx 1), (8, .idx 2), (10, .call [10460, 10480] (.tup [.one (.ls 10550), .one (.i (spotsE t r a0 a1 a2))]) [(10550, some (freelaw_frK18 t r a0 a1 a2))])]
   ⟨186, [1, 2], [(3, .l (.ref 1003 0)), (4, .l (.ref 1004 0)), (5, .l (.ref 1005 0)), (7, .ls 10290), (8, .i (atE t r a0 a1)), (9, .i (mostR t r a0 a1)), (10, .i (atE t r a0 a1)), (11, .ls 10550), (12, .i (spotsE t r a0 a1 a2))], (freelaw_frH19 t r a0 a1 a2)⟩
   [CallOK Try.prog 15 [(freelaw_frA1 t)] [1] [some (freelaw_frK3 t)] ((freelaw_frA16 t)) [(10460, some (freelaw_frK9 t))], CallOK Try.prog 16 [(freelaw_frA2 r)] [2] [some (freelaw_frK4 r)] ((freelaw_frA17 r)) [(10480, some (freelaw_frK11 r))], 0 = ((0 : Nat) : Int), 1 = ((1 : Nat) : Int), 2 = ((2 : Nat) : Int), CallOK Try.prog 30 [(freelaw_frA16 t), (freelaw_frA17 r), .i a0, .i a1, .i a2] [10460, 10480] [some (freelaw_frK9 t), some (freelaw_frK11 r)] (.tup [.one (.ls 10550), .one (.i (spotsE t r a0 a1 a2))]) [(10550, some (freelaw_frK18 t r a0 a1 a2))]] (al2 (cfr (own_fr t (by first | omega | (simp; done) | assumption)) [(1, 1), (2, 10460)] (dem_cons rfl (le_ro rfl el_rfl) dem_nil)) (al2 (cfr (tapsc_fr r (by first | omega | (simp; done) | assumption)) [(1, 2), (2, 10480)] (dem_cons rfl (le_ro rfl el_rfl) dem_nil)) (al2 (by omega) (al2 (by omega) (al2 (by omega) (al1 (cfr (Spots_fr t r a0 a1 a2 (by first | omega | (simp; done) | assumption) (by first | omega | (simp; done) | assumption)) [(1, 10460), (2, 10480), (3, 10550)] (dem_cons rfl (le_vec_ro rfl el_rfl) (dem_cons rfl (le_vec_ro rfl el_rfl) dem_nil))))))))) ?_
  apply aw_seq
  refine awr [(2, .idx 0), (4, .call [1, 2] (.i (startE t r a0)) [])]
   ⟨186, [1, 2], [(3, .l (.ref 1003 0)), (4, .l (.ref 1004 0)), (5, .l (.ref 1005 0)), (7, .ls 10290), (8, .i (atE t r a0 a1)), (9, .i (mostR t r a0 a1)), (10, .i (atE t r a0 a1)), (11, .ls 10550), (12, .i (spotsE t r a0 a1 a2)), (13, .i (startE t r a0))], (freelaw_frH19 t r a0 a1 a2)⟩
   [0 = ((0 : Nat) : Int), CallOK Try.prog 24 [(freelaw_frA1 t), (freelaw_frA2 r), .i a0] [1, 2] [some (freelaw_frK3 t), some (freelaw_frK4 r)] (.i (startE t r a0)) []] (al2 (by omega) (al1 (cfr (refStart_fr t r a0 (by first | omega | (simp; done) | assumption) (by first | omega | (simp; done) | assumption)) [(1, 1), (2, 2)] (dem_cons rfl (le_ro rfl el_rfl) (dem_cons rfl (le_ro rfl el_rfl) dem_nil))))) ?_
  refine aw_seqJ ⟨186, [1, 2], [(3, .l (.ref 1003 0)), (4, .l (.ref 1004 0)), (5, .l (.ref 1005 0)), (7, .ls 10290), (8, .i (atE t r a0 a1)), (9, .i (mostR t r a0 a1)), (10, .i (atE t r a0 a1)), (11, .ls 10550), (12, .i (spotsE t r a0 a1 a2)), (13, .i (atE t r a0 a1))], (freelaw_frH19 t r a0 a1 a2)⟩ ?_ ?_
  ·
   apply aw_seq
   rcases Bool.eq_false_or_eq_true (decide ((startE t r a0) = 0)) with h2 | h2
   ·
    have h2p : (startE t r a0) = 0 := dtr h2
    rcases Bool.eq_false_or_eq_true (decide (a1 < 0)) with h3 | h3
    ·
     have h3p : a1 < 0 := dtr h3
     refine awr [(2, .dec true), (3, .idx 1), (6, .dec true)]
      ⟨186, [1, 2], [(3, .l (.ref 1003 0)), (4, .l (.ref 1004 0)), (5, .l (.ref 1005 0)), (7, .ls 10290), (8, .i (atE t r a0 a1)), (9, .i (mostR t r a0 a1)), (10, .i (atE t r a0 a1)), (11, .ls 10550), (12, .i (spotsE t r a0 a1 a2)), (13, .i (startE t r a0)), (74, .b true)], (freelaw_frH19 t r a0 a1 a2)⟩
      [decide ((startE t r a0) = 0) = true, 1 = ((1 : Nat) : Int), decide (a1 < 0) = true] (al2 h2 (al2 (by omega) (al1 h3))) ?_
     refine aw_true rfl ?_
     refine awr []
      ⟨186, [1, 2], [(3, .l (.ref 1003 0)), (4, .l (.ref 1004 0)), (5, .l (.ref 1005 0)), (7, .ls 10290), (8, .i (atE t r a0 a1)), (9, .i (mostR t r a0 a1)), (10, .i (atE t r a0 a1)), (11, .ls 10550), (12, .i (spotsE t r a0 a1 a2)), (13, .i 3)], (freelaw_frH19 t r a0 a1 a2)⟩
      [] trivial ?_
     exact (enr [] ⟨rfl, rfl, rfl, rfl, rfl, rfl, rfl, rfl, rfl, (slot_i rfl (by first | rfl | omega | assumption | (exact (want_no (by assumption)).symm) | (exact (want_out (by assumption) (by omega)).symm) | (exact (want_in (by assumption) (by omega)).symm) | ((rw [want_in (by assumption) (by omega)]; assumption)))), trivial⟩ (cro rfl (cro rfl (cbl rfl rfl (cbl rfl rfl (cbl rfl rfl (cve rfl (cve rfl trivial))))))))
    ·
     have h3p : 0 ≤ a1 := dlt h3
     refine awr [(2, .dec true), (3, .idx 1), (6, .dec false), (7, .idx 1)]
      ⟨186, [1, 2], [(3, .l (.ref 1003 0)), (4, .l (.ref 1004 0)), (5, .l (.ref 1005 0)), (7, .ls 10290), (8, .i (atE t r a0 a1)), (9, .i (mostR t r a0 a1)), (10, .i (atE t r a0 a1)), (11, .ls 10550), (12, .i (spotsE t r a0 a1 a2)), (13, .i (startE t r a0)), (74, .b (decide (5000 < a1)))], (freelaw_frH19 t r a0 a1 a2)⟩
      [decide ((startE t r a0) = 0) = true, 1 = ((1 : Nat) : Int), decide (a1 < 0) = false, 1 = ((1 : Nat) : Int)] (al2 h2 (al2 (by omega) (al2 h3 (al1 (by omega))))) ?_
     refine aw_cond (b := decide (5000 < a1)) rfl (fun h4 => ?_) (fun h4 => ?_)
     ·
      have h4p : 5000 < a1 := dtr h4
      refine awr []
       ⟨186, [1, 2], [(3, .l (.ref 1003 0)), (4, .l (.ref 1004 0)), (5, .l (.ref 1005 0)), (7, .ls 10290), (8, .i (atE t r a0 a1)), (9, .i (mostR t r a0 a1)), (10, .i (atE t r a0 a1)), (11, .ls 10550), (12, .i (spotsE t r a0 a1 a2)), (13, .i 3)], (freelaw_frH19 t r a0 a1 a2)⟩
       [] trivial ?_
      exact (enr [] ⟨rfl, rfl, rfl, rfl, rfl, rfl, rfl, rfl, rfl, (slot_i rfl (by first | rfl | omega | assumption | (exact (want_no (by assumption)).symm) | (exact (want_out (by assumption) (by omega)).symm) | (exact (want_in (by assumption) (by omega)).symm) | ((rw [want_in (by assumption) (by omega)]; assumption)))), trivial⟩ (cro rfl (cro rfl (cbl rfl rfl (cbl rfl rfl (cbl rfl rfl (cve rfl (cve rfl trivial))))))))
     ·
      have h4p : a1 ≤ 5000 := dlt h4
      apply aw_skip
      exact (enr [] ⟨rfl, rfl, rfl, rfl, rfl, rfl, rfl, rfl, rfl, (slot_i rfl (by first | rfl | omega | assumption | (exact (want_no (by assumption)).symm) | (exact (want_out (by assumption) (by omega)).symm) | (exact (want_in (by assumption) (by omega)).symm) | ((rw [want_in (by assumption) (by omega)]; assumption)))), trivial⟩ (cro rfl (cro rfl (cbl rfl rfl (cbl rfl rfl (cbl rfl rfl (cve rfl (cve rfl trivial))))))))
   ·
    have h2p : (startE t r a0) ≠ 0 := deq h2
    refine awr [(2, .dec false)]
     ⟨186, [1, 2], [(3, .l (.ref 1003 0)), (4, .l (.ref 1004 0)), (5, .l (.ref 1005 0)), (7, .ls 10290), (8, .i (atE t r a0 a1)), (9, .i (mostR t r a0 a1)), (10, .i (atE t r a0 a1)), (11, .ls 10550), (12, .i (spotsE t r a0 a1 a2)), (13, .i (startE t r a0)), (74, .b false)], (freelaw_frH19 t r a0 a1 a2)⟩
     [decide ((startE t r a0) = 0) = false] (al1 h2) ?_
    refine aw_false rfl ?_
    apply aw_skip
    exact (enr [] ⟨rfl, rfl, rfl, rfl, rfl, rfl, rfl, rfl, rfl, (slot_i rfl (by first | rfl | omega | assumption | (exact (want_no (by assumption)).symm) | (exact (want_out (by assumption) (by omega)).symm) | (exact (want_in (by assumption) (by omega)).symm) | ((rw [want_in (by assumption) (by omega)]; assumption)))), trivial⟩ (cro rfl (cro rfl (cbl rfl rfl (cbl rfl rfl (cbl rfl rfl (cve rfl (cve rfl trivial))))))))
  ·
   apply aw_seq
   apply aw_seq
   refine awr []
    ⟨186, [1, 2], [(3, .l (.ref 1003 0)), (4, .l (.ref 1004 0)), (5, .l (.ref 1005 0)), (7, .ls 10290), (8, .i (atE t r a0 a1)), (9, .i (mostR t r a0 a1)), (10, .i (atE t r a0 a1)), (11, .ls 10550), (12, .i (spotsE t r a0 a1 a2)), (13, .i (atE t r a0 a1)), (76, .b (decide ((atE t r a0 a1) ≠ 0)))], (freelaw_frH19 t r a0 a1 a2)⟩
    [] trivial ?_
   refine aw_cond (b := decide ((atE t r a0 a1) ≠ 0)) rfl (fun h5 => ?_) (fun h5 => ?_)
   ·
    have h5p : (atE t r a0 a1) ≠ 0 := dtr h5
    apply aw_seq
    have hbad := free_bad (m := a2) (show atE t r a0 a1 ≠ 0 by simpa using (by assumption : decide (atE t r a0 a1 ≠ 0) = true))
    have hb1 : (freeR t r a0 a1).length = 0 := by rw [hbad.1]; rfl
    have hb2 : (spotsR t r a0 a1 a2).length = 0 := by rw [hbad.2.2.2]; rfl
    have h6 : (decide ((atE t r a0 a1) = (atE t r a0 a1))) = true := by simp
    have h7 : (decide ((spotsE t r a0 a1 a2) = (atE t r a0 a1))) = true := by exact decide_eq_true hbad.2.2.1
    have h8 : (decide ((mostR t r a0 a1) = 0)) = true := by exact decide_eq_true hbad.2.1
    have h9 : (decide (((((freeR t r a0 a1).length + (spotsR t r a0 a1 a2).length) : Nat) : Int) = 0)) = true := by exact decide_eq_true (by rw [hbad.1, hbad.2.2.2]; rfl)
    refine awr [(3, .dec true), (8, .dec true), (13, .dec true), (17, .dec true), (22, .num ((((freeR t r a0 a1).length + (spotsR t r a0 a1 a2).length) : Nat) : Int)), (25, .dec true), (26, .call [] (.b true) [])]
     ⟨186, [1, 2], [(6, .b true)], []⟩
     [decide ((atE t r a0 a1) = (atE t r a0 a1)) = true, decide ((atE t r a0 a1) = (atE t r a0 a1)) = true, decide ((spotsE t r a0 a1 a2) = (atE t r a0 a1)) = true, decide ((mostR t r a0 a1) = 0) = true, ((((freeR t r a0 a1).length : Nat) : Int) + (((spotsR t r a0 a1 a2).length : Nat) : Int)) = ((((freeR t r a0 a1).length + (spotsR t r a0 a1 a2).length) : Nat) : Int), -9223372036854775808 ≤ ((((freeR t r a0 a1).length + (spotsR t r a0 a1 a2).length) : Nat) : Int) ∧ ((((freeR t r a0 a1).length + (spotsR t r a0 a1 a2).length) : Nat) : Int) < 9223372036854775808, decide (((((freeR t r a0 a1).length + (spotsR t r a0 a1 a2).length) : Nat) : Int) = 0) = true, CallOK Try.prog 14 [] [] [] (.b true) []] (al2 h6 (al2 h6 (al2 h7 (al2 h8 (al2 (by omega) (al2 (by omega) (al2 h9 (al1 (cfr (known_fr ) [] dem_nil))))))))) ?_
    exact aw_ret (ret_then ⟨.inr rfl, eok ⟨186, [1, 2], [(6, .b true)], []⟩
        (enr [] ⟨rfl, trivial⟩ trivial) wr_nil⟩)
   ·
    have h5p : (atE t r a0 a1) = 0 := dne h5
    apply aw_skip
    apply aw_seq
    apply aw_seq
    have hat : atE t r a0 a1 = 0 := by simpa using (by assumption : decide (atE t r a0 a1 ≠ 0) = false)
    obtain ⟨h0, he⟩ := atE_in hat
    have hgo := free_good hat
    have hx0 := open_ok h0
    have hfl := (free_ok hx0 a1).len
    refine aw_ent (T := ⟨186, [1, 2], [(3, .l (.ref 1003 0)), (4, .l (.ref 1004 0)), (5, .l (.ref 1005 0)), (7, .ls 10290), (8, .i (atE t r a0 a1)), (9, .i (mostV (nextV (openV t r a0) a1) (gapV (openV t r a0)))), (10, .i (atE t r a0 a1)), (11, .ls 10550), (12, .i (spotsE t r a0 a1 a2)), (13, .i (atE t r a0 a1)), (76, .b (decide ((atE t r a0 a1) ≠ 0)))], (freelaw_frH21 t r a0 a1 a2)⟩)
        (enr [] ⟨rfl, rfl, rfl, rfl, rfl, (slot_i rfl (by first | rfl | omega | assumption | (rw [hgo.1]) | (exact hgo.2))), rfl, rfl, rfl, rfl, rfl, trivial⟩ (cro rfl (cro rfl (cbl rfl rfl (cbl rfl rfl (cbl rfl rfl (conts_cons rfl (le_vec (by first | rfl | omega | assumption | (rw [hgo.1]) | (exact hgo.2)) (lst_eq (by first | rfl | omega | assumption | (rw [hgo.1]) | (exact hgo.2)))) (cve rfl trivial)))))))) ?_
    refine awr [(2, .dec false), (6, .dec false), (10, .idx 0), (12, .idx 1), (14, .call [1, 2] (.ls 11190) [(11190, some (freelaw_frK20 t r a0 a1))]), (15, .call [10290, 11190] (.b true) []), (22, .idx 0), (24, .idx 1), (26, .call [1, 2] (.i (mostV (nextV (openV t r a0) a1) (gapV (openV t r a0)))) [])]
     ⟨186, [1, 2], [(3, .l (.ref 1003 0)), (4, .l (.ref 1004 0)), (5, .l (.ref 1005 0)), (11, .ls 10550), (12, .i (spotsE t r a0 a1 a2)), (133, .b (decide ((mostV (nextV (openV t r a0) a1) (gapV (openV t r a0))) ≠ (mostV (nextV (openV t r a0) a1) (gapV (openV t r a0))))))], (freelaw_frH22 t r a0 a1 a2)⟩
     [decide ((atE t r a0 a1) ≠ 0) = false, decide ((atE t r a0 a1) ≠ 0) = false, 0 = ((0 : Nat) : Int), 1 = ((1 : Nat) : Int), CallOK Try.prog 32 [(freelaw_frA1 t), (freelaw_frA2 r), .i a0, .i a1] [1, 2] [some (freelaw_frK3 t), some (freelaw_frK4 r)] (.ls 11190) [(11190, some (freelaw_frK20 t r a0 a1))], CallOK Try.prog 31 [.ls 10290, .ls 11190] [10290, 11190] [some (freelaw_frK20 t r a0 a1), some (freelaw_frK20 t r a0 a1)] (.b true) [], 0 = ((0 : Nat) : Int), 1 = ((1 : Nat) : Int), CallOK Try.prog 33 [(freelaw_frA1 t), (freelaw_frA2 r), .i a0, .i a1] [1, 2] [some (freelaw_frK3 t), some (freelaw_frK4 r)] (.i (mostV (nextV (openV t r a0) a1) (gapV (openV t r a0)))) []] (al2 h5 (al2 h5 (al2 (by omega) (al2 (by omega) (al2 (cfr (refFree_fr t r a0 (by first | omega | (simp; done) | assumption) (by first | omega | (simp; done) | assumption) a1 (by assumption) (by assumption)) [(1, 1), (2, 2), (9, 11190)] (dem_cons rfl (le_ro rfl el_rfl) (dem_cons rfl (le_ro rfl el_rfl) dem_nil))) (al2 (cfr (rangesS_fr (freeV (openV t r a0) a1) (by first | omega | (simp; done) | assumption)) [(1, 10290), (2, 11190)] (dem_cons rfl (le_vec_ro rfl el_rfl) (dem_cons rfl (le_vec_ro rfl el_rfl) dem_nil))) (al2 (by omega) (al2 (by omega) (al1 (cfr (refMost_fr t r a0 (by first | omega | (simp; done) | assumption) (by first | omega | (simp; done) | assumption) a1 (by assumption) (by omega)) [(1, 1), (2, 2)] (dem_cons rfl (le_ro rfl el_rfl) (dem_cons rfl (le_ro rfl el_rfl) dem_nil)))))))))))) ?_
    have h10 : (decide ((mostV (nextV (openV t r a0) a1) (gapV (openV t r a0))) ≠ (mostV (nextV (openV t r a0) a1) (gapV (openV t r a0))))) = false := by simp
    refine aw_cond (b := decide ((mostV (nextV (openV t r a0) a1) (gapV (openV t r a0))) ≠ (mostV (nextV (openV t r a0) a1) (gapV (openV t r a0))))) rfl (fun h => Bool.noConfusion (h10.symm.trans h)) (fun _ => ?_)
    apply aw_skip
    apply aw_seq
    apply aw_seq
    rcases Bool.eq_false_or_eq_true (decide (a2 < 0)) with h11 | h11
    ·
     have h11p : a2 < 0 := dtr h11
     refine awr [(0, .idx 2), (3, .dec true)]
      ⟨186, [1, 2], [(3, .l (.ref 1003 0)), (4, .l (.ref 1004 0)), (5, .l (.ref 1005 0)), (11, .ls 10550), (12, .i (spotsE t r a0 a1 a2)), (141, .b true)], (freelaw_frH22 t r a0 a1 a2)⟩
      [2 = ((2 : Nat) : Int), decide (a2 < 0) = true] (al2 (by omega) (al1 h11)) ?_
     refine aw_true rfl ?_
     apply aw_seq
     have hsp := spotsE_out (m := a2) hat (by omega)
     have h12 : (decide ((spotsE t r a0 a1 a2) = 3)) = true := by exact decide_eq_true hsp.1
     have h13 : (decide ((((spotsR t r a0 a1 a2).length : Nat) : Int) = 0)) = true := by exact decide_eq_true (by rw [hsp.2]; rfl)
     refine awr [(2, .dec true), (7, .dec true), (8, .call [] (.b true) [])]
      ⟨186, [1, 2], [(6, .b true)], []⟩
      [decide ((spotsE t r a0 a1 a2) = 3) = true, decide ((((spotsR t r a0 a1 a2).length : Nat) : Int) = 0) = true, CallOK Try.prog 14 [] [] [] (.b true) []] (al2 h12 (al2 h13 (al1 (cfr (known_fr ) [] dem_nil)))) ?_
     exact aw_ret (ret_then ⟨.inr rfl, eok ⟨186, [1, 2], [(6, .b true)], []⟩
         (enr [] ⟨rfl, trivial⟩ trivial) wr_nil⟩)
    ·
     have h11p : 0 ≤ a2 := dlt h11
     refine awr [(0, .idx 2), (3, .dec false), (4, .idx 2)]
      ⟨186, [1, 2], [(3, .l (.ref 1003 0)), (4, .l (.ref 1004 0)), (5, .l (.ref 1005 0)), (11, .ls 10550), (12, .i (spotsE t r a0 a1 a2)), (141, .b (decide (20 < a2)))], (freelaw_frH22 t r a0 a1 a2)⟩
      [2 = ((2 : Nat) : Int), decide (a2 < 0) = false, 2 = ((2 : Nat) : Int)] (al2 (by omega) (al2 h11 (al1 (by omega)))) ?_
     refine aw_cond (b := decide (20 < a2)) rfl (fun h14 => ?_) (fun h14 => ?_)
     ·
      have h14p : 20 < a2 := dtr h14
      apply aw_seq
      have hsp := spotsE_out (m := a2) hat (by omega)
      have h15 : (decide ((spotsE t r a0 a1 a2) = 3)) = true := by exact decide_eq_true hsp.1
      have h16 : (decide ((((spotsR t r a0 a1 a2).length : Nat) : Int) = 0)) = true := by exact decide_eq_true (by rw [hsp.2]; rfl)
      refine awr [(2, .dec true), (7, .dec true), (8, .call [] (.b true) [])]
       ⟨186, [1, 2], [(6, .b true)], []⟩
       [decide ((spotsE t r a0 a1 a2) = 3) = true, decide ((((spotsR t r a0 a1 a2).length : Nat) : Int) = 0) = true, CallOK Try.prog 14 [] [] [] (.b true) []] (al2 h15 (al2 h16 (al1 (cfr (known_fr ) [] dem_nil)))) ?_
      exact aw_ret (ret_then ⟨.inr rfl, eok ⟨186, [1, 2], [(6, .b true)], []⟩
          (enr [] ⟨rfl, trivial⟩ trivial) wr_nil⟩)
     ·
      have h14p : a2 ≤ 20 := dlt h14
      apply aw_skip
      apply aw_seq
      refine awr [(2, .idx 0), (4, .idx 1), (6, .idx 2), (8, .call [1, 2] (.tup [.one (.ls 11610), .one (.v (.bool ((anglesO (nextV (openV t r a0) a1) (gapV (openV t r a0)) a2).isSome)))]) [(11610, some (freelaw_frK23 t r a0 a1 a2))])]
       ⟨186, [1, 2], [(11, .ls 10550), (12, .i (spotsE t r a0 a1 a2)), (14, .ls 11610), (15, .b ((anglesO (nextV (openV t r a0) a1) (gapV (openV t r a0)) a2).isSome))], (freelaw_frH24 t r a0 a1 a2)⟩
       [0 = ((0 : Nat) : Int), 1 = ((1 : Nat) : Int), 2 = ((2 : Nat) : Int), CallOK Try.prog 34 [(freelaw_frA1 t), (freelaw_frA2 r), .i a0, .i a1, .i a2] [1, 2] [some (freelaw_frK3 t), some (freelaw_frK4 r)] (.tup [.one (.ls 11610), .one (.v (.bool ((anglesO (nextV (openV t r a0) a1) (gapV (openV t r a0)) a2).isSome)))]) [(11610, some (freelaw_frK23 t r a0 a1 a2))]] (al2 (by omega) (al2 (by omega) (al2 (by omega) (al1 (cfr (refRow_fr t r a0 (by first | omega | (simp; done) | assumption) (by first | omega | (simp; done) | assumption) a1 a2 (by assumption) (by omega) (by omega)) [(1, 1), (2, 2), (9, 11610)] (dem_cons rfl (le_ro rfl el_rfl) (dem_cons rfl (le_ro rfl el_rfl) dem_nil))))))) ?_
      apply aw_seq
      apply aw_seq
      refine awr []
       ⟨186, [1, 2], [(11, .ls 10550), (12, .i (spotsE t r a0 a1 a2)), (14, .ls 11610), (165, .b (!((anglesO (nextV (openV t r a0) a1) (gapV (openV t r a0)) a2).isSome)))], (freelaw_frH24 t r a0 a1 a2)⟩
       [] trivial ?_
      refine aw_cond (b := (!((anglesO (nextV (openV t r a0) a1) (gapV (openV t r a0)) a2).isSome))) rfl (fun h17 => ?_) (fun h17 => ?_)
      ·
       apply aw_seq
       have hsp := spotsE_no (m := a2) hat (by omega) (by simpa using (by assumption : (!(anglesO (nextV (openV t r a0) a1) (gapV (openV t r a0)) a2).isSome) = true))
       have h18 : (decide ((spotsE t r a0 a1 a2) = 7)) = true := by exact decide_eq_true hsp.1
       have h19 : (decide ((((spotsR t r a0 a1 a2).length : Nat) : Int) = 0)) = true := by exact decide_eq_true (by rw [hsp.2]; rfl)
       refine awr [(2, .dec true), (7, .dec true), (8, .call [] (.b true) [])]
        ⟨186, [1, 2], [(6, .b true)], []⟩
        [decide ((spotsE t r a0 a1 a2) = 7) = true, decide ((((spotsR t r a0 a1 a2).length : Nat) : Int) = 0) = true, CallOK Try.prog 14 [] [] [] (.b true) []] (al2 h18 (al2 h19 (al1 (cfr (known_fr ) [] dem_nil)))) ?_
       exact aw_ret (ret_then ⟨.inr rfl, eok ⟨186, [1, 2], [(6, .b true)], []⟩
           (enr [] ⟨rfl, trivial⟩ trivial) wr_nil⟩)
      ·
       apply aw_skip
       apply aw_seq
       have hsp := spotsE_yes (m := a2) hat (by omega) (by simpa using (by assumption : (!(anglesO (nextV (openV t r a0) a1) (gapV (openV t r a0)) a2).isSome) = false))
       have hsl : (spotsL (openV t r a0) a1 a2).length ≤ 1000 := by unfold spotsL; rw [List.length_map]; exact angO_len (by omega)
       refine aw_ent (T := ⟨186, [1, 2], [(11, .ls 10550), (12, .i (spotsE t r a0 a1 a2)), (14, .ls 11610), (165, .b (!((anglesO (nextV (openV t r a0) a1) (gapV (openV t r a0)) a2).isSome)))], (freelaw_frH25 t r a0 a1 a2)⟩)
           (enr [] ⟨rfl, rfl, rfl, rfl, trivial⟩ (conts_cons rfl (le_vec (by first | rfl | omega | assumption | (rw [hsp.2])) (lst_eq (by first | rfl | omega | assumption | (rw [hsp.2])))) (cve rfl trivial))) ?_
       have h20 : (decide ((spotsE t r a0 a1 a2) = 0)) = true := by exact decide_eq_true hsp.1
       refine awr [(2, .dec true), (5, .call [10550, 11610] (.b true) []), (8, .call [] (.b true) [])]
        ⟨186, [1, 2], [(6, .b true)], []⟩
        [decide ((spotsE t r a0 a1 a2) = 0) = true, CallOK Try.prog 35 [.ls 10550, .ls 11610] [10550, 11610] [some (freelaw_frK23 t r a0 a1 a2), some (freelaw_frK23 t r a0 a1 a2)] (.b true) [], CallOK Try.prog 14 [] [] [] (.b true) []] (al2 h20 (al2 (cfr (spotsS_fr (spotsL (openV t r a0) a1 a2) (by first | omega | (simp; done) | assumption)) [(1, 10550), (2, 11610)] (dem_cons rfl (le_vec_ro rfl el_rfl) (dem_cons rfl (le_vec_ro rfl el_rfl) dem_nil))) (al1 (cfr (known_fr ) [] dem_nil)))) ?_
       exact aw_ret ⟨.inr rfl, eok ⟨186, [1, 2], [(6, .b true)], []⟩
           (enr [] ⟨rfl, trivial⟩ trivial) wr_nil⟩
end Go.Proofs.Ytbpblhmigijkaaa
