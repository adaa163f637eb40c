/- The reference: what forbids, and what blocks. -/
import Derived.Test.YtbpblhmigijkaaaTx
import Derived.Test.YtbpblhmigijkaaaTv
namespace Go.Proofs.Ytbpblhmigijkaaa
open Go.RowKit
set_option linter.unusedVariables false
set_option linter.unusedSimpArgs false
set_option maxRecDepth 100000 in
theorem refTurn_fr (a b : Int) (ha : 0 ≤ a ∧ a ≤ 1000000) (hb : 0 ≤ b ∧ b ≤ 1000000) : CallFr Try.prog 78 [.i a, .i b] [] [] (.i (turnV a b)) [] := by
 refine callFr_of (fn := Try.f78) (by kernel_rfl) rfl (by kernel_rfl) (by kernel_rfl) fun E => ?_
 refine aw_ent (T := ⟨20, [], [(0, .i a), (1, .i b)], []⟩) (Ent.refl _) ?_
 apply aw_seq
 refine awr []
  ⟨20, [], [(0, .i a), (1, .i b)], []⟩
  [] trivial ?_
 apply aw_seq
 refine awr []
  ⟨20, [], [(5, .i (a - b))], []⟩
  [-9223372036854775808 ≤ (a - b) ∧ (a - b) < 9223372036854775808] (al1 (by omega)) ?_
 apply aw_seq
 apply aw_seq
 refine awr []
  ⟨20, [], [(5, .i (a - b)), (10, .b (decide ((a - b) < 0)))], []⟩
  [] trivial ?_
 refine aw_cond (b := decide ((a - b) < 0)) rfl (fun h1 => ?_) (fun h1 => ?_)
 ·
  have h1p : (a - b) < 0 := dtr h1
  refine awr []
   ⟨20, [], [(5, .i (0 - (a - b)))], []⟩
   [-9223372036854775808 ≤ (0 - (a - b)) ∧ (0 - (a - b)) < 9223372036854775808] (al1 (by omega)) ?_
  apply aw_seq
  apply aw_seq
  refine awr []
   ⟨20, [], [(5, .i (0 - (a - b))), (16, .b (decide ((3600 - (0 - (a - b))) < (0 - (a - b)))))], []⟩
   [-9223372036854775808 ≤ (3600 - (0 - (a - b))) ∧ (3600 - (0 - (a - b))) < 9223372036854775808] (al1 (by omega)) ?_
  refine aw_cond (b := decide ((3600 - (0 - (a - b))) < (0 - (a - b)))) rfl (fun h2 => ?_) (fun h2 => ?_)
  ·
   have h2p : (3600 - (0 - (a - b))) < (0 - (a - b)) := dtr h2
   apply aw_seq
   refine awr []
    ⟨20, [], [(4, .i (3600 - (0 - (a - b))))], []⟩
    [-9223372036854775808 ≤ (3600 - (0 - (a - b))) ∧ (3600 - (0 - (a - b))) < 9223372036854775808] (al1 (by omega)) ?_
   exact aw_ret (ret_then ⟨.inr rfl, eok ⟨20, [], [(4, .i (turnV a b))], []⟩
       (enr [] ⟨(slot_i rfl (by first | rfl | omega | assumption | ((unfold turnV; omega)))), trivial⟩ trivial) wr_nil⟩)
  ·
   have h2p : (0 - (a - b)) ≤ (3600 - (0 - (a - b))) := dlt h2
   apply aw_skip
   apply aw_seq
   refine awr []
    ⟨20, [], [(4, .i (0 - (a - b)))], []⟩
    [] trivial ?_
   exact aw_ret ⟨.inr rfl, eok ⟨20, [], [(4, .i (turnV a b))], []⟩
       (enr [] ⟨(slot_i rfl (by first | rfl | omega | assumption | ((unfold turnV; omega)))), trivial⟩ trivial) wr_nil⟩
 ·
  have h1p : 0 ≤ (a - b) := dlt h1
  apply aw_skip
  apply aw_seq
  apply aw_seq
  refine awr []
   ⟨20, [], [(5, .i (a - b)), (16, .b (decide ((3600 - (a - b)) < (a - b))))], []⟩
   [-9223372036854775808 ≤ (3600 - (a - b)) ∧ (3600 - (a - b)) < 9223372036854775808] (al1 (by omega)) ?_
  refine aw_cond (b := decide ((3600 - (a - b)) < (a - b))) rfl (fun h3 => ?_) (fun h3 => ?_)
  ·
   have h3p : (3600 - (a - b)) < (a - b) := dtr h3
   apply aw_seq
   refine awr []
    ⟨20, [], [(4, .i (3600 - (a - b)))], []⟩
    [-9223372036854775808 ≤ (3600 - (a - b)) ∧ (3600 - (a - b)) < 9223372036854775808] (al1 (by omega)) ?_
   exact aw_ret (ret_then ⟨.inr rfl, eok ⟨20, [], [(4, .i (turnV a b))], []⟩
       (enr [] ⟨(slot_i rfl (by first | rfl | omega | assumption | ((unfold turnV; omega)))), trivial⟩ trivial) wr_nil⟩)
  ·
   have h3p : (a - b) ≤ (3600 - (a - b)) := dlt h3
   apply aw_skip
   apply aw_seq
   refine awr []
    ⟨20, [], [(4, .i (a - b))], []⟩
    [] trivial ?_
   exact aw_ret ⟨.inr rfl, eok ⟨20, [], [(4, .i (turnV a b))], []⟩
       (enr [] ⟨(slot_i rfl (by first | rfl | omega | assumption | ((unfold turnV; omega)))), trivial⟩ trivial) wr_nil⟩
def refForbids_fA1 (t : TreeV) : SV := .agg [.i t.year, .i t.glo, .i t.ghi, .i t.wlo, .i t.whi, .i t.health, .ls 1]
def refForbids_fA2 (r : RuleV) : SV := .agg [.i r.slo, .i r.shi, .i r.ulo, .i r.uhi, .i r.hlo, .i r.hhi, .i r.apart, .i r.blo, .i r.bhi, .ls 2, .i r.n0, .i r.n1, .i r.n2, .i r.n3, .i r.n4, .i r.opn]
def refForbids_fK3 (t : TreeV) : Cn := .ro 3 t.holes.length (Lst eH t.holes)
def refForbids_fK4 (r : RuleV) : Cn := .ro 2 r.sizes.length (Lst eZ r.sizes)
def refForbids_fK5 (t : TreeV) : Cn := .blk 26 [.i t.year, .i t.glo, .i t.ghi, .i t.wlo, .i t.whi, .i t.health, .ls 1]
def refForbids_fK6 (r : RuleV) : Cn := .blk 30 [.i r.slo, .i r.shi, .i r.ulo, .i r.uhi, .i r.hlo, .i r.hhi, .i r.apart, .i r.blo, .i r.bhi, .ls 2, .i r.n0, .i r.n1, .i r.n2, .i r.n3, .i r.n4, .i r.opn]
def refForbids_fK7 (h : Hol) : Cn := .blk 74 [.i h.year, .i h.angle, .i h.height]
def refForbids_fK8 (s : Spt) : Cn := .blk 72 [.i s.angle, .i s.height]
def refForbids_fH9 (t : TreeV) (r : RuleV) (h : Hol) (s : Spt) : List (Nat × Option Cn) := [(1, some (refForbids_fK3 t)), (2, some (refForbids_fK4 r)), (1006, some (refForbids_fK5 t)), (1007, some (refForbids_fK6 r)), (1009, some (refForbids_fK7 h)), (1010, some (refForbids_fK8 s))]
def refForbids_fH10 (h : Hol) (s : Spt) : List (Nat × Option Cn) := [(1009, some (refForbids_fK7 h)), (1010, some (refForbids_fK8 s))]
set_option maxRecDepth 100000 in
theorem refForbids_f (t : TreeV) (r : RuleV) (y : Int) (ht : t.holes.length ≤ 1000000) (hr : r.sizes.length ≤ 1000000) (h : Hol) (s : Spt) (h0 : startE t r y = 0) (hh : holeOk h) (ha : 0 ≤ s.angle ∧ s.angle ≤ 3599) (hb : 0 ≤ s.height ∧ s.height ≤ 5000) : CallFr Try.prog 74 [(refForbids_fA1 t), (refForbids_fA2 r), .i y, .agg [.i h.year, .i h.angle, .i h.height], .agg [.i s.angle, .i s.height], .b false] [1, 2] [some (.ro 3 t.holes.length (Lst eH t.holes)), some (.ro 2 r.sizes.length (Lst eZ r.sizes))] (.b (forbidsV y h s (openV t r y).worst)) [] := by
 obtain ⟨k1, k2, k3⟩ := startE_0.1 h0
 have hg := girth_bd k1 k3
 have h1 := hh.1
 have h2 := hh.2
 have h3 := k2.side
 have h4 := k2.up
 have h5 := k2.heal
 have h6 := k1.year
 have hm := turn_mul (a := h.angle) (b := s.angle) h2.1 ha (g := (girthV t y).low) (by omega)
 refine callFr_of (fn := Try.f74) (by kernel_rfl) rfl (by kernel_rfl) (by kernel_rfl) fun E => ?_
 refine aw_ent (T := ⟨79, [1, 2], [(0, (refForbids_fA1 t)), (1, (refForbids_fA2 r)), (2, .i y), (3, .agg [.i h.year, .i h.angle, .i h.height]), (4, .agg [.i s.angle, .i s.height]), (5, .b false)], [(1, some (refForbids_fK3 t)), (2, some (refForbids_fK4 r))]⟩) (Ent.refl _) ?_
 apply aw_seq
 refine awr [(0, .new 1006), (1, .new 1007), (2, .new 1009), (3, .new 1010)]
  ⟨79, [1, 2], [(2, .i y), (5, .b false), (6, .l (.ref 1006 0)), (7, .l (.ref 1007 0)), (9, .l (.ref 1009 0)), (10, .l (.ref 1010 0))], (refForbids_fH9 t r h s)⟩
  [] trivial ?_
 apply aw_seq
 refine awd [(2, .call [1] (.agg [.i ((girthV t y).low), .i ((girthV t y).high)]) [])]
  ⟨79, [1, 2], [(2, .i y), (5, .b false), (6, .l (.ref 1006 0)), (7, .l (.ref 1007 0)), (9, .l (.ref 1009 0)), (10, .l (.ref 1010 0)), (13, .i ((girthV t y).low)), (14, .i r.shi), (15, .i r.uhi), (16, .i r.hhi)], (refForbids_fH9 t r h s)⟩
  [CallOK Try.prog 26 [(refForbids_fA1 t), .i y] [1] [some (refForbids_fK3 t)] (.agg [.i ((girthV t y).low), .i ((girthV t y).high)]) []] (al1 (cfr (refGirth_fr t y (by assumption) (by assumption)) [(1, 1)] (dem_cons rfl (le_ro rfl el_rfl) dem_nil))) ?_
 apply aw_seq
 apply aw_seq
 refine awr []
  ⟨79, [1, 2], [(2, .i y), (6, .l (.ref 1006 0)), (7, .l (.ref 1007 0)), (9, .l (.ref 1009 0)), (10, .l (.ref 1010 0)), (13, .i ((girthV t y).low)), (14, .i r.shi), (15, .i r.uhi), (16, .i r.hhi), (31, .b false)], (refForbids_fH9 t r h s)⟩
  [] trivial ?_
 refine aw_false rfl ?_
 apply aw_skip
 apply aw_seq
 refine awr []
  ⟨79, [1, 2], [(2, .i y), (9, .l (.ref 1009 0)), (10, .l (.ref 1010 0)), (13, .i ((girthV t y).low)), (14, .i r.shi), (15, .i r.uhi), (16, .i r.hhi), (17, .i (h.height - s.height))], (refForbids_fH10 h s)⟩
  [-9223372036854775808 ≤ (h.height - s.height) ∧ (h.height - s.height) < 9223372036854775808] (al1 (by omega)) ?_
 apply aw_seq
 apply aw_seq
 refine awr []
  ⟨79, [1, 2], [(2, .i y), (9, .l (.ref 1009 0)), (10, .l (.ref 1010 0)), (13, .i ((girthV t y).low)), (14, .i r.shi), (15, .i r.uhi), (16, .i r.hhi), (17, .i (h.height - s.height)), (52, .b (decide ((h.height - s.height) < 0)))], (refForbids_fH10 h s)⟩
  [] trivial ?_
 refine aw_cond (b := decide ((h.height - s.height) < 0)) rfl (fun h1 => ?_) (fun h1 => ?_)
 ·
  have h1p : (h.height - s.height) < 0 := dtr h1
  refine awr []
   ⟨79, [1, 2], [(2, .i y), (9, .l (.ref 1009 0)), (10, .l (.ref 1010 0)), (13, .i ((girthV t y).low)), (14, .i r.shi), (15, .i r.uhi), (16, .i r.hhi), (17, .i (0 - (h.height - s.height)))], (refForbids_fH10 h s)⟩
   [-9223372036854775808 ≤ (0 - (h.height - s.height)) ∧ (0 - (h.height - s.height)) < 9223372036854775808] (al1 (by omega)) ?_
  apply aw_seq
  rcases Bool.eq_false_or_eq_true (decide ((y - h.year) < r.hhi)) with h2 | h2
  ·
   have h2p : (y - h.year) < r.hhi := dtr h2
   rcases Bool.eq_false_or_eq_true (decide ((0 - (h.height - s.height)) < r.uhi)) with h3 | h3
   ·
    have h3p : (0 - (h.height - s.height)) < r.uhi := dtr h3
    refine awr [(6, .dec true), (11, .dec true), (17, .call [] (.i (turnV h.angle s.angle)) [])]
     ⟨79, [1, 2], [(12, .b (decide (((turnV h.angle s.angle) * (girthV t y).low) < (3600 * r.shi))))], []⟩
     [-9223372036854775808 ≤ (y - h.year) ∧ (y - h.year) < 9223372036854775808, decide ((y - h.year) < r.hhi) = true, decide ((0 - (h.height - s.height)) < r.uhi) = true, CallOK Try.prog 78 [.i h.angle, .i s.angle] [] [] (.i (turnV h.angle s.angle)) [], -9223372036854775808 ≤ ((turnV h.angle s.angle) * (girthV t y).low) ∧ ((turnV h.angle s.angle) * (girthV t y).low) < 9223372036854775808, -9223372036854775808 ≤ (3600 * r.shi) ∧ (3600 * r.shi) < 9223372036854775808] (al2 (by omega) (al2 h2 (al2 h3 (al2 (cfr (refTurn_fr h.angle s.angle (by omega) (by omega)) [] dem_nil) (al2 (by omega) (al1 (by omega))))))) ?_
    exact aw_ret ⟨.inr rfl, eok ⟨79, [1, 2], [(12, .b (forbidsV y h s (openV t r y).worst))], []⟩
        (enr [] ⟨(slot_b (a := decide (((turnV h.angle s.angle) * (girthV t y).low) < (3600 * r.shi))) rfl (by first | rfl | omega | assumption | (exact (forb_t (by omega) (by omega)).symm) | (exact (forb_f1 (by omega)).symm) | (exact (forb_f2 (by omega)).symm))), trivial⟩ trivial) wr_nil⟩
   ·
    have h3p : r.uhi ≤ (0 - (h.height - s.height)) := dlt h3
    refine awr [(6, .dec true), (11, .dec false)]
     ⟨79, [1, 2], [(12, .b false)], []⟩
     [-9223372036854775808 ≤ (y - h.year) ∧ (y - h.year) < 9223372036854775808, decide ((y - h.year) < r.hhi) = true, decide ((0 - (h.height - s.height)) < r.uhi) = false] (al2 (by omega) (al2 h2 (al1 h3))) ?_
    exact aw_ret ⟨.inr rfl, eok ⟨79, [1, 2], [(12, .b (forbidsV y h s (openV t r y).worst))], []⟩
        (enr [] ⟨(slot_b (a := false) rfl (by first | rfl | omega | assumption | (exact (forb_t (by omega) (by omega)).symm) | (exact (forb_f1 (by omega)).symm) | (exact (forb_f2 (by omega)).symm))), trivial⟩ trivial) wr_nil⟩
  ·
   have h2p : r.hhi ≤ (y - h.year) := dlt h2
   refine awr [(6, .dec false)]
    ⟨79, [1, 2], [(12, .b false)], []⟩
    [-9223372036854775808 ≤ (y - h.year) ∧ (y - h.year) < 9223372036854775808, decide ((y - h.year) < r.hhi) = false] (al2 (by omega) (al1 h2)) ?_
   exact aw_ret ⟨.inr rfl, eok ⟨79, [1, 2], [(12, .b (forbidsV y h s (openV t r y).worst))], []⟩
       (enr [] ⟨(slot_b (a := false) rfl (by first | rfl | omega | assumption | (exact (forb_t (by omega) (by omega)).symm) | (exact (forb_f1 (by omega)).symm) | (exact (forb_f2 (by omega)).symm))), trivial⟩ trivial) wr_nil⟩
 ·
  have h1p : 0 ≤ (h.height - s.height) := dlt h1
  apply aw_skip
  apply aw_seq
  rcases Bool.eq_false_or_eq_true (decide ((y - h.year) < r.hhi)) with h4 | h4
  ·
   have h4p : (y - h.year) < r.hhi := dtr h4
   rcases Bool.eq_false_or_eq_true (decide ((h.height - s.height) < r.uhi)) with h5 | h5
   ·
    have h5p : (h.height - s.height) < r.uhi := dtr h5
    refine awr [(6, .dec true), (11, .dec true), (17, .call [] (.i (turnV h.angle s.angle)) [])]
     ⟨79, [1, 2], [(12, .b (decide (((turnV h.angle s.angle) * (girthV t y).low) < (3600 * r.shi))))], []⟩
     [-9223372036854775808 ≤ (y - h.year) ∧ (y - h.year) < 9223372036854775808, decide ((y - h.year) < r.hhi) = true, decide ((h.height - s.height) < r.uhi) = true, CallOK Try.prog 78 [.i h.angle, .i s.angle] [] [] (.i (turnV h.angle s.angle)) [], -9223372036854775808 ≤ ((turnV h.angle s.angle) * (girthV t y).low) ∧ ((turnV h.angle s.angle) * (girthV t y).low) < 9223372036854775808, -9223372036854775808 ≤ (3600 * r.shi) ∧ (3600 * r.shi) < 9223372036854775808] (al2 (by omega) (al2 h4 (al2 h5 (al2 (cfr (refTurn_fr h.angle s.angle (by omega) (by omega)) [] dem_nil) (al2 (by omega) (al1 (by omega))))))) ?_
    exact aw_ret ⟨.inr rfl, eok ⟨79, [1, 2], [(12, .b (forbidsV y h s (openV t r y).worst))], []⟩
        (enr [] ⟨(slot_b (a := decide (((turnV h.angle s.angle) * (girthV t y).low) < (3600 * r.shi))) rfl (by first | rfl | omega | assumption | (exact (forb_t (by omega) (by omega)).symm) | (exact (forb_f1 (by omega)).symm) | (exact (forb_f2 (by omega)).symm))), trivial⟩ trivial) wr_nil⟩
   ·
    have h5p : r.uhi ≤ (h.height - s.height) := dlt h5
    refine awr [(6, .dec true), (11, .dec false)]
     ⟨79, [1, 2], [(12, .b false)], []⟩
     [-9223372036854775808 ≤ (y - h.year) ∧ (y - h.year) < 9223372036854775808, decide ((y - h.year) < r.hhi) = true, decide ((h.height - s.height) < r.uhi) = false] (al2 (by omega) (al2 h4 (al1 h5))) ?_
    exact aw_ret ⟨.inr rfl, eok ⟨79, [1, 2], [(12, .b (forbidsV y h s (openV t r y).worst))], []⟩
        (enr [] ⟨(slot_b (a := false) rfl (by first | rfl | omega | assumption | (exact (forb_t (by omega) (by omega)).symm) | (exact (forb_f1 (by omega)).symm) | (exact (forb_f2 (by omega)).symm))), trivial⟩ trivial) wr_nil⟩
  ·
   have h4p : r.hhi ≤ (y - h.year) := dlt h4
   refine awr [(6, .dec false)]
    ⟨79, [1, 2], [(12, .b false)], []⟩
    [-9223372036854775808 ≤ (y - h.year) ∧ (y - h.year) < 9223372036854775808, decide ((y - h.year) < r.hhi) = false] (al2 (by omega) (al1 h4)) ?_
   exact aw_ret ⟨.inr rfl, eok ⟨79, [1, 2], [(12, .b (forbidsV y h s (openV t r y).worst))], []⟩
       (enr [] ⟨(slot_b (a := false) rfl (by first | rfl | omega | assumption | (exact (forb_t (by omega) (by omega)).symm) | (exact (forb_f1 (by omega)).symm) | (exact (forb_f2 (by omega)).symm))), trivial⟩ trivial) wr_nil⟩
def refBlocks_fA1 (t : TreeV) : SV := .agg [.i t.year, .i t.glo, .i t.ghi, .i t.wlo, .i t.whi, .i t.health, .ls 1]
def refBlocks_fA2 (r : RuleV) : SV := .agg [.i r.slo, .i r.shi, .i r.ulo, .i r.uhi, .i r.hlo, .i r.hhi, .i r.apart, .i r.blo, .i r.bhi, .ls 2, .i r.n0, .i r.n1, .i r.n2, .i r.n3, .i r.n4, .i r.opn]
def refBlocks_fK3 (t : TreeV) : Cn := .ro 3 t.holes.length (Lst eH t.holes)
def refBlocks_fK4 (r : RuleV) : Cn := .ro 2 r.sizes.length (Lst eZ r.sizes)
def refBlocks_fK5 (t : TreeV) : Cn := .blk 26 [.i t.year, .i t.glo, .i t.ghi, .i t.wlo, .i t.whi, .i t.health, .ls 1]
def refBlocks_fK6 (r : RuleV) : Cn := .blk 30 [.i r.slo, .i r.shi, .i r.ulo, .i r.uhi, .i r.hlo, .i r.hhi, .i r.apart, .i r.blo, .i r.bhi, .ls 2, .i r.n0, .i r.n1, .i r.n2, .i r.n3, .i r.n4, .i r.opn]
def refBlocks_fK7 (s : Spt) : Cn := .blk 72 [.i s.angle, .i s.height]
def refBlocks_fH8 (t : TreeV) (r : RuleV) (s : Spt) : List (Nat × Option Cn) := [(1, some (refBlocks_fK3 t)), (2, some (refBlocks_fK4 r)), (1005, some (refBlocks_fK5 t)), (1006, some (refBlocks_fK6 r)), (1008, some (refBlocks_fK7 s))]
def refBlocks_fH9 (t : TreeV) (r : RuleV) (s : Spt) : List (Nat × Option Cn) := [(1, some (refBlocks_fK3 t)), (2, some (refBlocks_fK4 r)), (1005, some (refBlocks_fK5 t)), (1006, some (refBlocks_fK6 r)), (1008, some (refBlocks_fK7 s)), (1013, some (.vec 3 1 0 (exEl 1 [])))]
def refBlocks_fH10 (t : TreeV) (r : RuleV) (s : Spt) (o : List Int) : List (Nat × Option Cn) := [(1, some (refBlocks_fK3 t)), (2, some (refBlocks_fK4 r)), (1005, some (refBlocks_fK5 t)), (1006, some (refBlocks_fK6 r)), (1008, some (refBlocks_fK7 s)), (2001, some (.vec 3 1 o.length (Lst eI o)))]
def refBlocks_fA11 (t : TreeV) (i : Nat) : SV := .agg [.i ((ix t.holes i).year), .i ((ix t.holes i).angle), .i ((ix t.holes i).height)]
def refBlocks_fK12 (o : List Int) (i : Nat) : Cn := .vec 3 1 (o.length + 1) (Lst eI (o ++ [(i : Int)]))
def refBlocks_fH13 (t : TreeV) (r : RuleV) (s : Spt) (o : List Int) (i : Nat) : List (Nat × Option Cn) := [(1, some (refBlocks_fK3 t)), (2, some (refBlocks_fK4 r)), (1005, some (refBlocks_fK5 t)), (1006, some (refBlocks_fK6 r)), (1008, some (refBlocks_fK7 s)), (1035, some (refBlocks_fK12 o i))]
def refBlocks_fK14 (t : TreeV) (r : RuleV) (y : Int) (s : Spt) : Cn := .vec 3 1 ((blocksL t r y s false).length) (Lst eI (blocksL t r y s false))
set_option maxRecDepth 100000 in
theorem refBlocks_f (t : TreeV) (r : RuleV) (y : Int) (ht : t.holes.length ≤ 1000000) (hr : r.sizes.length ≤ 1000000) (s : Spt) (he : blocksE t r y s = 0) : CallFr Try.prog 41 [(refBlocks_fA1 t), (refBlocks_fA2 r), .i y, .agg [.i s.angle, .i s.height], .b false] [1, 2] [some (.ro 3 t.holes.length (Lst eH t.holes)), some (.ro 2 r.sizes.length (Lst eZ r.sizes))] (.ls 4) [(4, some (.vec 3 1 ((blocksL t r y s false).length) (Lst eI (blocksL t r y s false))))] := by
 obtain ⟨h0, hs⟩ := blocksE_0.1 he
 obtain ⟨ha, hb⟩ := spots1 hs
 have hl := (startE_0.1 h0).1.len
 refine callFr_of (fn := Try.f41) (by kernel_rfl) rfl (by kernel_rfl) (by kernel_rfl) fun E => ?_
 refine aw_ent (T := ⟨37, [1, 2], [(0, (refBlocks_fA1 t)), (1, (refBlocks_fA2 r)), (2, .i y), (3, .agg [.i s.angle, .i s.height]), (4, .b false)], [(1, some (refBlocks_fK3 t)), (2, some (refBlocks_fK4 r))]⟩) (Ent.refl _) ?_
 apply aw_seq
 refine awr [(0, .new 1005), (1, .new 1006), (2, .new 1008)]
  ⟨37, [1, 2], [(2, .i y), (4, .b false), (5, .l (.ref 1005 0)), (6, .l (.ref 1006 0)), (8, .l (.ref 1008 0))], (refBlocks_fH8 t r s)⟩
  [] trivial ?_
 apply aw_seq
 refine awr [(0, .new 1013)]
  ⟨37, [1, 2], [(2, .i y), (4, .b false), (5, .l (.ref 1005 0)), (6, .l (.ref 1006 0)), (8, .l (.ref 1008 0)), (11, .ls 1013)], (refBlocks_fH9 t r s)⟩
  [] trivial ?_
 apply aw_seq
 apply aw_seq
 refine awr []
  ⟨37, [1, 2], [(2, .i y), (4, .b false), (5, .l (.ref 1005 0)), (6, .l (.ref 1006 0)), (8, .l (.ref 1008 0)), (11, .ls 1013), (12, .i 0)], (refBlocks_fH9 t r s)⟩
  [] trivial ?_
 apply aw_block
 refine aw_loop (ι := Nat × List Int) (fun zz => ⟨37, [1, 2], [(2, .i y), (4, .b false), (5, .l (.ref 1005 0)), (6, .l (.ref 1006 0)), (8, .l (.ref 1008 0)), (11, .ls 2001), (12, .i (zz.1 : Int))], (refBlocks_fH10 t r s zz.2)⟩) (fun zz => (zz.1 ≤ t.holes.length) ∧ (zz.2.length ≤ zz.1) ∧ (zz.2 ++ byL y s (openV t r y).worst zz.1 (t.holes.drop zz.1) = byV (openV t r y) s (openV t r y).worst)) (fun zz => t.holes.length - zz.1) (0, []) ⟨(by (try dsimp only); first | omega | rfl | assumption | (simp; done)), (by (try dsimp only); first | omega | rfl | assumption | (simp; done)), (by (try dsimp only); rfl)⟩
     (enr [(2001, 1013)] ⟨rfl, rfl, rfl, rfl, rfl, rfl, rfl, trivial⟩ (cro rfl (cro rfl (cbl rfl rfl (cbl rfl rfl (cbl rfl rfl (conts_cons rfl (le_vec (by first | rfl | omega | assumption | (simp; done) | (rw [hz])) (fun i hi => absurd hi (by omega))) trivial))))))) fun zz hp => ?_
 obtain ⟨i, o⟩ := zz
 obtain ⟨hiL, ho, hq⟩ := hp
 dsimp only at hiL ho hq
 show AW _ E _ _ ⟨37, [1, 2], [(2, .i y), (4, .b false), (5, .l (.ref 1005 0)), (6, .l (.ref 1006 0)), (8, .l (.ref 1008 0)), (11, .ls 2001), (12, .i (i : Int))], (refBlocks_fH10 t r s o)⟩
 apply aw_seq
 apply aw_seq
 refine awr []
  ⟨37, [1, 2], [(2, .i y), (4, .b false), (5, .l (.ref 1005 0)), (6, .l (.ref 1006 0)), (8, .l (.ref 1008 0)), (11, .ls 2001), (12, .i (i : Int)), (18, .b (decide ((i : Int) < (t.holes.length : Int))))], (refBlocks_fH10 t r s o)⟩
  [] trivial ?_
 refine aw_cond (b := decide ((i : Int) < (t.holes.length : Int))) rfl (fun h1 => ?_) (fun h1 => ?_)
 ·
  have h1p : (i : Int) < (t.holes.length : Int) := dtr h1
  apply aw_skip
  apply aw_seq
  apply aw_block
  apply aw_seq
  refine awd [(6, .idx i), (10, .call [1, 2] (.b (forbidsV y (ix t.holes i) s (openV t r y).worst)) [])]
   ⟨37, [1, 2], [(2, .i y), (4, .b false), (5, .l (.ref 1005 0)), (6, .l (.ref 1006 0)), (8, .l (.ref 1008 0)), (11, .ls 2001), (12, .i (i : Int)), (31, .b (forbidsV y (ix t.holes i) s (openV t r y).worst))], (refBlocks_fH10 t r s o)⟩
   [(i : Int) = (i : Int), i < t.holes.length, i < t.holes.length, CallOK Try.prog 74 [(refBlocks_fA1 t), (refBlocks_fA2 r), .i y, (refBlocks_fA11 t i), .agg [.i s.angle, .i s.height], .b false] [1, 2] [some (refBlocks_fK3 t), some (refBlocks_fK4 r)] (.b (forbidsV y (ix t.holes i) s (openV t r y).worst)) []] (al2 (by omega) (al2 (by omega) (al2 (by omega) (al1 (cfr (refForbids_f t r y (by first | omega | (simp; done) | assumption) (by first | omega | (simp; done) | assumption) (ix t.holes i) s (by assumption) (by first | assumption | exact (startE_0.1 (by assumption)).1.hole _ (ix_mem (by omega))) (by assumption) (by assumption)) [(1, 1), (2, 2)] (dem_cons rfl (le_ro rfl el_rfl) (dem_cons rfl (le_ro rfl el_rfl) dem_nil))))))) ?_
  refine aw_cond (b := (forbidsV y (ix t.holes i) s (openV t r y).worst)) rfl (fun h2 => ?_) (fun h2 => ?_)
  ·
   refine awr [(2, .new 1034), (3, .lst 1035 (o.length + 1) (Lst eI (o ++ [(i : Int)])))]
    ⟨37, [1, 2], [(2, .i y), (4, .b false), (5, .l (.ref 1005 0)), (6, .l (.ref 1006 0)), (8, .l (.ref 1008 0)), (11, .ls 1035), (12, .i (i : Int))], (refBlocks_fH13 t r s o i)⟩
    [o.length + 1 ≤ 1000000000000, (o.length + 1) * 8 ≤ 140737488355328, AppOk 1 o.length 1 (Lst eI o) (exEl 1 [.i (i : Int)]) (o.length + 1) (Lst eI (o ++ [(i : Int)]))] (al2 (by omega) (al2 (by omega) (al1 (app_one (by first | omega | rfl | assumption) (by first | omega | rfl | assumption) (fun | 0, _ => rfl | (n + 1), h => absurd h (by omega)))))) ?_
   refine awr [(1, .num (((i + 1) : Nat) : Int))]
    ⟨37, [1, 2], [(2, .i y), (4, .b false), (5, .l (.ref 1005 0)), (6, .l (.ref 1006 0)), (8, .l (.ref 1008 0)), (11, .ls 1035), (12, .i (((i + 1) : Nat) : Int))], (refBlocks_fH13 t r s o i)⟩
    [((i : Int) + 1) = (((i + 1) : Nat) : Int), -9223372036854775808 ≤ (((i + 1) : Nat) : Int) ∧ (((i + 1) : Nat) : Int) < 9223372036854775808] (al2 (by omega) (al1 (by omega))) ?_
   exact ⟨((i + 1), (o ++ [(i : Int)])), ⟨(by (try dsimp only); first | omega | rfl | assumption | (simp; done)), (by (try dsimp only); first | omega | (simp; omega)), (by (try dsimp only); rw [← hq, drop_ix (by omega : i < t.holes.length)]; simp [byL, *])⟩, (show t.holes.length - (i + 1) < t.holes.length - i by first | omega | rfl | assumption),
       (enr [(2001, 1035)] ⟨rfl, rfl, rfl, rfl, rfl, rfl, rfl, trivial⟩ (cro rfl (cro rfl (cbl rfl rfl (cbl rfl rfl (cbl rfl rfl (conts_cons rfl (le_vec (by first | rfl | omega | assumption | (simp; done) | (rw [hz])) el_rfl) trivial)))))))⟩
  ·
   apply aw_skip
   refine awr [(1, .num (((i + 1) : Nat) : Int))]
    ⟨37, [1, 2], [(2, .i y), (4, .b false), (5, .l (.ref 1005 0)), (6, .l (.ref 1006 0)), (8, .l (.ref 1008 0)), (11, .ls 2001), (12, .i (((i + 1) : Nat) : Int))], (refBlocks_fH10 t r s o)⟩
    [((i : Int) + 1) = (((i + 1) : Nat) : Int), -9223372036854775808 ≤ (((i + 1) : Nat) : Int) ∧ (((i + 1) : Nat) : Int) < 9223372036854775808] (al2 (by omega) (al1 (by omega))) ?_
   exact ⟨((i + 1), o), ⟨(by (try dsimp only); first | omega | rfl | assumption | (simp; done)), (by (try dsimp only); first | omega | (simp; omega)), (by (try dsimp only); rw [← hq, drop_ix (by omega : i < t.holes.length)]; simp [byL, *])⟩, (show t.holes.length - (i + 1) < t.holes.length - i by first | omega | rfl | assumption),
       (enr [] ⟨rfl, rfl, rfl, rfl, rfl, rfl, rfl, trivial⟩ (cro rfl (cro rfl (cbl rfl rfl (cbl rfl rfl (cbl rfl rfl (cve rfl trivial)))))))⟩
 ·
  have h1p : (t.holes.length : Int) ≤ (i : Int) := dlt h1
  refine aw_exit (exit_then (exit_then (exit_in ?_)))
  apply aw_seq
  have hz : o = blocksL t r y s false := by
   rw [List.drop_eq_nil_of_le (by omega)] at hq
   unfold blocksL
   rw [if_pos he]
   simpa [byL] using hq
  refine awr []
   ⟨37, [1, 2], [(10, .ls 2001)], [(2001, some (.vec 3 1 o.length (Lst eI o)))]⟩
   [] trivial ?_
  exact aw_ret ⟨.inr rfl, eok ⟨37, [1, 2], [(10, .ls 4)], [(4, some (refBlocks_fK14 t r y s))]⟩
      (enr [(4, 2001)] ⟨rfl, trivial⟩ (conts_cons rfl (le_vec (by first | rfl | omega | assumption | (simp; done) | (rw [hz])) (lst_eq (by first | rfl | omega | assumption | (simp; done) | (rw [hz])))) trivial)) (wr_cons rfl (plain_Lst plain_eI) wr_nil)⟩
end Go.Proofs.Ytbpblhmigijkaaa
