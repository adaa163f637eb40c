/- Parts of the laws: what is valid. -/
import Derived.Test.YtbpblhmigijkaaaTxa
import Derived.Test.YtbpblhmigijkaaaTfh
namespace Go.Proofs.Ytbpblhmigijkaaa
open Go.RowKit
set_option linter.unusedVariables false
set_option linter.unusedSimpArgs false
def valid_frA1 (t : TreeV) : SV := .agg [.i t.year, .i t.glo, .i t.ghi, .i t.wlo, .i t.whi, .i t.health, .ls 1]
def valid_frA2 (r : RuleV) : SV := .agg [.i r.slo, .i r.shi, .i r.ulo, .i r.uhi, .i r.hlo, .i r.hhi, .i r.apart, .i r.blo, .i r.bhi, .ls 2, .i r.n0, .i r.n1, .i r.n2, .i r.n3, .i r.n4, .i r.opn]
def valid_frK3 (t : TreeV) : Cn := .ro 3 t.holes.length (Lst eH t.holes)
def valid_frK4 (r : RuleV) : Cn := .ro 2 r.sizes.length (Lst eZ r.sizes)
def valid_frK5 (t : TreeV) : Cn := .blk 26 [.i t.year, .i t.glo, .i t.ghi, .i t.wlo, .i t.whi, .i t.health, .ls 1]
def valid_frK6 (r : RuleV) : Cn := .blk 30 [.i r.slo, .i r.shi, .i r.ulo, .i r.uhi, .i r.hlo, .i r.hhi, .i r.apart, .i r.blo, .i r.bhi, .ls 2, .i r.n0, .i r.n1, .i r.n2, .i r.n3, .i r.n4, .i r.opn]
def valid_frH7 (t : TreeV) (r : RuleV) : List (Nat × Option Cn) := [(1, some (valid_frK3 t)), (2, some (valid_frK4 r)), (1003, some (valid_frK5 t)), (1004, some (valid_frK6 r))]
def valid_frA8 (t : TreeV) : SV := .agg [.i t.year, .i t.glo, .i t.ghi, .i t.wlo, .i t.whi, .i t.health, .ls 10250]
def valid_frK9 (t : TreeV) : Cn := .vec 74 3 ((t.holes).length) (Lst eH t.holes)
def valid_frA10 (r : RuleV) : SV := .agg [.i r.slo, .i r.shi, .i r.ulo, .i r.uhi, .i r.hlo, .i r.hhi, .i r.apart, .i r.blo, .i r.bhi, .ls 10310, .i r.n0, .i r.n1, .i r.n2, .i r.n3, .i r.n4, .i r.opn]
def valid_frK11 (r : RuleV) : Cn := .vec 45 2 ((r.sizes).length) (Lst eZ r.sizes)
set_option maxRecDepth 100000 in
theorem valid_fr (t : TreeV) (r : RuleV) (y : Int) (ht : t.holes.length ≤ 9223372036854775807) (hr : r.sizes.length ≤ 9223372036854775807) : CallFr Try.prog 36 [(valid_frA1 t), (valid_frA2 r), .i y] [1, 2] [some (.ro 3 t.holes.length (Lst eH t.holes)), some (.ro 2 r.sizes.length (Lst eZ r.sizes))] (.b (decide (startE t r y = 0))) [] := by
 refine callFr_of (fn := Try.f36) (by kernel_rfl) rfl (by kernel_rfl) (by kernel_rfl) fun E => ?_
 refine aw_ent (T := ⟨45, [1, 2], [(0, (valid_frA1 t)), (1, (valid_frA2 r)), (2, .i y)], [(1, some (valid_frK3 t)), (2, some (valid_frK4 r))]⟩) (Ent.refl _) ?_
 apply aw_seq
 refine awr [(0, .new 1003), (1, .new 1004)]
  ⟨45, [1, 2], [(2, .i y), (3, .l (.ref 1003 0)), (4, .l (.ref 1004 0))], (valid_frH7 t r)⟩
  [] trivial ?_
 apply aw_seq
 rcases Bool.eq_false_or_eq_true ((!(largeB t r))) with h1 | h1
 ·
  rcases Bool.eq_false_or_eq_true (decide (((t.holes.length : Nat) : Int) ≤ 60)) with h2 | h2
  ·
   have h2p : ((t.holes.length : Nat) : Int) ≤ 60 := dtr h2
   rcases Bool.eq_false_or_eq_true (decide (((r.sizes.length : Nat) : Int) ≤ 10)) with h3 | h3
   ·
    have h3p : ((r.sizes.length : Nat) : Int) ≤ 10 := dtr h3
    rcases Bool.eq_false_or_eq_true (decide ((treeE t) = 0)) with h4 | h4
    ·
     have h4p : (treeE t) = 0 := dtr h4
     rcases Bool.eq_false_or_eq_true (decide ((ruleE r) = 0)) with h5 | h5
     ·
      have h5p : (ruleE r) = 0 := dtr h5
      rcases Bool.eq_false_or_eq_true (decide (t.year ≤ y)) with h6 | h6
      ·
       have h6p : t.year ≤ y := dtr h6
       refine awr [(2, .call [1, 2] (.b (largeB t r)) []), (4, .dec true), (10, .dec true), (16, .dec true), (18, .call [1] ((valid_frA8 t)) [(10250, some (valid_frK9 t))]), (19, .call [10250] (.i (treeE t)) []), (22, .dec true), (24, .call [2] ((valid_frA10 r)) [(10310, some (valid_frK11 r))]), (25, .call [10310] (.i (ruleE r)) []), (28, .dec true), (34, .dec true)]
        ⟨45, [1, 2], [(6, .b (decide (y ≤ 9999)))], []⟩
        [CallOK Try.prog 13 [(valid_frA1 t), (valid_frA2 r)] [1, 2] [some (valid_frK3 t), some (valid_frK4 r)] (.b (largeB t r)) [], (!(largeB t r)) = true, decide (((t.holes.length : Nat) : Int) ≤ 60) = true, decide (((r.sizes.length : Nat) : Int) ≤ 10) = true, CallOK Try.prog 15 [(valid_frA1 t)] [1] [some (valid_frK3 t)] ((valid_frA8 t)) [(10250, some (valid_frK9 t))], CallOK Try.prog 17 [(valid_frA8 t)] [10250] [some (valid_frK9 t)] (.i (treeE t)) [], decide ((treeE t) = 0) = true, CallOK Try.prog 16 [(valid_frA2 r)] [2] [some (valid_frK4 r)] ((valid_frA10 r)) [(10310, some (valid_frK11 r))], CallOK Try.prog 18 [(valid_frA10 r)] [10310] [some (valid_frK11 r)] (.i (ruleE r)) [], decide ((ruleE r) = 0) = true, decide (t.year ≤ y) = true] (al2 (cfr (large_fr t r (by first | omega | (simp; done) | assumption) (by first | omega | (simp; done) | assumption)) [(1, 1), (2, 2)] (dem_cons rfl (le_ro rfl el_rfl) (dem_cons rfl (le_ro rfl el_rfl) dem_nil))) (al2 h1 (al2 h2 (al2 h3 (al2 (cfr (own_fr t (by first | omega | (simp; done) | assumption)) [(1, 1), (2, 10250)] (dem_cons rfl (le_ro rfl el_rfl) dem_nil)) (al2 (cfr (CheckTree_fr t (by first | omega | (simp; done) | assumption)) [(1, 10250)] (dem_cons rfl (le_vec_ro rfl el_rfl) dem_nil)) (al2 h4 (al2 (cfr (tapsc_fr r (by first | omega | (simp; done) | assumption)) [(1, 2), (2, 10310)] (dem_cons rfl (le_ro rfl el_rfl) dem_nil)) (al2 (cfr (CheckRules_fr r (by first | omega | (simp; done) | assumption)) [(2, 10310)] (dem_cons rfl (le_vec_ro rfl el_rfl) dem_nil)) (al2 h5 (al1 h6))))))))))) ?_
       exact aw_ret ⟨.inr rfl, eok ⟨45, [1, 2], [(6, .b (decide (startE t r y = 0)))], []⟩
           (enr [] ⟨(slot_b (a := decide (y ≤ 9999)) rfl (by first | rfl | omega | assumption | (exact valid_d (by assumption) (by assumption) (by omega)) | (exact (valid_d (by assumption) (by assumption) (by omega)).symm) | (exact (valid_t (by assumption) (by assumption) (by omega) (by omega)).symm) | (exact (valid_f (by omega)).symm) | (exact (valid_f (by have := large_yes (show largeB t r = true by simpa using (by assumption : (!(largeB t r)) = false)); omega)).symm))), trivial⟩ trivial) wr_nil⟩
      ·
       have h6p : y < t.year := dle h6
       refine awr [(2, .call [1, 2] (.b (largeB t r)) []), (4, .dec true), (10, .dec true), (16, .dec true), (18, .call [1] ((valid_frA8 t)) [(10250, some (valid_frK9 t))]), (19, .call [10250] (.i (treeE t)) []), (22, .dec true), (24, .call [2] ((valid_frA10 r)) [(10310, some (valid_frK11 r))]), (25, .call [10310] (.i (ruleE r)) []), (28, .dec true), (34, .dec false)]
        ⟨45, [1, 2], [(6, .b false)], []⟩
        [CallOK Try.prog 13 [(valid_frA1 t), (valid_frA2 r)] [1, 2] [some (valid_frK3 t), some (valid_frK4 r)] (.b (largeB t r)) [], (!(largeB t r)) = true, decide (((t.holes.length : Nat) : Int) ≤ 60) = true, decide (((r.sizes.length : Nat) : Int) ≤ 10) = true, CallOK Try.prog 15 [(valid_frA1 t)] [1] [some (valid_frK3 t)] ((valid_frA8 t)) [(10250, some (valid_frK9 t))], CallOK Try.prog 17 [(valid_frA8 t)] [10250] [some (valid_frK9 t)] (.i (treeE t)) [], decide ((treeE t) = 0) = true, CallOK Try.prog 16 [(valid_frA2 r)] [2] [some (valid_frK4 r)] ((valid_frA10 r)) [(10310, some (valid_frK11 r))], CallOK Try.prog 18 [(valid_frA10 r)] [10310] [some (valid_frK11 r)] (.i (ruleE r)) [], decide ((ruleE r) = 0) = true, decide (t.year ≤ y) = false] (al2 (cfr (large_fr t r (by first | omega | (simp; done) | assumption) (by first | omega | (simp; done) | assumption)) [(1, 1), (2, 2)] (dem_cons rfl (le_ro rfl el_rfl) (dem_cons rfl (le_ro rfl el_rfl) dem_nil))) (al2 h1 (al2 h2 (al2 h3 (al2 (cfr (own_fr t (by first | omega | (simp; done) | assumption)) [(1, 1), (2, 10250)] (dem_cons rfl (le_ro rfl el_rfl) dem_nil)) (al2 (cfr (CheckTree_fr t (by first | omega | (simp; done) | assumption)) [(1, 10250)] (dem_cons rfl (le_vec_ro rfl el_rfl) dem_nil)) (al2 h4 (al2 (cfr (tapsc_fr r (by first | omega | (simp; done) | assumption)) [(1, 2), (2, 10310)] (dem_cons rfl (le_ro rfl el_rfl) dem_nil)) (al2 (cfr (CheckRules_fr r (by first | omega | (simp; done) | assumption)) [(2, 10310)] (dem_cons rfl (le_vec_ro rfl el_rfl) dem_nil)) (al2 h5 (al1 h6))))))))))) ?_
       exact aw_ret ⟨.inr rfl, eok ⟨45, [1, 2], [(6, .b (decide (startE t r y = 0)))], []⟩
           (enr [] ⟨(slot_b (a := false) rfl (by first | rfl | omega | assumption | (exact valid_d (by assumption) (by assumption) (by omega)) | (exact (valid_d (by assumption) (by assumption) (by omega)).symm) | (exact (valid_t (by assumption) (by assumption) (by omega) (by omega)).symm) | (exact (valid_f (by omega)).symm) | (exact (valid_f (by have := large_yes (show largeB t r = true by simpa using (by assumption : (!(largeB t r)) = false)); omega)).symm))), trivial⟩ trivial) wr_nil⟩
     ·
      have h5p : (ruleE r) ≠ 0 := deq h5
      refine awr [(2, .call [1, 2] (.b (largeB t r)) []), (4, .dec true), (10, .dec true), (16, .dec true), (18, .call [1] ((valid_frA8 t)) [(10250, some (valid_frK9 t))]), (19, .call [10250] (.i (treeE t)) []), (22, .dec true), (24, .call [2] ((valid_frA10 r)) [(10310, some (valid_frK11 r))]), (25, .call [10310] (.i (ruleE r)) []), (28, .dec false)]
       ⟨45, [1, 2], [(6, .b false)], []⟩
       [CallOK Try.prog 13 [(valid_frA1 t), (valid_frA2 r)] [1, 2] [some (valid_frK3 t), some (valid_frK4 r)] (.b (largeB t r)) [], (!(largeB t r)) = true, decide (((t.holes.length : Nat) : Int) ≤ 60) = true, decide (((r.sizes.length : Nat) : Int) ≤ 10) = true, CallOK Try.prog 15 [(valid_frA1 t)] [1] [some (valid_frK3 t)] ((valid_frA8 t)) [(10250, some (valid_frK9 t))], CallOK Try.prog 17 [(valid_frA8 t)] [10250] [some (valid_frK9 t)] (.i (treeE t)) [], decide ((treeE t) = 0) = true, CallOK Try.prog 16 [(valid_frA2 r)] [2] [some (valid_frK4 r)] ((valid_frA10 r)) [(10310, some (valid_frK11 r))], CallOK Try.prog 18 [(valid_frA10 r)] [10310] [some (valid_frK11 r)] (.i (ruleE r)) [], decide ((ruleE r) = 0) = false] (al2 (cfr (large_fr t r (by first | omega | (simp; done) | assumption) (by first | omega | (simp; done) | assumption)) [(1, 1), (2, 2)] (dem_cons rfl (le_ro rfl el_rfl) (dem_cons rfl (le_ro rfl el_rfl) dem_nil))) (al2 h1 (al2 h2 (al2 h3 (al2 (cfr (own_fr t (by first | omega | (simp; done) | assumption)) [(1, 1), (2, 10250)] (dem_cons rfl (le_ro rfl el_rfl) dem_nil)) (al2 (cfr (CheckTree_fr t (by first | omega | (simp; done) | assumption)) [(1, 10250)] (dem_cons rfl (le_vec_ro rfl el_rfl) dem_nil)) (al2 h4 (al2 (cfr (tapsc_fr r (by first | omega | (simp; done) | assumption)) [(1, 2), (2, 10310)] (dem_cons rfl (le_ro rfl el_rfl) dem_nil)) (al2 (cfr (CheckRules_fr r (by first | omega | (simp; done) | assumption)) [(2, 10310)] (dem_cons rfl (le_vec_ro rfl el_rfl) dem_nil)) (al1 h5)))))))))) ?_
      exact aw_ret ⟨.inr rfl, eok ⟨45, [1, 2], [(6, .b (decide (startE t r y = 0)))], []⟩
          (enr [] ⟨(slot_b (a := false) rfl (by first | rfl | omega | assumption | (exact valid_d (by assumption) (by assumption) (by omega)) | (exact (valid_d (by assumption) (by assumption) (by omega)).symm) | (exact (valid_t (by assumption) (by assumption) (by omega) (by omega)).symm) | (exact (valid_f (by omega)).symm) | (exact (valid_f (by have := large_yes (show largeB t r = true by simpa using (by assumption : (!(largeB t r)) = false)); omega)).symm))), trivial⟩ trivial) wr_nil⟩
    ·
     have h4p : (treeE t) ≠ 0 := deq h4
     refine awr [(2, .call [1, 2] (.b (largeB t r)) []), (4, .dec true), (10, .dec true), (16, .dec true), (18, .call [1] ((valid_frA8 t)) [(10250, some (valid_frK9 t))]), (19, .call [10250] (.i (treeE t)) []), (22, .dec false)]
      ⟨45, [1, 2], [(6, .b false)], []⟩
      [CallOK Try.prog 13 [(valid_frA1 t), (valid_frA2 r)] [1, 2] [some (valid_frK3 t), some (valid_frK4 r)] (.b (largeB t r)) [], (!(largeB t r)) = true, decide (((t.holes.length : Nat) : Int) ≤ 60) = true, decide (((r.sizes.length : Nat) : Int) ≤ 10) = true, CallOK Try.prog 15 [(valid_frA1 t)] [1] [some (valid_frK3 t)] ((valid_frA8 t)) [(10250, some (valid_frK9 t))], CallOK Try.prog 17 [(valid_frA8 t)] [10250] [some (valid_frK9 t)] (.i (treeE t)) [], decide ((treeE t) = 0) = false] (al2 (cfr (large_fr t r (by first | omega | (simp; done) | assumption) (by first | omega | (simp; done) | assumption)) [(1, 1), (2, 2)] (dem_cons rfl (le_ro rfl el_rfl) (dem_cons rfl (le_ro rfl el_rfl) dem_nil))) (al2 h1 (al2 h2 (al2 h3 (al2 (cfr (own_fr t (by first | omega | (simp; done) | assumption)) [(1, 1), (2, 10250)] (dem_cons rfl (le_ro rfl el_rfl) dem_nil)) (al2 (cfr (CheckTree_fr t (by first | omega | (simp; done) | assumption)) [(1, 10250)] (dem_cons rfl (le_vec_ro rfl el_rfl) dem_nil)) (al1 h4))))))) ?_
     exact aw_ret ⟨.inr rfl, eok ⟨45, [1, 2], [(6, .b (decide (startE t r y = 0)))], []⟩
         (enr [] ⟨(slot_b (a := false) rfl (by first | rfl | omega | assumption | (exact valid_d (by assumption) (by assumption) (by omega)) | (exact (valid_d (by assumption) (by assumption) (by omega)).symm) | (exact (valid_t (by assumption) (by assumption) (by omega) (by omega)).symm) | (exact (valid_f (by omega)).symm) | (exact (valid_f (by have := large_yes (show largeB t r = true by simpa using (by assumption : (!(largeB t r)) = false)); omega)).symm))), trivial⟩ trivial) wr_nil⟩
   ·
    have h3p : 10 < ((r.sizes.length : Nat) : Int) := dle h3
    refine awr [(2, .call [1, 2] (.b (largeB t r)) []), (4, .dec true), (10, .dec true), (16, .dec false)]
     ⟨45, [1, 2], [(6, .b false)], []⟩
     [CallOK Try.prog 13 [(valid_frA1 t), (valid_frA2 r)] [1, 2] [some (valid_frK3 t), some (valid_frK4 r)] (.b (largeB t r)) [], (!(largeB t r)) = true, decide (((t.holes.length : Nat) : Int) ≤ 60) = true, decide (((r.sizes.length : Nat) : Int) ≤ 10) = false] (al2 (cfr (large_fr t r (by first | omega | (simp; done) | assumption) (by first | omega | (simp; done) | assumption)) [(1, 1), (2, 2)] (dem_cons rfl (le_ro rfl el_rfl) (dem_cons rfl (le_ro rfl el_rfl) dem_nil))) (al2 h1 (al2 h2 (al1 h3)))) ?_
    exact aw_ret ⟨.inr rfl, eok ⟨45, [1, 2], [(6, .b (decide (startE t r y = 0)))], []⟩
        (enr [] ⟨(slot_b (a := false) rfl (by first | rfl | omega | assumption | (exact valid_d (by assumption) (by assumption) (by omega)) | (exact (valid_d (by assumption) (by assumption) (by omega)).symm) | (exact (valid_t (by assumption) (by assumption) (by omega) (by omega)).symm) | (exact (valid_f (by omega)).symm) | (exact (valid_f (by have := large_yes (show largeB t r = true by simpa using (by assumption : (!(largeB t r)) = false)); omega)).symm))), trivial⟩ trivial) wr_nil⟩
  ·
   have h2p : 60 < ((t.holes.length : Nat) : Int) := dle h2
   refine awr [(2, .call [1, 2] (.b (largeB t r)) []), (4, .dec true), (10, .dec false)]
    ⟨45, [1, 2], [(6, .b false)], []⟩
    [CallOK Try.prog 13 [(valid_frA1 t), (valid_frA2 r)] [1, 2] [some (valid_frK3 t), some (valid_frK4 r)] (.b (largeB t r)) [], (!(largeB t r)) = true, decide (((t.holes.length : Nat) : Int) ≤ 60) = false] (al2 (cfr (large_fr t r (by first | omega | (simp; done) | assumption) (by first | omega | (simp; done) | assumption)) [(1, 1), (2, 2)] (dem_cons rfl (le_ro rfl el_rfl) (dem_cons rfl (le_ro rfl el_rfl) dem_nil))) (al2 h1 (al1 h2))) ?_
   exact aw_ret ⟨.inr rfl, eok ⟨45, [1, 2], [(6, .b (decide (startE t r y = 0)))], []⟩
       (enr [] ⟨(slot_b (a := false) rfl (by first | rfl | omega | assumption | (exact valid_d (by assumption) (by assumption) (by omega)) | (exact (valid_d (by assumption) (by assumption) (by omega)).symm) | (exact (valid_t (by assumption) (by assumption) (by omega) (by omega)).symm) | (exact (valid_f (by omega)).symm) | (exact (valid_f (by have := large_yes (show largeB t r = true by simpa using (by assumption : (!(largeB t r)) = false)); omega)).symm))), trivial⟩ trivial) wr_nil⟩
 ·
  refine awr [(2, .call [1, 2] (.b (largeB t r)) []), (4, .dec false)]
   ⟨45, [1, 2], [(6, .b false)], []⟩
   [CallOK Try.prog 13 [(valid_frA1 t), (valid_frA2 r)] [1, 2] [some (valid_frK3 t), some (valid_frK4 r)] (.b (largeB t r)) [], (!(largeB t r)) = false] (al2 (cfr (large_fr t r (by first | omega | (simp; done) | assumption) (by first | omega | (simp; done) | assumption)) [(1, 1), (2, 2)] (dem_cons rfl (le_ro rfl el_rfl) (dem_cons rfl (le_ro rfl el_rfl) dem_nil))) (al1 h1)) ?_
  exact aw_ret ⟨.inr rfl, eok ⟨45, [1, 2], [(6, .b (decide (startE t r y = 0)))], []⟩
      (enr [] ⟨(slot_b (a := false) rfl (by first | rfl | omega | assumption | (exact valid_d (by assumption) (by assumption) (by omega)) | (exact (valid_d (by assumption) (by assumption) (by omega)).symm) | (exact (valid_t (by assumption) (by assumption) (by omega) (by omega)).symm) | (exact (valid_f (by omega)).symm) | (exact (valid_f (by have := large_yes (show largeB t r = true by simpa using (by assumption : (!(largeB t r)) = false)); omega)).symm))), trivial⟩ trivial) wr_nil⟩
end Go.Proofs.Ytbpblhmigijkaaa
