/- The laws own functions. -/
import Derived.Test.YtbpblhmigijkaaaTk
import Derived.Test.YtbpblhmigijkaaaTq
namespace Go.Proofs.Ytbpblhmigijkaaa
open Go.RowKit
set_option linter.unusedVariables false
set_option linter.unusedSimpArgs false
def large_frA1 (t : TreeV) : SV := .agg [.i t.year, .i t.glo, .i t.ghi, .i t.wlo, .i t.whi, .i t.health, .ls 1]
def large_frA2 (r : RuleV) : SV := .agg [.i r.slo, .i r.shi, .i r.ulo, .i r.uhi, .i r.hlo, .i r.hhi, .i r.apart, .i r.blo, .i r.bhi, .ls 2, .i r.n0, .i r.n1, .i r.n2, .i r.n3, .i r.n4, .i r.opn]
def large_frK3 (t : TreeV) : Cn := .ro 3 t.holes.length (Lst eH t.holes)
def large_frK4 (r : RuleV) : Cn := .ro 2 r.sizes.length (Lst eZ r.sizes)
def large_frK5 (t : TreeV) : Cn := .blk 26 [.i t.year, .i t.glo, .i t.ghi, .i t.wlo, .i t.whi, .i t.health, .ls 1]
def large_frK6 (r : RuleV) : Cn := .blk 30 [.i r.slo, .i r.shi, .i r.ulo, .i r.uhi, .i r.hlo, .i r.hhi, .i r.apart, .i r.blo, .i r.bhi, .ls 2, .i r.n0, .i r.n1, .i r.n2, .i r.n3, .i r.n4, .i r.opn]
def large_frH7 (t : TreeV) (r : RuleV) : List (Nat × Option Cn) := [(1, some (large_frK3 t)), (2, some (large_frK4 r)), (1002, some (large_frK5 t)), (1003, some (large_frK6 r))]
set_option maxRecDepth 100000 in
theorem large_fr (t : TreeV) (r : RuleV) (ht : t.holes.length ≤ 9223372036854775807) (hr : r.sizes.length ≤ 9223372036854775807) : CallFr Try.prog 13 [(large_frA1 t), (large_frA2 r)] [1, 2] [some (.ro 3 t.holes.length (Lst eH t.holes)), some (.ro 2 r.sizes.length (Lst eZ r.sizes))] (.b (largeB t r)) [] := by
 refine callFr_of (fn := Try.f13) (by kernel_rfl) rfl (by kernel_rfl) (by kernel_rfl) fun E => ?_
 refine aw_ent (T := ⟨15, [1, 2], [(0, (large_frA1 t)), (1, (large_frA2 r))], [(1, some (large_frK3 t)), (2, some (large_frK4 r))]⟩) (Ent.refl _) ?_
 apply aw_seq
 refine awr [(0, .new 1002), (1, .new 1003)]
  ⟨15, [1, 2], [(2, .l (.ref 1002 0)), (3, .l (.ref 1003 0))], (large_frH7 t r)⟩
  [] trivial ?_
 apply aw_seq
 rcases Bool.eq_false_or_eq_true (decide (70 < (t.holes.length : Int))) with h1 | h1
 ·
  have h1p : 70 < (t.holes.length : Int) := dtr h1
  refine awr [(4, .dec true)]
   ⟨15, [1, 2], [(4, .b true)], []⟩
   [decide (70 < (t.holes.length : Int)) = true] (al1 h1) ?_
  exact aw_ret ⟨.inr rfl, eok ⟨15, [1, 2], [(4, .b (largeB t r))], []⟩
      (enr [] ⟨(slot_b (a := true) rfl (by first | rfl | omega | assumption | (unfold largeB; simp only [*]; rfl))), trivial⟩ trivial) wr_nil⟩
 ·
  have h1p : (t.holes.length : Int) ≤ 70 := dlt h1
  refine awr [(4, .dec false)]
   ⟨15, [1, 2], [(4, .b (decide (15 < (r.sizes.length : Int))))], []⟩
   [decide (70 < (t.holes.length : Int)) = false] (al1 h1) ?_
  exact aw_ret ⟨.inr rfl, eok ⟨15, [1, 2], [(4, .b (largeB t r))], []⟩
      (enr [] ⟨(slot_b (a := decide (15 < (r.sizes.length : Int))) rfl (by first | rfl | omega | assumption | (unfold largeB; simp only [*]; rfl))), trivial⟩ trivial) wr_nil⟩
def own_frA1 (t : TreeV) : SV := .agg [.i t.year, .i t.glo, .i t.ghi, .i t.wlo, .i t.whi, .i t.health, .ls 1]
def own_frA2 (t : TreeV) : SV := .agg [.i t.year, .i t.glo, .i t.ghi, .i t.wlo, .i t.whi, .i t.health, .ls 2]
def own_frK3 (t : TreeV) : Cn := .ro 3 t.holes.length (Lst eH t.holes)
def own_frK4 (t : TreeV) : Cn := .blk 26 [.i t.year, .i t.glo, .i t.ghi, .i t.wlo, .i t.whi, .i t.health, .ls 1]
def own_frK5  : Cn := .blk 26 [.i 0, .i 0, .i 0, .i 0, .i 0, .i 0, .v (.slice none 0 0)]
def own_frH6 (t : TreeV) : List (Nat × Option Cn) := [(1, some (own_frK3 t)), (1001, some (own_frK4 t)), (1002, some own_frK5)]
def own_frK7 (t : TreeV) : Cn := .blk 26 [.i t.year, .i t.glo, .i t.ghi, .i t.wlo, .i t.whi, .i t.health, .ls 1006]
def own_frK8 (t : TreeV) : Cn := .vec 74 3 t.holes.length (Lst eH t.holes)
def own_frH9 (t : TreeV) : List (Nat × Option Cn) := [(1001, some (own_frK7 t)), (1002, some own_frK5), (1006, some (own_frK8 t))]
def own_frK10 (t : TreeV) : Cn := .blk 26 [.i t.year, .i t.glo, .i t.ghi, .i t.wlo, .i t.whi, .i t.health, .ls 2]
set_option maxRecDepth 100000 in
theorem own_fr (t : TreeV) (ht : t.holes.length ≤ 1000000) : CallFr Try.prog 15 [(own_frA1 t)] [1] [some (.ro 3 t.holes.length (Lst eH t.holes))] ((own_frA2 t)) [(2, some (.vec 74 3 t.holes.length (Lst eH t.holes)))] := by
 refine callFr_of (fn := Try.f15) (by kernel_rfl) rfl (by kernel_rfl) (by kernel_rfl) fun E => ?_
 refine aw_ent (T := ⟨9, [1], [(0, (own_frA1 t))], [(1, some (own_frK3 t))]⟩) (Ent.refl _) ?_
 apply aw_seq
 refine awr [(0, .new 1001), (1, .new 1002)]
  ⟨9, [1], [(1, .l (.ref 1001 0)), (2, .l (.ref 1002 0))], (own_frH6 t)⟩
  [] trivial ?_
 apply aw_seq
 refine awr [(0, .new 1003), (3, .lst 1006 t.holes.length (Lst eH t.holes))]
  ⟨9, [1], [(1, .l (.ref 1001 0)), (2, .l (.ref 1002 0))], (own_frH9 t)⟩
  [0 + t.holes.length ≤ 1000000000000, (0 + t.holes.length) * 24 ≤ 140737488355328, AppOk 3 0 t.holes.length (exEl 3 []) (Lst eH t.holes) t.holes.length (Lst eH t.holes)] (al2 (by omega) (al2 (by omega) (al1 (app_nil (by first | omega | rfl | assumption))))) ?_
 apply aw_seq
 refine awr []
  ⟨9, [1], [(2, .l (.ref 1002 0))], [(1002, some (own_frK7 t)), (1006, some (own_frK8 t))]⟩
  [] trivial ?_
 exact aw_ret ⟨.inr rfl, eok ⟨9, [1], [(2, .l (.ref 8002 0))], [(2, some (own_frK8 t)), (8002, some (own_frK10 t))]⟩
     (enr [(8002, 1002), (2, 1006)] ⟨rfl, trivial⟩ (cve rfl (cbl rfl rfl trivial))) (wr_cons rfl (plain_Lst plain_eH) wr_nil)⟩
def tapsc_frA1 (r : RuleV) : SV := .agg [.i r.slo, .i r.shi, .i r.ulo, .i r.uhi, .i r.hlo, .i r.hhi, .i r.apart, .i r.blo, .i r.bhi, .ls 1, .i r.n0, .i r.n1, .i r.n2, .i r.n3, .i r.n4, .i r.opn]
def tapsc_frA2 (r : RuleV) : SV := .agg [.i r.slo, .i r.shi, .i r.ulo, .i r.uhi, .i r.hlo, .i r.hhi, .i r.apart, .i r.blo, .i r.bhi, .ls 2, .i r.n0, .i r.n1, .i r.n2, .i r.n3, .i r.n4, .i r.opn]
def tapsc_frK3 (r : RuleV) : Cn := .ro 2 r.sizes.length (Lst eZ r.sizes)
def tapsc_frK4 (r : RuleV) : Cn := .blk 30 [.i r.slo, .i r.shi, .i r.ulo, .i r.uhi, .i r.hlo, .i r.hhi, .i r.apart, .i r.blo, .i r.bhi, .ls 1, .i r.n0, .i r.n1, .i r.n2, .i r.n3, .i r.n4, .i r.opn]
def tapsc_frK5  : Cn := .blk 30 [.i 0, .i 0, .i 0, .i 0, .i 0, .i 0, .i 0, .i 0, .i 0, .v (.slice none 0 0), .i 0, .i 0, .i 0, .i 0, .i 0, .i 0]
def tapsc_frH6 (r : RuleV) : List (Nat × Option Cn) := [(1, some (tapsc_frK3 r)), (1001, some (tapsc_frK4 r)), (1002, some tapsc_frK5)]
def tapsc_frK7 (r : RuleV) : Cn := .blk 30 [.i r.slo, .i r.shi, .i r.ulo, .i r.uhi, .i r.hlo, .i r.hhi, .i r.apart, .i r.blo, .i r.bhi, .ls 1006, .i r.n0, .i r.n1, .i r.n2, .i r.n3, .i r.n4, .i r.opn]
def tapsc_frK8 (r : RuleV) : Cn := .vec 45 2 r.sizes.length (Lst eZ r.sizes)
def tapsc_frH9 (r : RuleV) : List (Nat × Option Cn) := [(1001, some (tapsc_frK7 r)), (1002, some tapsc_frK5), (1006, some (tapsc_frK8 r))]
def tapsc_frK10 (r : RuleV) : Cn := .blk 30 [.i r.slo, .i r.shi, .i r.ulo, .i r.uhi, .i r.hlo, .i r.hhi, .i r.apart, .i r.blo, .i r.bhi, .ls 2, .i r.n0, .i r.n1, .i r.n2, .i r.n3, .i r.n4, .i r.opn]
set_option maxRecDepth 100000 in
theorem tapsc_fr (r : RuleV) (hr : r.sizes.length ≤ 1000000) : CallFr Try.prog 16 [(tapsc_frA1 r)] [1] [some (.ro 2 r.sizes.length (Lst eZ r.sizes))] ((tapsc_frA2 r)) [(2, some (.vec 45 2 r.sizes.length (Lst eZ r.sizes)))] := by
 refine callFr_of (fn := Try.f16) (by kernel_rfl) rfl (by kernel_rfl) (by kernel_rfl) fun E => ?_
 refine aw_ent (T := ⟨9, [1], [(0, (tapsc_frA1 r))], [(1, some (tapsc_frK3 r))]⟩) (Ent.refl _) ?_
 apply aw_seq
 refine awr [(0, .new 1001), (1, .new 1002)]
  ⟨9, [1], [(1, .l (.ref 1001 0)), (2, .l (.ref 1002 0))], (tapsc_frH6 r)⟩
  [] trivial ?_
 apply aw_seq
 refine awr [(0, .new 1003), (3, .lst 1006 r.sizes.length (Lst eZ r.sizes))]
  ⟨9, [1], [(1, .l (.ref 1001 0)), (2, .l (.ref 1002 0))], (tapsc_frH9 r)⟩
  [0 + r.sizes.length ≤ 1000000000000, (0 + r.sizes.length) * 16 ≤ 140737488355328, AppOk 2 0 r.sizes.length (exEl 2 []) (Lst eZ r.sizes) r.sizes.length (Lst eZ r.sizes)] (al2 (by omega) (al2 (by omega) (al1 (app_nil (by first | omega | rfl | assumption))))) ?_
 apply aw_seq
 refine awr []
  ⟨9, [1], [(2, .l (.ref 1002 0))], [(1002, some (tapsc_frK7 r)), (1006, some (tapsc_frK8 r))]⟩
  [] trivial ?_
 exact aw_ret ⟨.inr rfl, eok ⟨9, [1], [(2, .l (.ref 8002 0))], [(2, some (tapsc_frK8 r)), (8002, some (tapsc_frK10 r))]⟩
     (enr [(8002, 1002), (2, 1006)] ⟨rfl, trivial⟩ (cve rfl (cbl rfl rfl trivial))) (wr_cons rfl (plain_Lst plain_eZ) wr_nil)⟩
def tree_frA1  : SV := .agg [.i exTree.year, .i exTree.glo, .i exTree.ghi, .i exTree.wlo, .i exTree.whi, .i exTree.health, .ls 1]
def tree_frK2  : Cn := .blk 26 [.i 0, .i 0, .i 0, .i 0, .i 0, .i 0, .v (.slice none 0 0)]
def tree_frK3  : Cn := .blk 26 [.i 20, .i 1200, .i 1260, .i 5, .i 10, .i 3, .ls 1005]
def tree_frK4  : Cn := .vec 74 3 1 (exEl 3 [.i 20, .i 0, .i 1000])
def tree_frK5  : Cn := .vec 74 3 exTree.holes.length (Lst eH exTree.holes)
def tree_frK6  : Cn := .blk 26 [.i exTree.year, .i exTree.glo, .i exTree.ghi, .i exTree.wlo, .i exTree.whi, .i exTree.health, .ls 1]
set_option maxRecDepth 100000 in
theorem tree_fr  : CallFr Try.prog 53 [] [] [] (tree_frA1) [(1, some (.vec 74 3 exTree.holes.length (Lst eH exTree.holes)))] := by
 refine callFr_of (fn := Try.f53) (by kernel_rfl) rfl (by kernel_rfl) (by kernel_rfl) fun E => ?_
 refine aw_ent (T := ⟨7, [], [], []⟩) (Ent.refl _) ?_
 apply aw_seq
 refine awr [(0, .new 1000)]
  ⟨7, [], [(0, .l (.ref 1000 0))], [(1000, some tree_frK2)]⟩
  [] trivial ?_
 apply aw_seq
 refine awr [(4, .new 1005)]
  ⟨7, [], [(0, .l (.ref 1000 0))], [(1000, some tree_frK3), (1005, some tree_frK4)]⟩
  [] trivial ?_
 exact aw_ret ⟨.inr rfl, eok ⟨7, [], [(0, .l (.ref 8000 0))], [(1, some tree_frK5), (8000, some tree_frK6)]⟩
     (enr [(8000, 1000), (1, 1005)] ⟨rfl, trivial⟩ (conts_cons rfl (le_vec (by first | rfl | omega | assumption) (fun | 0, _ => (fun | 0, _ => rfl | 1, _ => rfl | 2, _ => rfl | (_n + 3), h => absurd h (by omega)) | (_n + 1), h => absurd h (by omega))) (cbl rfl (by exact (cells_cons (cell_i (by first | rfl | omega | assumption)) (cells_cons (cell_i (by first | rfl | omega | assumption)) (cells_cons (cell_i (by first | rfl | omega | assumption)) (cells_cons (cell_i (by first | rfl | omega | assumption)) (cells_cons (cell_i (by first | rfl | omega | assumption)) (cells_cons (cell_i (by first | rfl | omega | assumption)) (cells_cons rfl rfl)))))))) trivial))) (wr_cons rfl (plain_Lst plain_eH) wr_nil)⟩
def rules_frA1  : SV := .agg [.i exRule.slo, .i exRule.shi, .i exRule.ulo, .i exRule.uhi, .i exRule.hlo, .i exRule.hhi, .i exRule.apart, .i exRule.blo, .i exRule.bhi, .ls 1, .i exRule.n0, .i exRule.n1, .i exRule.n2, .i exRule.n3, .i exRule.n4, .i exRule.opn]
def rules_frK2  : Cn := .blk 30 [.i 0, .i 0, .i 0, .i 0, .i 0, .i 0, .i 0, .i 0, .i 0, .v (.slice none 0 0), .i 0, .i 0, .i 0, .i 0, .i 0, .i 0]
def rules_frK3  : Cn := .blk 30 [.i 30, .i 60, .i 200, .i 300, .i 3, .i 8, .i 400, .i 600, .i 1600, .ls 1007, .i 2, .i 2, .i 2, .i 2, .i 2, .i 5]
def rules_frK4  : Cn := .vec 45 2 2 (exEl 2 [.i 800, .i 1, .i 1500, .i 2])
def rules_frK5  : Cn := .vec 45 2 exRule.sizes.length (Lst eZ exRule.sizes)
def rules_frK6  : Cn := .blk 30 [.i exRule.slo, .i exRule.shi, .i exRule.ulo, .i exRule.uhi, .i exRule.hlo, .i exRule.hhi, .i exRule.apart, .i exRule.blo, .i exRule.bhi, .ls 1, .i exRule.n0, .i exRule.n1, .i exRule.n2, .i exRule.n3, .i exRule.n4, .i exRule.opn]
set_option maxRecDepth 100000 in
theorem rules_fr  : CallFr Try.prog 25 [] [] [] (rules_frA1) [(1, some (.vec 45 2 exRule.sizes.length (Lst eZ exRule.sizes)))] := by
 refine callFr_of (fn := Try.f25) (by kernel_rfl) rfl (by kernel_rfl) (by kernel_rfl) fun E => ?_
 refine aw_ent (T := ⟨10, [], [], []⟩) (Ent.refl _) ?_
 apply aw_seq
 refine awr [(0, .new 1000)]
  ⟨10, [], [(0, .l (.ref 1000 0))], [(1000, some rules_frK2)]⟩
  [] trivial ?_
 apply aw_seq
 refine awr [(6, .new 1007)]
  ⟨10, [], [(0, .l (.ref 1000 0))], [(1000, some rules_frK3), (1007, some rules_frK4)]⟩
  [] trivial ?_
 exact aw_ret ⟨.inr rfl, eok ⟨10, [], [(0, .l (.ref 8000 0))], [(1, some rules_frK5), (8000, some rules_frK6)]⟩
     (enr [(8000, 1000), (1, 1007)] ⟨rfl, trivial⟩ (conts_cons rfl (le_vec (by first | rfl | omega | assumption) (fun | 0, _ => (fun | 0, _ => rfl | 1, _ => rfl | (_n + 2), h => absurd h (by omega)) | 1, _ => (fun | 0, _ => rfl | 1, _ => rfl | (_n + 2), h => absurd h (by omega)) | (_n + 2), h => absurd h (by omega))) (cbl rfl (by exact (cells_cons (cell_i (by first | rfl | omega | assumption)) (cells_cons (cell_i (by first | rfl | omega | assumption)) (cells_cons (cell_i (by first | rfl | omega | assumption)) (cells_cons (cell_i (by first | rfl | omega | assumption)) (cells_cons (cell_i (by first | rfl | omega | assumption)) (cells_cons (cell_i (by first | rfl | omega | assumption)) (cells_cons (cell_i (by first | rfl | omega | assumption)) (cells_cons (cell_i (by first | rfl | omega | assumption)) (cells_cons (cell_i (by first | rfl | omega | assumption)) (cells_cons rfl (cells_cons (cell_i (by first | rfl | omega | assumption)) (cells_cons (cell_i (by first | rfl | omega | assumption)) (cells_cons (cell_i (by first | rfl | omega | assumption)) (cells_cons (cell_i (by first | rfl | omega | assumption)) (cells_cons (cell_i (by first | rfl | omega | assumption)) (cells_cons (cell_i (by first | rfl | omega | assumption)) rfl))))))))))))))))) trivial))) (wr_cons rfl (plain_Lst plain_eZ) wr_nil)⟩
end Go.Proofs.Ytbpblhmigijkaaa
