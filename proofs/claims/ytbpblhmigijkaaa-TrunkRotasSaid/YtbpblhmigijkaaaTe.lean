/- Thickness, taps, what forbids. -/
import Derived.Test.YtbpblhmigijkaaaTc
namespace Go.Proofs.Ytbpblhmigijkaaa
open Go.RowKit
set_option linter.unusedVariables false
set_option linter.unusedSimpArgs false
def girth1_frK1 (t : TreeV) : Cn := .rblk [.i t.year, .i t.glo, .i t.ghi, .i t.wlo, .i t.whi, .i t.health, .ls 1]
def girth1_frK2 (t : TreeV) : Cn := .ro 3 t.holes.length (Lst eH t.holes)
def girth1_frH3 (y : Int) (t : TreeV) : List (Nat × Option Cn) := [(2, some (.rblk [.i y])), (3, some (girth1_frK1 t)), (1, some (girth1_frK2 t))]
def girth1_frH4 (t : TreeV) (y : Int) : List (Nat × Option Cn) := [(1, some (girth1_frK2 t)), (2, some (.rblk [.i y])), (3, some (girth1_frK1 t))]
set_option maxRecDepth 100000 in
theorem girth1_fr (t : TreeV) (y now grow : Int) (hy : 0 ≤ y - t.year ∧ y - t.year ≤ 9999) (hyb : 0 ≤ y ∧ y ≤ 9999) (hn : 0 ≤ now ∧ now ≤ 10000) (hg : 0 ≤ grow ∧ grow ≤ 10000) : CallFr Try.prog 90 [.i now, .i grow, .l (.ref 2 0), .l (.ref 3 0)] [2, 3, 1] [some (.rblk [.i y]), some (.rblk [.i t.year, .i t.glo, .i t.ghi, .i t.wlo, .i t.whi, .i t.health, .ls 1]), some (.ro 3 t.holes.length (Lst eH t.holes))] (.i (endV t y now grow)) [] := by
 have hm := mul_bd hg hy
 refine callFr_of (fn := Try.f90) (by kernel_rfl) rfl (by kernel_rfl) (by kernel_rfl) fun E => ?_
 refine aw_ent (T := ⟨16, [2, 3, 1], [(0, .i now), (1, .i grow), (2, .l (.ref 2 0)), (3, .l (.ref 3 0))], (girth1_frH3 y t)⟩) (Ent.refl _) ?_
 apply aw_seq
 refine awr []
  ⟨16, [2, 3, 1], [(0, .i now), (1, .i grow), (2, .l (.ref 2 0)), (3, .l (.ref 3 0))], (girth1_frH4 t y)⟩
  [] trivial ?_
 apply aw_seq
 refine awr []
  ⟨16, [2, 3, 1], [(6, .i (min 10000 (now + (grow * (y - t.year)))))], []⟩
  [-9223372036854775808 ≤ (y - t.year) ∧ (y - t.year) < 9223372036854775808, -9223372036854775808 ≤ (grow * (y - t.year)) ∧ (grow * (y - t.year)) < 9223372036854775808, -9223372036854775808 ≤ (now + (grow * (y - t.year))) ∧ (now + (grow * (y - t.year))) < 9223372036854775808] (al2 (by omega) (al2 (by omega) (al1 (by omega)))) ?_
 exact aw_ret ⟨.inr rfl, eok ⟨16, [2, 3, 1], [(6, .i (endV t y now grow))], []⟩
     (enr [] ⟨(slot_i rfl (by first | rfl | omega | assumption)), trivial⟩ trivial) wr_nil⟩
def girth_frA1 (t : TreeV) : SV := .agg [.i t.year, .i t.glo, .i t.ghi, .i t.wlo, .i t.whi, .i t.health, .ls 1]
def girth_frK2 (t : TreeV) : Cn := .ro 3 t.holes.length (Lst eH t.holes)
def girth_frK3 (t : TreeV) : Cn := .blk 26 [.i t.year, .i t.glo, .i t.ghi, .i t.wlo, .i t.whi, .i t.health, .ls 1]
def girth_frH4 (t : TreeV) (y : Int) : List (Nat × Option Cn) := [(1, some (girth_frK2 t)), (1002, some (girth_frK3 t)), (1003, some (.blk 3 [.i y])), (1004, some (.blk 23 [.i 0, .i 0]))]
def girth_frK5 (t : TreeV) (y : Int) : Cn := .blk 23 [.i (endV t y t.glo t.wlo), .i (endV t y t.ghi t.whi)]
def girth_frK6 (t : TreeV) (y : Int) : Cn := .blk 23 [.i ((girthV t y).low), .i ((girthV t y).high)]
set_option maxRecDepth 100000 in
theorem girth_fr (t : TreeV) (y : Int) (ht : TreeOk t) (hy : t.year ≤ y ∧ y ≤ 9999) : CallFr Try.prog 60 [(girth_frA1 t), .i y] [1] [some (.ro 3 t.holes.length (Lst eH t.holes))] (.agg [.i ((girthV t y).low), .i ((girthV t y).high)]) [] := by
 have h1 := ht.girth
 have h2 := ht.grow
 have h3 := ht.year
 refine callFr_of (fn := Try.f60) (by kernel_rfl) rfl (by kernel_rfl) (by kernel_rfl) fun E => ?_
 refine aw_ent (T := ⟨24, [1], [(0, (girth_frA1 t)), (1, .i y)], [(1, some (girth_frK2 t))]⟩) (Ent.refl _) ?_
 apply aw_seq
 refine awr [(0, .new 1002), (1, .new 1003), (2, .new 1004)]
  ⟨24, [1], [(2, .l (.ref 1002 0)), (3, .l (.ref 1003 0)), (4, .l (.ref 1004 0))], (girth_frH4 t y)⟩
  [] trivial ?_
 apply aw_seq
 refine awr []
  ⟨24, [1], [(2, .l (.ref 1002 0)), (4, .l (.ref 1004 0)), (5, .l (.fnc (.func 90) [1003, 1002]))], (girth_frH4 t y)⟩
  [] trivial ?_
 apply aw_seq
 refine awd [(7, .act [1003, 1002, 1] (.i (endV t y t.glo t.wlo)) []), (15, .act [1003, 1002, 1] (.i (endV t y t.ghi t.whi)) [])]
  ⟨24, [1], [(4, .l (.ref 1004 0))], [(1004, some (girth_frK5 t y))]⟩
  [ActOK Try.prog (.call ⟨.value (.tmp 7), #[(.tmp 10), (.tmp 13)], #[3, 3]⟩) 3 [.l (.fnc (.func 90) [1003, 1002]), .i t.glo, .i t.wlo] [1003, 1002, 1] [some (.blk 3 [.i y]), some (girth_frK3 t), some (girth_frK2 t)] (.i (endV t y t.glo t.wlo)) [], ActOK Try.prog (.call ⟨.value (.tmp 15), #[(.tmp 18), (.tmp 21)], #[3, 3]⟩) 3 [.l (.fnc (.func 90) [1003, 1002]), .i t.ghi, .i t.whi] [1003, 1002, 1] [some (.blk 3 [.i y]), some (girth_frK3 t), some (girth_frK2 t)] (.i (endV t y t.ghi t.whi)) []] (al2 (act_callv (by kernel_rfl) (by kernel_rfl) (cfr (girth1_fr t y t.glo t.wlo (by omega) (by omega) (by omega) (by omega)) [(2, 1003), (3, 1002), (1, 1)] (dem_cons rfl (le_blk_r rfl) (dem_cons rfl (le_blk_r rfl) (dem_cons rfl (le_ro rfl el_rfl) dem_nil))))) (al1 (act_callv (by kernel_rfl) (by kernel_rfl) (cfr (girth1_fr t y t.ghi t.whi (by omega) (by omega) (by omega) (by omega)) [(2, 1003), (3, 1002), (1, 1)] (dem_cons rfl (le_blk_r rfl) (dem_cons rfl (le_blk_r rfl) (dem_cons rfl (le_ro rfl el_rfl) dem_nil))))))) ?_
 exact aw_ret ⟨.inr rfl, eok ⟨24, [1], [(4, .l (.ref 8004 0))], [(8004, some (girth_frK6 t y))]⟩
     (enr [(8004, 1004)] ⟨rfl, trivial⟩ (cbl rfl (by exact (cells_cons (cell_i (by first | rfl | omega | assumption)) (cells_cons (cell_i (by first | rfl | omega | assumption)) rfl))) trivial)) wr_nil⟩
def isYear_frA1 (t : TreeV) : SV := .agg [.i t.year, .i t.glo, .i t.ghi, .i t.wlo, .i t.whi, .i t.health, .ls 1]
def isYear_frK2 (t : TreeV) : Cn := .ro 3 t.holes.length (Lst eH t.holes)
def isYear_frK3 (t : TreeV) : Cn := .blk 26 [.i t.year, .i t.glo, .i t.ghi, .i t.wlo, .i t.whi, .i t.health, .ls 1]
set_option maxRecDepth 100000 in
theorem isYear_fr (t : TreeV) (y : Int) : CallFr Try.prog 59 [(isYear_frA1 t), .i y] [1] [some (.ro 3 t.holes.length (Lst eH t.holes))] (.i (yearE t y)) [] := by
 refine callFr_of (fn := Try.f59) (by kernel_rfl) rfl (by kernel_rfl) (by kernel_rfl) fun E => ?_
 refine aw_ent (T := ⟨11, [1], [(0, (isYear_frA1 t)), (1, .i y)], [(1, some (isYear_frK2 t))]⟩) (Ent.refl _) ?_
 apply aw_seq
 refine awr [(0, .new 1002)]
  ⟨11, [1], [(1, .i y), (2, .l (.ref 1002 0))], [(1, some (isYear_frK2 t)), (1002, some (isYear_frK3 t))]⟩
  [] trivial ?_
 apply aw_seq
 apply aw_seq
 refine awr [(3, .new 1008), (4, .call [1008] (.b (within t.year 9999 ([y]))) [])]
  ⟨11, [1], [(10, .b (!(within t.year 9999 ([y]))))], []⟩
  [CallOK Try.prog 55 [.i t.year, .i 9999, .ls 1008] [1008] [some (.vec 3 1 1 (exEl 1 [.i y]))] (.b (within t.year 9999 ([y]))) []] (al1 (cfr (within_fr t.year 9999 ([y]) (by first | omega | (simp; done) | decide)) [(0, 1008)] (dem_cons rfl (le_vec_ro (by first | omega | rfl | assumption) (fun | 0, _ => (fun | 0, _ => rfl | (_n + 1), h => absurd h (by omega)) | (_n + 1), h => absurd h (by omega))) dem_nil))) ?_
 refine aw_cond (b := (!(within t.year 9999 ([y])))) rfl (fun h1 => ?_) (fun h1 => ?_)
 ·
  apply aw_seq
  refine awr []
   ⟨11, [1], [(4, .i 3)], []⟩
   [] trivial ?_
  exact aw_ret (ret_then ⟨.inr rfl, eok ⟨11, [1], [(4, .i (yearE t y))], []⟩
      (enr [] ⟨(slot_i rfl (by first | rfl | omega | assumption | (simp_all [yearE]))), trivial⟩ trivial) wr_nil⟩)
 ·
  apply aw_skip
  apply aw_seq
  refine awr []
   ⟨11, [1], [(4, .i 0)], []⟩
   [] trivial ?_
  exact aw_ret ⟨.inr rfl, eok ⟨11, [1], [(4, .i (yearE t y))], []⟩
      (enr [] ⟨(slot_i rfl (by first | rfl | omega | assumption | (simp_all [yearE]))), trivial⟩ trivial) wr_nil⟩
def Girth_frA1 (t : TreeV) : SV := .agg [.i t.year, .i t.glo, .i t.ghi, .i t.wlo, .i t.whi, .i t.health, .ls 1]
def Girth_frK2 (t : TreeV) : Cn := .ro 3 t.holes.length (Lst eH t.holes)
def Girth_frK3 (t : TreeV) : Cn := .blk 26 [.i t.year, .i t.glo, .i t.ghi, .i t.wlo, .i t.whi, .i t.health, .ls 1]
def Girth_frH4 (t : TreeV) : List (Nat × Option Cn) := [(1, some (Girth_frK2 t)), (1002, some (Girth_frK3 t)), (1004, some (.blk 23 [.i 0, .i 0]))]
def Girth_frK5 (t : TreeV) (y : Int) : Cn := .blk 23 [.i ((girthR t y).low), .i ((girthR t y).high)]
def Girth_frK6 (t : TreeV) (y : Int) : Cn := .blk 23 [.i ((girthV t y).low), .i ((girthV t y).high)]
set_option maxRecDepth 100000 in
theorem Girth_fr (t : TreeV) (y : Int) (ht : t.holes.length ≤ 1000000) : CallFr Try.prog 19 [(Girth_frA1 t), .i y] [1] [some (.ro 3 t.holes.length (Lst eH t.holes))] (.tup [.agg [.i ((girthR t y).low), .i ((girthR t y).high)], .one (.i (girthE t y))]) [] := by
 refine callFr_of (fn := Try.f19) (by kernel_rfl) rfl (by kernel_rfl) (by kernel_rfl) fun E => ?_
 refine aw_ent (T := ⟨24, [1], [(0, (Girth_frA1 t)), (1, .i y)], [(1, some (Girth_frK2 t))]⟩) (Ent.refl _) ?_
 apply aw_seq
 refine awr [(0, .new 1002), (1, .new 1004)]
  ⟨24, [1], [(1, .i y), (2, .l (.ref 1002 0)), (4, .l (.ref 1004 0))], (Girth_frH4 t)⟩
  [] trivial ?_
 apply aw_seq
 apply aw_seq
 refine awr [(1, .call [1] (.i (treeE t)) [])]
  ⟨24, [1], [(1, .i y), (2, .l (.ref 1002 0)), (4, .l (.ref 1004 0)), (6, .i (treeE t))], (Girth_frH4 t)⟩
  [CallOK Try.prog 17 [(Girth_frA1 t)] [1] [some (Girth_frK2 t)] (.i (treeE t)) []] (al1 (cfr (CheckTree_fr t (by first | omega | (simp; done) | assumption)) [(1, 1)] (dem_cons rfl (le_ro rfl el_rfl) dem_nil))) ?_
 apply aw_seq
 refine awr []
  ⟨24, [1], [(1, .i y), (2, .l (.ref 1002 0)), (4, .l (.ref 1004 0)), (6, .i (treeE t)), (11, .b (decide ((treeE t) ≠ 0)))], (Girth_frH4 t)⟩
  [] trivial ?_
 refine aw_cond (b := decide ((treeE t) ≠ 0)) rfl (fun h1 => ?_) (fun h1 => ?_)
 ·
  have h1p : (treeE t) ≠ 0 := dtr h1
  apply aw_seq
  refine awr []
   ⟨24, [1], [(4, .l (.ref 1004 0)), (5, .i (treeE t))], [(1004, some (.blk 23 [.i 0, .i 0]))]⟩
   [] trivial ?_
  exact aw_ret (ret_then ⟨.inr rfl, eok ⟨24, [1], [(4, .l (.ref 8004 0)), (5, .i (girthE t y))], [(8004, some (Girth_frK5 t y))]⟩
      (enr [(8004, 1004)] ⟨rfl, (slot_i rfl (by first | rfl | omega | assumption | (simp_all [girthR, girthE]))), trivial⟩ (cbl rfl (by exact (cells_cons (cell_i (by first | rfl | omega | assumption | (simp_all [girthR, girthE]))) (cells_cons (cell_i (by first | rfl | omega | assumption | (simp_all [girthR, girthE]))) rfl))) trivial)) wr_nil⟩)
 ·
  have h1p : (treeE t) = 0 := dne h1
  apply aw_skip
  apply aw_seq
  apply aw_seq
  refine awr [(2, .call [1] (.i (yearE t y)) [])]
   ⟨24, [1], [(1, .i y), (2, .l (.ref 1002 0)), (4, .l (.ref 1004 0)), (7, .i (yearE t y))], (Girth_frH4 t)⟩
   [CallOK Try.prog 59 [(Girth_frA1 t), .i y] [1] [some (Girth_frK2 t)] (.i (yearE t y)) []] (al1 (cfr (isYear_fr t y) [(1, 1)] (dem_cons rfl (le_ro rfl el_rfl) dem_nil))) ?_
  apply aw_seq
  refine awr []
   ⟨24, [1], [(1, .i y), (2, .l (.ref 1002 0)), (4, .l (.ref 1004 0)), (7, .i (yearE t y)), (18, .b (decide ((yearE t y) ≠ 0)))], (Girth_frH4 t)⟩
   [] trivial ?_
  refine aw_cond (b := decide ((yearE t y) ≠ 0)) rfl (fun h2 => ?_) (fun h2 => ?_)
  ·
   have h2p : (yearE t y) ≠ 0 := dtr h2
   apply aw_seq
   refine awr []
    ⟨24, [1], [(4, .l (.ref 1004 0)), (5, .i (yearE t y))], [(1004, some (.blk 23 [.i 0, .i 0]))]⟩
    [] trivial ?_
   exact aw_ret (ret_then ⟨.inr rfl, eok ⟨24, [1], [(4, .l (.ref 8004 0)), (5, .i (girthE t y))], [(8004, some (Girth_frK5 t y))]⟩
       (enr [(8004, 1004)] ⟨rfl, (slot_i rfl (by first | rfl | omega | assumption | (simp_all [girthR, girthE]))), trivial⟩ (cbl rfl (by exact (cells_cons (cell_i (by first | rfl | omega | assumption | (simp_all [girthR, girthE]))) (cells_cons (cell_i (by first | rfl | omega | assumption | (simp_all [girthR, girthE]))) rfl))) trivial)) wr_nil⟩)
  ·
   have h2p : (yearE t y) = 0 := dne h2
   apply aw_skip
   apply aw_seq
   refine awr [(2, .call [1] (.agg [.i ((girthV t y).low), .i ((girthV t y).high)]) [])]
    ⟨24, [1], [(4, .l (.ref 1004 0)), (5, .i 0)], [(1004, some (Girth_frK6 t y))]⟩
    [CallOK Try.prog 60 [(Girth_frA1 t), .i y] [1] [some (Girth_frK2 t)] (.agg [.i ((girthV t y).low), .i ((girthV t y).high)]) []] (al1 (cfr (girth_fr t y (by first | assumption | exact treeE_0.1 (by assumption)) (by first | assumption | exact yearE_0.1 (by assumption))) [(1, 1)] (dem_cons rfl (le_ro rfl el_rfl) dem_nil))) ?_
   exact aw_ret ⟨.inr rfl, eok ⟨24, [1], [(4, .l (.ref 8004 0)), (5, .i (girthE t y))], [(8004, some (Girth_frK5 t y))]⟩
       (enr [(8004, 1004)] ⟨rfl, (slot_i rfl (by first | rfl | omega | assumption | (simp_all [girthR, girthE]))), trivial⟩ (cbl rfl (by exact (cells_cons (cell_i (by first | rfl | omega | assumption | (simp_all [girthR, girthE]))) (cells_cons (cell_i (by first | rfl | omega | assumption | (simp_all [girthR, girthE]))) rfl))) trivial)) wr_nil⟩
def open_ok_frA1 (t : TreeV) : SV := .agg [.i t.year, .i t.glo, .i t.ghi, .i t.wlo, .i t.whi, .i t.health, .ls 1]
def open_ok_frA2 (r : RuleV) : SV := .agg [.i r.slo, .i r.shi, .i r.ulo, .i r.uhi, .i r.hlo, .i r.hhi, .i r.apart, .i r.blo, .i r.bhi, .ls 2, .i r.n0, .i r.n1, .i r.n2, .i r.n3, .i r.n4, .i r.opn]
def open_ok_frK3 (t : TreeV) : Cn := .ro 3 t.holes.length (Lst eH t.holes)
def open_ok_frK4 (r : RuleV) : Cn := .ro 2 r.sizes.length (Lst eZ r.sizes)
def open_ok_frK5 (t : TreeV) : Cn := .blk 26 [.i t.year, .i t.glo, .i t.ghi, .i t.wlo, .i t.whi, .i t.health, .ls 1]
def open_ok_frK6 (r : RuleV) : Cn := .blk 30 [.i r.slo, .i r.shi, .i r.ulo, .i r.uhi, .i r.hlo, .i r.hhi, .i r.apart, .i r.blo, .i r.bhi, .ls 2, .i r.n0, .i r.n1, .i r.n2, .i r.n3, .i r.n4, .i r.opn]
def open_ok_frH7 (t : TreeV) (r : RuleV) : List (Nat × Option Cn) := [(1, some (open_ok_frK3 t)), (2, some (open_ok_frK4 r)), (1003, some (open_ok_frK5 t)), (1004, some (open_ok_frK6 r))]
def open_ok_frK8 (t : TreeV) (r : RuleV) (y : Int) : Cn := .vec 35 1 3 (exEl 1 [.i (treeE t), .i (ruleE r), .i (yearE t y)])
def open_ok_frH9 (t : TreeV) (r : RuleV) (y : Int) : List (Nat × Option Cn) := [(1, some (open_ok_frK3 t)), (2, some (open_ok_frK4 r)), (1003, some (open_ok_frK5 t)), (1004, some (open_ok_frK6 r)), (1018, some (open_ok_frK8 t r y))]
def open_ok_frK10 (t : TreeV) (r : RuleV) (y : Int) : Cn := .vec 35 1 3 (Lst eI ([treeE t, ruleE r, yearE t y]))
def open_ok_frH11 (t : TreeV) (r : RuleV) (y : Int) : List (Nat × Option Cn) := [(1, some (open_ok_frK3 t)), (2, some (open_ok_frK4 r)), (1003, some (open_ok_frK5 t)), (1004, some (open_ok_frK6 r)), (1018, some (open_ok_frK10 t r y))]
def open_ok_frK12 (t : TreeV) (y : Int) : Cn := .blk 23 [.i ((girthV t y).low), .i ((girthV t y).high)]
def open_ok_frH13 (t : TreeV) (r : RuleV) (y : Int) : List (Nat × Option Cn) := [(1, some (open_ok_frK3 t)), (2, some (open_ok_frK4 r)), (1003, some (open_ok_frK5 t)), (1004, some (open_ok_frK6 r)), (1010, some (open_ok_frK12 t y))]
def open_ok_frK14 (t : TreeV) (r : RuleV) (y : Int) : Cn := .blk 123 [.i t.year, .i t.glo, .i t.ghi, .i t.wlo, .i t.whi, .i t.health, .ls 1, .i r.slo, .i r.shi, .i r.ulo, .i r.uhi, .i r.hlo, .i r.hhi, .i r.apart, .i r.blo, .i r.bhi, .ls 2, .i r.n0, .i r.n1, .i r.n2, .i r.n3, .i r.n4, .i r.opn, .i y, .i ((girthV t y).low), .i r.shi, .i r.uhi, .i r.hhi, .i ((girthV t y).high), .i r.slo, .i r.ulo, .i r.hlo]
def open_ok_frH15 (t : TreeV) (r : RuleV) (y : Int) : List (Nat × Option Cn) := [(1, some (open_ok_frK3 t)), (2, some (open_ok_frK4 r)), (1059, some (open_ok_frK14 t r y))]
def open_ok_frK16 (t : TreeV) (r : RuleV) (y : Int) : Cn := .blk 123 [.i ((openV t r y).t.year), .i ((openV t r y).t.glo), .i ((openV t r y).t.ghi), .i ((openV t r y).t.wlo), .i ((openV t r y).t.whi), .i ((openV t r y).t.health), .ls 1, .i ((openV t r y).r.slo), .i ((openV t r y).r.shi), .i ((openV t r y).r.ulo), .i ((openV t r y).r.uhi), .i ((openV t r y).r.hlo), .i ((openV t r y).r.hhi), .i ((openV t r y).r.apart), .i ((openV t r y).r.blo), .i ((openV t r y).r.bhi), .ls 2, .i ((openV t r y).r.n0), .i ((openV t r y).r.n1), .i ((openV t r y).r.n2), .i ((openV t r y).r.n3), .i ((openV t r y).r.n4), .i ((openV t r y).r.opn), .i ((openV t r y).year), .i ((openV t r y).worst.girth), .i ((openV t r y).worst.side), .i ((openV t r y).worst.up), .i ((openV t r y).worst.heal), .i ((openV t r y).best.girth), .i ((openV t r y).best.side), .i ((openV t r y).best.up), .i ((openV t r y).best.heal)]
set_option maxRecDepth 100000 in
theorem open_ok_fr (t : TreeV) (r : RuleV) (y : Int) (ht : t.holes.length ≤ 1000000) (hr : r.sizes.length ≤ 1000000) (h0 : startE t r y = 0) : CallFr Try.prog 61 [(open_ok_frA1 t), (open_ok_frA2 r), .i y] [1, 2] [some (.ro 3 t.holes.length (Lst eH t.holes)), some (.ro 2 r.sizes.length (Lst eZ r.sizes))] (.tup [.one (.ref 5 0), .one (.i 0)]) [(5, some (.blk 123 [.i ((openV t r y).t.year), .i ((openV t r y).t.glo), .i ((openV t r y).t.ghi), .i ((openV t r y).t.wlo), .i ((openV t r y).t.whi), .i ((openV t r y).t.health), .ls 1, .i ((openV t r y).r.slo), .i ((openV t r y).r.shi), .i ((openV t r y).r.ulo), .i ((openV t r y).r.uhi), .i ((openV t r y).r.hlo), .i ((openV t r y).r.hhi), .i ((openV t r y).r.apart), .i ((openV t r y).r.blo), .i ((openV t r y).r.bhi), .ls 2, .i ((openV t r y).r.n0), .i ((openV t r y).r.n1), .i ((openV t r y).r.n2), .i ((openV t r y).r.n3), .i ((openV t r y).r.n4), .i ((openV t r y).r.opn), .i ((openV t r y).year), .i ((openV t r y).worst.girth), .i ((openV t r y).worst.side), .i ((openV t r y).worst.up), .i ((openV t r y).worst.heal), .i ((openV t r y).best.girth), .i ((openV t r y).best.side), .i ((openV t r y).best.up), .i ((openV t r y).best.heal)]))] := by
 obtain ⟨k1, k2, k3⟩ := startE_0.1 h0
 have e1 := treeE_0.2 k1
 have e2 := ruleE_0.2 k2
 have e3 := yearE_0.2 k3
 refine callFr_of (fn := Try.f61) (by kernel_rfl) rfl (by kernel_rfl) (by kernel_rfl) fun E => ?_
 refine aw_ent (T := ⟨60, [1, 2], [(0, (open_ok_frA1 t)), (1, (open_ok_frA2 r)), (2, .i y)], [(1, some (open_ok_frK3 t)), (2, some (open_ok_frK4 r))]⟩) (Ent.refl _) ?_
 apply aw_seq
 refine awr [(0, .new 1003), (1, .new 1004)]
  ⟨60, [1, 2], [(2, .i y), (3, .l (.ref 1003 0)), (4, .l (.ref 1004 0))], (open_ok_frH7 t r)⟩
  [] trivial ?_
 apply aw_seq
 apply aw_seq
 refine awd [(1, .call [1] (.i (treeE t)) []), (3, .call [2] (.i (ruleE r)) []), (6, .call [1] (.i (yearE t y)) []), (7, .new 1018)]
  ⟨60, [1, 2], [(2, .i y), (3, .l (.ref 1003 0)), (4, .l (.ref 1004 0)), (18, .ls 1018), (19, .i 3), (20, .i 0)], (open_ok_frH9 t r y)⟩
  [CallOK Try.prog 17 [(open_ok_frA1 t)] [1] [some (open_ok_frK3 t)] (.i (treeE t)) [], CallOK Try.prog 18 [(open_ok_frA2 r)] [2] [some (open_ok_frK4 r)] (.i (ruleE r)) [], CallOK Try.prog 59 [(open_ok_frA1 t), .i y] [1] [some (open_ok_frK3 t)] (.i (yearE t y)) []] (al2 (cfr (CheckTree_fr t (by first | omega | (simp; done) | assumption)) [(1, 1)] (dem_cons rfl (le_ro rfl el_rfl) dem_nil)) (al2 (cfr (CheckRules_fr r (by first | omega | (simp; done) | assumption)) [(2, 2)] (dem_cons rfl (le_ro rfl el_rfl) dem_nil)) (al1 (cfr (isYear_fr t y) [(1, 1)] (dem_cons rfl (le_ro rfl el_rfl) dem_nil))))) ?_
 apply aw_block
 refine aw_loop (ι := Nat) (fun zz => ⟨60, [1, 2], [(2, .i y), (3, .l (.ref 1003 0)), (4, .l (.ref 1004 0)), (18, .ls 1018), (19, .i 3), (20, .i (zz : Int))], (open_ok_frH11 t r y)⟩) (fun zz => (zz ≤ 3)) (fun zz => 3 - zz) 0 (by first | omega | rfl | assumption | (simp; done))
     (enr [] ⟨rfl, rfl, rfl, rfl, rfl, rfl, trivial⟩ (cro rfl (cro rfl (cbl rfl rfl (cbl rfl rfl (conts_cons rfl (le_vec rfl (fun | 0, _ => (fun | 0, _ => rfl | (_n + 1), h => absurd h (by omega)) | 1, _ => (fun | 0, _ => rfl | (_n + 1), h => absurd h (by omega)) | 2, _ => (fun | 0, _ => rfl | (_n + 1), h => absurd h (by omega)) | (_n + 3), h => absurd h (by omega))) trivial)))))) fun zz hp => ?_
 obtain ⟨i, rfl⟩ : ∃ x, x = zz := ⟨_, rfl⟩
 have hiL := hp
 show AW _ E _ _ ⟨60, [1, 2], [(2, .i y), (3, .l (.ref 1003 0)), (4, .l (.ref 1004 0)), (18, .ls 1018), (19, .i 3), (20, .i (i : Int))], (open_ok_frH11 t r y)⟩
 apply aw_seq
 refine awr []
  ⟨60, [1, 2], [(2, .i y), (3, .l (.ref 1003 0)), (4, .l (.ref 1004 0)), (18, .ls 1018), (19, .i 3), (20, .i (i : Int)), (21, .b (decide ((i : Int) < 3)))], (open_ok_frH11 t r y)⟩
  [] trivial ?_
 apply aw_seq
 refine aw_cond (b := decide ((i : Int) < 3)) rfl (fun h1 => ?_) (fun h1 => ?_)
 ·
  have h1p : (i : Int) < 3 := dtr h1
  apply aw_skip
  apply aw_seq
  apply aw_block
  apply aw_seq
  refine awr [(0, .idx i)]
   ⟨60, [1, 2], [(2, .i y), (3, .l (.ref 1003 0)), (4, .l (.ref 1004 0)), (9, .i (ix ([treeE t, ruleE r, yearE t y]) i)), (18, .ls 1018), (19, .i 3), (20, .i (i : Int))], (open_ok_frH11 t r y)⟩
   [(i : Int) = (i : Int), i < 3, i < 3] (al2 (by omega) (al2 (by omega) (al1 (by omega)))) ?_
  apply aw_seq
  refine awr []
   ⟨60, [1, 2], [(2, .i y), (3, .l (.ref 1003 0)), (4, .l (.ref 1004 0)), (9, .i (ix ([treeE t, ruleE r, yearE t y]) i)), (18, .ls 1018), (19, .i 3), (20, .i (i : Int)), (25, .b (decide ((ix ([treeE t, ruleE r, yearE t y]) i) ≠ 0)))], (open_ok_frH11 t r y)⟩
   [] trivial ?_
  have h2 : (decide ((ix ([treeE t, ruleE r, yearE t y]) i) ≠ 0)) = false := by rw [ix3 e1 e2 e3 i] <;> rfl
  refine aw_cond (b := decide ((ix ([treeE t, ruleE r, yearE t y]) i) ≠ 0)) rfl (fun h => Bool.noConfusion (h2.symm.trans h)) (fun _ => ?_)
  apply aw_skip
  refine awr [(0, .num (((i + 1) : Nat) : Int))]
   ⟨60, [1, 2], [(2, .i y), (3, .l (.ref 1003 0)), (4, .l (.ref 1004 0)), (18, .ls 1018), (19, .i 3), (20, .i (((i + 1) : Nat) : Int))], (open_ok_frH11 t r y)⟩
   [((i : Int) + 1) = (((i + 1) : Nat) : Int), -9223372036854775808 ≤ (((i + 1) : Nat) : Int) ∧ (((i + 1) : Nat) : Int) < 9223372036854775808] (al2 (by omega) (al1 (by omega))) ?_
  exact ⟨(i + 1), (by first | omega | rfl | assumption | (simp; done)), (show 3 - (i + 1) < 3 - i by first | omega | rfl | assumption),
      (enr [] ⟨rfl, rfl, rfl, rfl, rfl, rfl, trivial⟩ (cro rfl (cro rfl (cbl rfl rfl (cbl rfl rfl (cve rfl trivial))))))⟩
 ·
  have h1p : 3 ≤ (i : Int) := dlt h1
  refine aw_exit (exit_then (exit_then (exit_in ?_)))
  apply aw_seq
  refine awr [(2, .call [1] (.agg [.i ((girthV t y).low), .i ((girthV t y).high)]) []), (3, .new 1010)]
   ⟨60, [1, 2], [(2, .i y), (3, .l (.ref 1003 0)), (4, .l (.ref 1004 0)), (10, .l (.ref 1010 0))], (open_ok_frH13 t r y)⟩
   [CallOK Try.prog 60 [(open_ok_frA1 t), .i y] [1] [some (open_ok_frK3 t)] (.agg [.i ((girthV t y).low), .i ((girthV t y).high)]) []] (al1 (cfr (girth_fr t y (by first | assumption | exact treeE_0.1 (by assumption)) (by first | assumption | exact yearE_0.1 (by assumption))) [(1, 1)] (dem_cons rfl (le_ro rfl el_rfl) dem_nil))) ?_
  apply aw_seq
  refine awr [(28, .new 1059)]
   ⟨60, [1, 2], [(6, .l (.ref 1059 0)), (7, .i 0)], (open_ok_frH15 t r y)⟩
   [] trivial ?_
  exact aw_ret ⟨.inr rfl, eok ⟨60, [1, 2], [(6, .l (.ref 5 0)), (7, .i 0)], [(5, some (open_ok_frK16 t r y))]⟩
      (enr [(5, 1059)] ⟨rfl, rfl, trivial⟩ (cbl rfl (by exact (cells_cons (cell_i (by first | rfl | omega | assumption)) (cells_cons (cell_i (by first | rfl | omega | assumption)) (cells_cons (cell_i (by first | rfl | omega | assumption)) (cells_cons (cell_i (by first | rfl | omega | assumption)) (cells_cons (cell_i (by first | rfl | omega | assumption)) (cells_cons (cell_i (by first | rfl | omega | assumption)) (cells_cons rfl (cells_cons (cell_i (by first | rfl | omega | assumption)) (cells_cons (cell_i (by first | rfl | omega | assumption)) (cells_cons (cell_i (by first | rfl | omega | assumption)) (cells_cons (cell_i (by first | rfl | omega | assumption)) (cells_cons (cell_i (by first | rfl | omega | assumption)) (cells_cons (cell_i (by first | rfl | omega | assumption)) (cells_cons (cell_i (by first | rfl | omega | assumption)) (cells_cons (cell_i (by first | rfl | omega | assumption)) (cells_cons (cell_i (by first | rfl | omega | assumption)) (cells_cons rfl (cells_cons (cell_i (by first | rfl | omega | assumption)) (cells_cons (cell_i (by first | rfl | omega | assumption)) (cells_cons (cell_i (by first | rfl | omega | assumption)) (cells_cons (cell_i (by first | rfl | omega | assumption)) (cells_cons (cell_i (by first | rfl | omega | assumption)) (cells_cons (cell_i (by first | rfl | omega | assumption)) (cells_cons (cell_i (by first | rfl | omega | assumption)) (cells_cons (cell_i (by first | rfl | omega | assumption)) (cells_cons (cell_i (by first | rfl | omega | assumption)) (cells_cons (cell_i (by first | rfl | omega | assumption)) (cells_cons (cell_i (by first | rfl | omega | assumption)) (cells_cons (cell_i (by first | rfl | omega | assumption)) (cells_cons (cell_i (by first | rfl | omega | assumption)) (cells_cons (cell_i (by first | rfl | omega | assumption)) (cells_cons (cell_i (by first | rfl | omega | assumption)) rfl))))))))))))))))))))))))))))))))) trivial)) (wr_cons rfl plain_blk wr_nil)⟩
def open_bad_frA1 (t : TreeV) : SV := .agg [.i t.year, .i t.glo, .i t.ghi, .i t.wlo, .i t.whi, .i t.health, .ls 1]
def open_bad_frA2 (r : RuleV) : SV := .agg [.i r.slo, .i r.shi, .i r.ulo, .i r.uhi, .i r.hlo, .i r.hhi, .i r.apart, .i r.blo, .i r.bhi, .ls 2, .i r.n0, .i r.n1, .i r.n2, .i r.n3, .i r.n4, .i r.opn]
def open_bad_frK3 (t : TreeV) : Cn := .ro 3 t.holes.length (Lst eH t.holes)
def open_bad_frK4 (r : RuleV) : Cn := .ro 2 r.sizes.length (Lst eZ r.sizes)
def open_bad_frK5 (t : TreeV) : Cn := .blk 26 [.i t.year, .i t.glo, .i t.ghi, .i t.wlo, .i t.whi, .i t.health, .ls 1]
def open_bad_frK6 (r : RuleV) : Cn := .blk 30 [.i r.slo, .i r.shi, .i r.ulo, .i r.uhi, .i r.hlo, .i r.hhi, .i r.apart, .i r.blo, .i r.bhi, .ls 2, .i r.n0, .i r.n1, .i r.n2, .i r.n3, .i r.n4, .i r.opn]
def open_bad_frH7 (t : TreeV) (r : RuleV) : List (Nat × Option Cn) := [(1, some (open_bad_frK3 t)), (2, some (open_bad_frK4 r)), (1003, some (open_bad_frK5 t)), (1004, some (open_bad_frK6 r))]
def open_bad_frK8 (t : TreeV) (r : RuleV) (y : Int) : Cn := .vec 35 1 3 (exEl 1 [.i (treeE t), .i (ruleE r), .i (yearE t y)])
def open_bad_frH9 (t : TreeV) (r : RuleV) (y : Int) : List (Nat × Option Cn) := [(1, some (open_bad_frK3 t)), (2, some (open_bad_frK4 r)), (1003, some (open_bad_frK5 t)), (1004, some (open_bad_frK6 r)), (1018, some (open_bad_frK8 t r y))]
def open_bad_frK10 (t : TreeV) (r : RuleV) (y : Int) : Cn := .vec 35 1 3 (Lst eI ([treeE t, ruleE r, yearE t y]))
def open_bad_frH11 (t : TreeV) (r : RuleV) (y : Int) : List (Nat × Option Cn) := [(1, some (open_bad_frK3 t)), (2, some (open_bad_frK4 r)), (1003, some (open_bad_frK5 t)), (1004, some (open_bad_frK6 r)), (1018, some (open_bad_frK10 t r y))]
set_option maxRecDepth 100000 in
theorem open_bad_fr (t : TreeV) (r : RuleV) (y : Int) (ht : t.holes.length ≤ 1000000) (hr : r.sizes.length ≤ 1000000) (h0 : startE t r y ≠ 0) : CallFr Try.prog 61 [(open_bad_frA1 t), (open_bad_frA2 r), .i y] [1, 2] [some (.ro 3 t.holes.length (Lst eH t.holes)), some (.ro 2 r.sizes.length (Lst eZ r.sizes))] (.tup [.one (.v (.pointer none)), .one (.i (startE t r y))]) [] := by
 refine callFr_of (fn := Try.f61) (by kernel_rfl) rfl (by kernel_rfl) (by kernel_rfl) fun E => ?_
 refine aw_ent (T := ⟨60, [1, 2], [(0, (open_bad_frA1 t)), (1, (open_bad_frA2 r)), (2, .i y)], [(1, some (open_bad_frK3 t)), (2, some (open_bad_frK4 r))]⟩) (Ent.refl _) ?_
 apply aw_seq
 refine awr [(0, .new 1003), (1, .new 1004)]
  ⟨60, [1, 2], [(2, .i y), (3, .l (.ref 1003 0)), (4, .l (.ref 1004 0))], (open_bad_frH7 t r)⟩
  [] trivial ?_
 apply aw_seq
 apply aw_seq
 refine awd [(1, .call [1] (.i (treeE t)) []), (3, .call [2] (.i (ruleE r)) []), (6, .call [1] (.i (yearE t y)) []), (7, .new 1018)]
  ⟨60, [1, 2], [(2, .i y), (3, .l (.ref 1003 0)), (4, .l (.ref 1004 0)), (18, .ls 1018), (19, .i 3), (20, .i 0)], (open_bad_frH9 t r y)⟩
  [CallOK Try.prog 17 [(open_bad_frA1 t)] [1] [some (open_bad_frK3 t)] (.i (treeE t)) [], CallOK Try.prog 18 [(open_bad_frA2 r)] [2] [some (open_bad_frK4 r)] (.i (ruleE r)) [], CallOK Try.prog 59 [(open_bad_frA1 t), .i y] [1] [some (open_bad_frK3 t)] (.i (yearE t y)) []] (al2 (cfr (CheckTree_fr t (by first | omega | (simp; done) | assumption)) [(1, 1)] (dem_cons rfl (le_ro rfl el_rfl) dem_nil)) (al2 (cfr (CheckRules_fr r (by first | omega | (simp; done) | assumption)) [(2, 2)] (dem_cons rfl (le_ro rfl el_rfl) dem_nil)) (al1 (cfr (isYear_fr t y) [(1, 1)] (dem_cons rfl (le_ro rfl el_rfl) dem_nil))))) ?_
 apply aw_block
 refine aw_loop (ι := Nat) (fun zz => ⟨60, [1, 2], [(2, .i y), (3, .l (.ref 1003 0)), (4, .l (.ref 1004 0)), (18, .ls 1018), (19, .i 3), (20, .i (zz : Int))], (open_bad_frH11 t r y)⟩) (fun zz => (zz ≤ 3) ∧ (∀ j, j < zz → ix [treeE t, ruleE r, yearE t y] j = 0)) (fun zz => 3 - zz) 0 ⟨(by first | omega | rfl | assumption | (simp; done)), (by intro j hj; omega)⟩
     (enr [] ⟨rfl, rfl, rfl, rfl, rfl, rfl, trivial⟩ (cro rfl (cro rfl (cbl rfl rfl (cbl rfl rfl (conts_cons rfl (le_vec rfl (fun | 0, _ => (fun | 0, _ => rfl | (_n + 1), h => absurd h (by omega)) | 1, _ => (fun | 0, _ => rfl | (_n + 1), h => absurd h (by omega)) | 2, _ => (fun | 0, _ => rfl | (_n + 1), h => absurd h (by omega)) | (_n + 3), h => absurd h (by omega))) trivial)))))) fun zz hp => ?_
 obtain ⟨i, rfl⟩ : ∃ x, x = zz := ⟨_, rfl⟩
 obtain ⟨hiL, hj⟩ := hp
 show AW _ E _ _ ⟨60, [1, 2], [(2, .i y), (3, .l (.ref 1003 0)), (4, .l (.ref 1004 0)), (18, .ls 1018), (19, .i 3), (20, .i (i : Int))], (open_bad_frH11 t r y)⟩
 apply aw_seq
 refine awr []
  ⟨60, [1, 2], [(2, .i y), (3, .l (.ref 1003 0)), (4, .l (.ref 1004 0)), (18, .ls 1018), (19, .i 3), (20, .i (i : Int)), (21, .b (decide ((i : Int) < 3)))], (open_bad_frH11 t r y)⟩
  [] trivial ?_
 apply aw_seq
 refine aw_cond (b := decide ((i : Int) < 3)) rfl (fun h1 => ?_) (fun h1 => ?_)
 ·
  have h1p : (i : Int) < 3 := dtr h1
  apply aw_skip
  apply aw_seq
  apply aw_block
  apply aw_seq
  refine awr [(0, .idx i)]
   ⟨60, [1, 2], [(2, .i y), (3, .l (.ref 1003 0)), (4, .l (.ref 1004 0)), (9, .i (ix ([treeE t, ruleE r, yearE t y]) i)), (18, .ls 1018), (19, .i 3), (20, .i (i : Int))], (open_bad_frH11 t r y)⟩
   [(i : Int) = (i : Int), i < 3, i < 3] (al2 (by omega) (al2 (by omega) (al1 (by omega)))) ?_
  apply aw_seq
  refine awr []
   ⟨60, [1, 2], [(2, .i y), (3, .l (.ref 1003 0)), (4, .l (.ref 1004 0)), (9, .i (ix ([treeE t, ruleE r, yearE t y]) i)), (18, .ls 1018), (19, .i 3), (20, .i (i : Int)), (25, .b (decide ((ix ([treeE t, ruleE r, yearE t y]) i) ≠ 0)))], (open_bad_frH11 t r y)⟩
   [] trivial ?_
  refine aw_cond (b := decide ((ix ([treeE t, ruleE r, yearE t y]) i) ≠ 0)) rfl (fun h2 => ?_) (fun h2 => ?_)
  ·
   have h2p : (ix ([treeE t, ruleE r, yearE t y]) i) ≠ 0 := dtr h2
   apply aw_seq
   refine awr []
    ⟨60, [1, 2], [(6, .l (.v (.pointer none))), (7, .i (ix ([treeE t, ruleE r, yearE t y]) i))], []⟩
    [] trivial ?_
   exact aw_ret (ret_block (ret_then (ret_then (ret_block (ret_then ⟨.inr rfl, eok ⟨60, [1, 2], [(6, .l (.v (.pointer none))), (7, .i (startE t r y))], []⟩
       (enr [] ⟨rfl, (slot_i rfl (by first | rfl | omega | assumption | (exact start_at hj (by omega) (by omega)))), trivial⟩ trivial) wr_nil⟩)))))
  ·
   have h2p : (ix ([treeE t, ruleE r, yearE t y]) i) = 0 := dne h2
   apply aw_skip
   refine awr [(0, .num (((i + 1) : Nat) : Int))]
    ⟨60, [1, 2], [(2, .i y), (3, .l (.ref 1003 0)), (4, .l (.ref 1004 0)), (18, .ls 1018), (19, .i 3), (20, .i (((i + 1) : Nat) : Int))], (open_bad_frH11 t r y)⟩
    [((i : Int) + 1) = (((i + 1) : Nat) : Int), -9223372036854775808 ≤ (((i + 1) : Nat) : Int) ∧ (((i + 1) : Nat) : Int) < 9223372036854775808] (al2 (by omega) (al1 (by omega))) ?_
   exact ⟨(i + 1), ⟨(by first | omega | rfl | assumption | (simp; done)), (by exact all0_snoc hj (by omega))⟩, (show 3 - (i + 1) < 3 - i by first | omega | rfl | assumption),
       (enr [] ⟨rfl, rfl, rfl, rfl, rfl, rfl, trivial⟩ (cro rfl (cro rfl (cbl rfl rfl (cbl rfl rfl (cve rfl trivial))))))⟩
 ·
  have h1p : 3 ≤ (i : Int) := dlt h1
  refine aw_exit (exit_then (exit_then (exit_in ?_)))
  apply aw_seq
  exact absurd (start_all (fun j h => hj j (by omega))) h0
def counts_frK1 (x : TrkV) : Cn := .rblk [.i x.t.year, .i x.t.glo, .i x.t.ghi, .i x.t.wlo, .i x.t.whi, .i x.t.health, .ls 1, .i x.r.slo, .i x.r.shi, .i x.r.ulo, .i x.r.uhi, .i x.r.hlo, .i x.r.hhi, .i x.r.apart, .i x.r.blo, .i x.r.bhi, .ls 2, .i x.r.n0, .i x.r.n1, .i x.r.n2, .i x.r.n3, .i x.r.n4, .i x.r.opn, .i x.year, .i x.worst.girth, .i x.worst.side, .i x.worst.up, .i x.worst.heal, .i x.best.girth, .i x.best.side, .i x.best.up, .i x.best.heal]
def counts_frK2 (x : TrkV) : Cn := .ro 3 x.t.holes.length (Lst eH x.t.holes)
def counts_frK3 (x : TrkV) : Cn := .ro 2 x.r.sizes.length (Lst eZ x.r.sizes)
def counts_frH4 (x : TrkV) : List (Nat × Option Cn) := [(0, some (counts_frK1 x)), (1, some (counts_frK2 x)), (2, some (counts_frK3 x))]
def counts_frK5 (h : Hol) : Cn := .blk 74 [.i h.year, .i h.angle, .i h.height]
def counts_frK6 (u : Tru) : Cn := .blk 121 [.i u.girth, .i u.side, .i u.up, .i u.heal]
def counts_frH7 (x : TrkV) (h : Hol) (u : Tru) : List (Nat × Option Cn) := [(0, some (counts_frK1 x)), (1, some (counts_frK2 x)), (2, some (counts_frK3 x)), (1004, some (counts_frK5 h)), (1005, some (counts_frK6 u))]
set_option maxRecDepth 100000 in
theorem counts_fr (x : TrkV) (h : Hol) (u : Tru) (hx : TrkOk x) (hh : holeOk h) : CallFr Try.prog 91 [.l (.ref 0 0), .agg [.i h.year, .i h.angle, .i h.height], .agg [.i u.girth, .i u.side, .i u.up, .i u.heal]] [0, 1, 2] [some (.rblk [.i x.t.year, .i x.t.glo, .i x.t.ghi, .i x.t.wlo, .i x.t.whi, .i x.t.health, .ls 1, .i x.r.slo, .i x.r.shi, .i x.r.ulo, .i x.r.uhi, .i x.r.hlo, .i x.r.hhi, .i x.r.apart, .i x.r.blo, .i x.r.bhi, .ls 2, .i x.r.n0, .i x.r.n1, .i x.r.n2, .i x.r.n3, .i x.r.n4, .i x.r.opn, .i x.year, .i x.worst.girth, .i x.worst.side, .i x.worst.up, .i x.worst.heal, .i x.best.girth, .i x.best.side, .i x.best.up, .i x.best.heal]), some (.ro 3 x.t.holes.length (Lst eH x.t.holes)), some (.ro 2 x.r.sizes.length (Lst eZ x.r.sizes))] (.b (countsV x.year h u)) [] := by
 have h1 := hx.t.year
 have h2 := hx.year
 have h3 := hh.1
 refine callFr_of (fn := Try.f91) (by kernel_rfl) rfl (by kernel_rfl) (by kernel_rfl) fun E => ?_
 refine aw_ent (T := ⟨17, [0, 1, 2], [(0, .l (.ref 0 0)), (1, .agg [.i h.year, .i h.angle, .i h.height]), (2, .agg [.i u.girth, .i u.side, .i u.up, .i u.heal])], (counts_frH4 x)⟩) (Ent.refl _) ?_
 apply aw_seq
 refine awr [(0, .new 1004), (1, .new 1005)]
  ⟨17, [0, 1, 2], [(0, .l (.ref 0 0)), (4, .l (.ref 1004 0)), (5, .l (.ref 1005 0))], (counts_frH7 x h u)⟩
  [] trivial ?_
 apply aw_seq
 refine awd []
  ⟨17, [0, 1, 2], [(6, .b (decide ((x.year - h.year) < u.heal)))], []⟩
  [-9223372036854775808 ≤ (x.year - h.year) ∧ (x.year - h.year) < 9223372036854775808] (al1 (by omega)) ?_
 exact aw_ret ⟨.inr rfl, eok ⟨17, [0, 1, 2], [(6, .b (countsV x.year h u))], []⟩
     (enr [] ⟨(slot_b (a := decide ((x.year - h.year) < u.heal)) rfl (by first | rfl | omega | assumption)), trivial⟩ trivial) wr_nil⟩
def level_frK1 (u : Tru) : Cn := .blk 121 [.i u.girth, .i u.side, .i u.up, .i u.heal]
def level_frK2 (h : Hol) : Cn := .blk 74 [.i h.year, .i h.angle, .i h.height]
set_option maxRecDepth 100000 in
theorem level_fr (u : Tru) (h : Hol) (e : Int) (hh : holeOk h) (he : -1000000 ≤ e ∧ e ≤ 1000000) : CallFr Try.prog 92 [.agg [.i u.girth, .i u.side, .i u.up, .i u.heal], .agg [.i h.year, .i h.angle, .i h.height], .i e] [] [] (.b (levelV u h e)) [] := by
 have h3 := hh.2.2
 refine callFr_of (fn := Try.f92) (by kernel_rfl) rfl (by kernel_rfl) (by kernel_rfl) fun E => ?_
 refine aw_ent (T := ⟨21, [], [(0, .agg [.i u.girth, .i u.side, .i u.up, .i u.heal]), (1, .agg [.i h.year, .i h.angle, .i h.height]), (2, .i e)], []⟩) (Ent.refl _) ?_
 apply aw_seq
 refine awr [(0, .new 1003), (1, .new 1004)]
  ⟨21, [], [(2, .i e), (3, .l (.ref 1003 0)), (4, .l (.ref 1004 0))], [(1003, some (level_frK1 u)), (1004, some (level_frK2 h))]⟩
  [] trivial ?_
 apply aw_seq
 refine awr []
  ⟨21, [], [(6, .b (decide ((max (h.height - e) (e - h.height)) < u.up)))], []⟩
  [-9223372036854775808 ≤ (h.height - e) ∧ (h.height - e) < 9223372036854775808, -9223372036854775808 ≤ (e - h.height) ∧ (e - h.height) < 9223372036854775808] (al2 (by omega) (al1 (by omega))) ?_
 exact aw_ret ⟨.inr rfl, eok ⟨21, [], [(6, .b (levelV u h e))], []⟩
     (enr [] ⟨(slot_b (a := decide ((max (h.height - e) (e - h.height)) < u.up)) rfl (by first | rfl | omega | assumption)), trivial⟩ trivial) wr_nil⟩
set_option maxRecDepth 100000 in
theorem turn_fr (a b : Int) (ha : 0 ≤ a ∧ a ≤ 1000000) (hb : 0 ≤ b ∧ b ≤ 1000000) : CallFr Try.prog 101 [.i a, .i b] [] [] (.i (turnV a b)) [] := by
 refine callFr_of (fn := Try.f101) (by kernel_rfl) rfl (by kernel_rfl) (by kernel_rfl) fun E => ?_
 refine aw_ent (T := ⟨17, [], [(0, .i a), (1, .i b)], []⟩) (Ent.refl _) ?_
 apply aw_seq
 refine awr []
  ⟨17, [], [(0, .i a), (1, .i b)], []⟩
  [] trivial ?_
 apply aw_seq
 refine awr []
  ⟨17, [], [(5, .i (max (a - b) (b - a)))], []⟩
  [-9223372036854775808 ≤ (a - b) ∧ (a - b) < 9223372036854775808, -9223372036854775808 ≤ (b - a) ∧ (b - a) < 9223372036854775808] (al2 (by omega) (al1 (by omega))) ?_
 apply aw_seq
 refine awr []
  ⟨17, [], [(4, .i (min (max (a - b) (b - a)) (3600 - (max (a - b) (b - a)))))], []⟩
  [-9223372036854775808 ≤ (3600 - (max (a - b) (b - a))) ∧ (3600 - (max (a - b) (b - a))) < 9223372036854775808] (al1 (by omega)) ?_
 exact aw_ret ⟨.inr rfl, eok ⟨17, [], [(4, .i (turnV a b))], []⟩
     (enr [] ⟨(slot_i rfl (by first | rfl | omega | assumption)), trivial⟩ trivial) wr_nil⟩
def forbids_frK1 (x : TrkV) : Cn := .rblk [.i x.t.year, .i x.t.glo, .i x.t.ghi, .i x.t.wlo, .i x.t.whi, .i x.t.health, .ls 1, .i x.r.slo, .i x.r.shi, .i x.r.ulo, .i x.r.uhi, .i x.r.hlo, .i x.r.hhi, .i x.r.apart, .i x.r.blo, .i x.r.bhi, .ls 2, .i x.r.n0, .i x.r.n1, .i x.r.n2, .i x.r.n3, .i x.r.n4, .i x.r.opn, .i x.year, .i x.worst.girth, .i x.worst.side, .i x.worst.up, .i x.worst.heal, .i x.best.girth, .i x.best.side, .i x.best.up, .i x.best.heal]
def forbids_frK2 (x : TrkV) : Cn := .ro 3 x.t.holes.length (Lst eH x.t.holes)
def forbids_frK3 (x : TrkV) : Cn := .ro 2 x.r.sizes.length (Lst eZ x.r.sizes)
def forbids_frH4 (x : TrkV) : List (Nat × Option Cn) := [(0, some (forbids_frK1 x)), (1, some (forbids_frK2 x)), (2, some (forbids_frK3 x))]
def forbids_frK5 (h : Hol) : Cn := .blk 74 [.i h.year, .i h.angle, .i h.height]
def forbids_frK6 (s : Spt) : Cn := .blk 72 [.i s.angle, .i s.height]
def forbids_frK7 (u : Tru) : Cn := .blk 121 [.i u.girth, .i u.side, .i u.up, .i u.heal]
def forbids_frH8 (x : TrkV) (h : Hol) (s : Spt) (u : Tru) : List (Nat × Option Cn) := [(0, some (forbids_frK1 x)), (1, some (forbids_frK2 x)), (2, some (forbids_frK3 x)), (1005, some (forbids_frK5 h)), (1006, some (forbids_frK6 s)), (1007, some (forbids_frK7 u))]
set_option maxRecDepth 100000 in
theorem forbids_fr (x : TrkV) (h : Hol) (s : Spt) (u : Tru) (hx : TrkOk x) (hh : holeOk h) (hs : (0 ≤ s.angle ∧ s.angle ≤ 3599) ∧ (0 ≤ s.height ∧ s.height ≤ 5000)) (hu : TruOk u) : CallFr Try.prog 99 [.l (.ref 0 0), .agg [.i h.year, .i h.angle, .i h.height], .agg [.i s.angle, .i s.height], .agg [.i u.girth, .i u.side, .i u.up, .i u.heal]] [0, 1, 2] [some (.rblk [.i x.t.year, .i x.t.glo, .i x.t.ghi, .i x.t.wlo, .i x.t.whi, .i x.t.health, .ls 1, .i x.r.slo, .i x.r.shi, .i x.r.ulo, .i x.r.uhi, .i x.r.hlo, .i x.r.hhi, .i x.r.apart, .i x.r.blo, .i x.r.bhi, .ls 2, .i x.r.n0, .i x.r.n1, .i x.r.n2, .i x.r.n3, .i x.r.n4, .i x.r.opn, .i x.year, .i x.worst.girth, .i x.worst.side, .i x.worst.up, .i x.worst.heal, .i x.best.girth, .i x.best.side, .i x.best.up, .i x.best.heal]), some (.ro 3 x.t.holes.length (Lst eH x.t.holes)), some (.ro 2 x.r.sizes.length (Lst eZ x.r.sizes))] (.b (forbidsV x.year h s u)) [] := by
 have h1 := hh.2
 have h2 := hu.girth
 have h3 := hu.side
 have hm := turn_mul (a := h.angle) (b := s.angle) h1.1 hs.1 h2
 refine callFr_of (fn := Try.f99) (by kernel_rfl) rfl (by kernel_rfl) (by kernel_rfl) fun E => ?_
 refine aw_ent (T := ⟨35, [0, 1, 2], [(0, .l (.ref 0 0)), (1, .agg [.i h.year, .i h.angle, .i h.height]), (2, .agg [.i s.angle, .i s.height]), (3, .agg [.i u.girth, .i u.side, .i u.up, .i u.heal])], (forbids_frH4 x)⟩) (Ent.refl _) ?_
 apply aw_seq
 refine awr [(0, .new 1005), (1, .new 1006), (2, .new 1007)]
  ⟨35, [0, 1, 2], [(0, .l (.ref 0 0)), (5, .l (.ref 1005 0)), (6, .l (.ref 1006 0)), (7, .l (.ref 1007 0))], (forbids_frH8 x h s u)⟩
  [] trivial ?_
 apply aw_seq
 rcases Bool.eq_false_or_eq_true ((countsV x.year h u)) with h1 | h1
 ·
  rcases Bool.eq_false_or_eq_true ((levelV u h s.height)) with h2 | h2
  ·
   refine awd [(3, .call [0, 1, 2] (.b (countsV x.year h u)) []), (4, .dec true), (9, .call [] (.b (levelV u h s.height)) []), (11, .dec true), (17, .call [] (.i (turnV h.angle s.angle)) [])]
    ⟨35, [0, 1, 2], [(8, .b (decide (((turnV h.angle s.angle) * u.girth) < (3600 * u.side))))], []⟩
    [CallOK Try.prog 91 [.l (.ref 0 0), .agg [.i h.year, .i h.angle, .i h.height], .agg [.i u.girth, .i u.side, .i u.up, .i u.heal]] [0, 1, 2] [some (forbids_frK1 x), some (forbids_frK2 x), some (forbids_frK3 x)] (.b (countsV x.year h u)) [], (countsV x.year h u) = true, CallOK Try.prog 92 [.agg [.i u.girth, .i u.side, .i u.up, .i u.heal], .agg [.i h.year, .i h.angle, .i h.height], .i s.height] [] [] (.b (levelV u h s.height)) [], (levelV u h s.height) = true, CallOK Try.prog 101 [.i h.angle, .i s.angle] [] [] (.i (turnV h.angle s.angle)) [], -9223372036854775808 ≤ ((turnV h.angle s.angle) * u.girth) ∧ ((turnV h.angle s.angle) * u.girth) < 9223372036854775808, -9223372036854775808 ≤ (3600 * u.side) ∧ (3600 * u.side) < 9223372036854775808] (al2 (cfr (counts_fr x h u (by assumption) (by first | assumption | exact (TrkOk.t (by assumption)).hole _ (ix_mem (by omega)))) [(0, 0), (1, 1), (2, 2)] (dem_cons rfl (le_rblk rfl) (dem_cons rfl (le_ro rfl el_rfl) (dem_cons rfl (le_ro rfl el_rfl) dem_nil)))) (al2 h1 (al2 (cfr (level_fr u h s.height (by first | assumption | exact (TrkOk.t (by assumption)).hole _ (ix_mem (by omega))) (by omega)) [] dem_nil) (al2 h2 (al2 (cfr (turn_fr h.angle s.angle (by omega) (by omega)) [] dem_nil) (al2 (by omega) (al1 (by omega)))))))) ?_
   exact aw_ret ⟨.inr rfl, eok ⟨35, [0, 1, 2], [(8, .b (forbidsV x.year h s u))], []⟩
       (enr [] ⟨(slot_b (a := decide (((turnV h.angle s.angle) * u.girth) < (3600 * u.side))) rfl (by first | rfl | omega | assumption | (simp_all [forbidsV]))), trivial⟩ trivial) wr_nil⟩
  ·
   refine awd [(3, .call [0, 1, 2] (.b (countsV x.year h u)) []), (4, .dec true), (9, .call [] (.b (levelV u h s.height)) []), (11, .dec false)]
    ⟨35, [0, 1, 2], [(8, .b false)], []⟩
    [CallOK Try.prog 91 [.l (.ref 0 0), .agg [.i h.year, .i h.angle, .i h.height], .agg [.i u.girth, .i u.side, .i u.up, .i u.heal]] [0, 1, 2] [some (forbids_frK1 x), some (forbids_frK2 x), some (forbids_frK3 x)] (.b (countsV x.year h u)) [], (countsV x.year h u) = true, CallOK Try.prog 92 [.agg [.i u.girth, .i u.side, .i u.up, .i u.heal], .agg [.i h.year, .i h.angle, .i h.height], .i s.height] [] [] (.b (levelV u h s.height)) [], (levelV u h s.height) = false] (al2 (cfr (counts_fr x h u (by assumption) (by first | assumption | exact (TrkOk.t (by assumption)).hole _ (ix_mem (by omega)))) [(0, 0), (1, 1), (2, 2)] (dem_cons rfl (le_rblk rfl) (dem_cons rfl (le_ro rfl el_rfl) (dem_cons rfl (le_ro rfl el_rfl) dem_nil)))) (al2 h1 (al2 (cfr (level_fr u h s.height (by first | assumption | exact (TrkOk.t (by assumption)).hole _ (ix_mem (by omega))) (by omega)) [] dem_nil) (al1 h2)))) ?_
   exact aw_ret ⟨.inr rfl, eok ⟨35, [0, 1, 2], [(8, .b (forbidsV x.year h s u))], []⟩
       (enr [] ⟨(slot_b (a := false) rfl (by first | rfl | omega | assumption | (simp_all [forbidsV]))), trivial⟩ trivial) wr_nil⟩
 ·
  refine awd [(3, .call [0, 1, 2] (.b (countsV x.year h u)) []), (4, .dec false)]
   ⟨35, [0, 1, 2], [(8, .b false)], []⟩
   [CallOK Try.prog 91 [.l (.ref 0 0), .agg [.i h.year, .i h.angle, .i h.height], .agg [.i u.girth, .i u.side, .i u.up, .i u.heal]] [0, 1, 2] [some (forbids_frK1 x), some (forbids_frK2 x), some (forbids_frK3 x)] (.b (countsV x.year h u)) [], (countsV x.year h u) = false] (al2 (cfr (counts_fr x h u (by assumption) (by first | assumption | exact (TrkOk.t (by assumption)).hole _ (ix_mem (by omega)))) [(0, 0), (1, 1), (2, 2)] (dem_cons rfl (le_rblk rfl) (dem_cons rfl (le_ro rfl el_rfl) (dem_cons rfl (le_ro rfl el_rfl) dem_nil)))) (al1 h1)) ?_
  exact aw_ret ⟨.inr rfl, eok ⟨35, [0, 1, 2], [(8, .b (forbidsV x.year h s u))], []⟩
      (enr [] ⟨(slot_b (a := false) rfl (by first | rfl | omega | assumption | (simp_all [forbidsV]))), trivial⟩ trivial) wr_nil⟩
def taps_frK1 (x : TrkV) : Cn := .rblk [.i x.t.year, .i x.t.glo, .i x.t.ghi, .i x.t.wlo, .i x.t.whi, .i x.t.health, .ls 1, .i x.r.slo, .i x.r.shi, .i x.r.ulo, .i x.r.uhi, .i x.r.hlo, .i x.r.hhi, .i x.r.apart, .i x.r.blo, .i x.r.bhi, .ls 2, .i x.r.n0, .i x.r.n1, .i x.r.n2, .i x.r.n3, .i x.r.n4, .i x.r.opn, .i x.year, .i x.worst.girth, .i x.worst.side, .i x.worst.up, .i x.worst.heal, .i x.best.girth, .i x.best.side, .i x.best.up, .i x.best.heal]
def taps_frK2 (x : TrkV) : Cn := .ro 3 x.t.holes.length (Lst eH x.t.holes)
def taps_frK3 (x : TrkV) : Cn := .ro 2 x.r.sizes.length (Lst eZ x.r.sizes)
def taps_frH4 (x : TrkV) : List (Nat × Option Cn) := [(0, some (taps_frK1 x)), (1, some (taps_frK2 x)), (2, some (taps_frK3 x))]
def taps_frK5 (u : Tru) : Cn := .blk 121 [.i u.girth, .i u.side, .i u.up, .i u.heal]
def taps_frH6 (x : TrkV) (u : Tru) : List (Nat × Option Cn) := [(0, some (taps_frK1 x)), (1, some (taps_frK2 x)), (2, some (taps_frK3 x)), (1003, some (taps_frK5 u))]
def taps_frK7 (x : TrkV) (i : Nat) : Cn := .blk 45 [.i ((ix x.r.sizes i).girth), .i ((ix x.r.sizes i).taps)]
def taps_frH8 (x : TrkV) (u : Tru) (i : Nat) : List (Nat × Option Cn) := [(0, some (taps_frK1 x)), (1, some (taps_frK2 x)), (2, some (taps_frK3 x)), (1003, some (taps_frK5 u)), (1007, some (taps_frK7 x i))]
def taps_frK9 (x : TrkV) (j : Nat) : Cn := .blk 74 [.i ((ix x.t.holes j).year), .i ((ix x.t.holes j).angle), .i ((ix x.t.holes j).height)]
def taps_frH10 (x : TrkV) (u : Tru) (j : Nat) : List (Nat × Option Cn) := [(0, some (taps_frK1 x)), (1, some (taps_frK2 x)), (2, some (taps_frK3 x)), (1003, some (taps_frK5 u)), (1010, some (taps_frK9 x j))]
def taps_frA11 (x : TrkV) (j : Nat) : SV := .agg [.i ((ix x.t.holes j).year), .i ((ix x.t.holes j).angle), .i ((ix x.t.holes j).height)]
set_option maxRecDepth 100000 in
theorem taps_fr (x : TrkV) (u : Tru) (hx : TrkOk x) (hu : TruOk u) : CallFr Try.prog 62 [.l (.ref 0 0), .agg [.i u.girth, .i u.side, .i u.up, .i u.heal]] [0, 1, 2] [some (.rblk [.i x.t.year, .i x.t.glo, .i x.t.ghi, .i x.t.wlo, .i x.t.whi, .i x.t.health, .ls 1, .i x.r.slo, .i x.r.shi, .i x.r.ulo, .i x.r.uhi, .i x.r.hlo, .i x.r.hhi, .i x.r.apart, .i x.r.blo, .i x.r.bhi, .ls 2, .i x.r.n0, .i x.r.n1, .i x.r.n2, .i x.r.n3, .i x.r.n4, .i x.r.opn, .i x.year, .i x.worst.girth, .i x.worst.side, .i x.worst.up, .i x.worst.heal, .i x.best.girth, .i x.best.side, .i x.best.up, .i x.best.heal]), some (.ro 3 x.t.holes.length (Lst eH x.t.holes)), some (.ro 2 x.r.sizes.length (Lst eZ x.r.sizes))] (.i (tapsV x u)) [] := by
 have h1 := hx.t.len
 have h2 := hx.r.len
 have h3 := hx.r.opn
 have h4 := hx.t.health
 refine callFr_of (fn := Try.f62) (by kernel_rfl) rfl (by kernel_rfl) (by kernel_rfl) fun E => ?_
 refine aw_ent (T := ⟨66, [0, 1, 2], [(0, .l (.ref 0 0)), (1, .agg [.i u.girth, .i u.side, .i u.up, .i u.heal])], (taps_frH4 x)⟩) (Ent.refl _) ?_
 apply aw_seq
 refine awr [(0, .new 1003)]
  ⟨66, [0, 1, 2], [(0, .l (.ref 0 0)), (3, .l (.ref 1003 0))], (taps_frH6 x u)⟩
  [] trivial ?_
 apply aw_seq
 refine awr []
  ⟨66, [0, 1, 2], [(0, .l (.ref 0 0)), (3, .l (.ref 1003 0)), (5, .i 0)], (taps_frH6 x u)⟩
  [] trivial ?_
 apply aw_seq
 apply aw_seq
 refine awr []
  ⟨66, [0, 1, 2], [(0, .l (.ref 0 0)), (3, .l (.ref 1003 0)), (5, .i 0), (15, .ls 2), (16, .i (x.r.sizes.length : Int)), (17, .i 0)], (taps_frH6 x u)⟩
  [] trivial ?_
 apply aw_block
 refine aw_loop (ι := Nat × Int) (fun zz => ⟨66, [0, 1, 2], [(0, .l (.ref 0 0)), (3, .l (.ref 1003 0)), (5, .i zz.2), (15, .ls 2), (16, .i (x.r.sizes.length : Int)), (17, .i (zz.1 : Int))], (taps_frH6 x u)⟩) (fun zz => (zz.1 ≤ x.r.sizes.length) ∧ (sizeV u.girth zz.2 (x.r.sizes.drop zz.1) = sizeV u.girth 0 x.r.sizes)) (fun zz => x.r.sizes.length - zz.1) (0, 0) ⟨(by (try dsimp only); first | omega | rfl | assumption | (simp; done)), (by (try dsimp only); first | omega | rfl | assumption | (simp; done))⟩
     (enr [] ⟨rfl, rfl, rfl, rfl, rfl, rfl, trivial⟩ (crr rfl rfl (cro rfl (cro rfl (cbl rfl rfl trivial))))) fun zz hp => ?_
 obtain ⟨i, k⟩ := zz
 obtain ⟨hiL, hs⟩ := hp
 dsimp only at hiL hs
 show AW _ E _ _ ⟨66, [0, 1, 2], [(0, .l (.ref 0 0)), (3, .l (.ref 1003 0)), (5, .i k), (15, .ls 2), (16, .i (x.r.sizes.length : Int)), (17, .i (i : Int))], (taps_frH6 x u)⟩
 apply aw_seq
 refine awr []
  ⟨66, [0, 1, 2], [(0, .l (.ref 0 0)), (3, .l (.ref 1003 0)), (5, .i k), (15, .ls 2), (16, .i (x.r.sizes.length : Int)), (17, .i (i : Int)), (18, .b (decide ((i : Int) < (x.r.sizes.length : Int))))], (taps_frH6 x u)⟩
  [] trivial ?_
 apply aw_seq
 refine aw_cond (b := decide ((i : Int) < (x.r.sizes.length : Int))) rfl (fun h1 => ?_) (fun h1 => ?_)
 ·
  have h1p : (i : Int) < (x.r.sizes.length : Int) := dtr h1
  apply aw_skip
  apply aw_seq
  apply aw_block
  apply aw_seq
  refine awr [(0, .idx i), (2, .new 1007)]
   ⟨66, [0, 1, 2], [(0, .l (.ref 0 0)), (3, .l (.ref 1003 0)), (5, .i k), (7, .l (.ref 1007 0)), (15, .ls 2), (16, .i (x.r.sizes.length : Int)), (17, .i (i : Int))], (taps_frH8 x u i)⟩
   [(i : Int) = (i : Int), i < x.r.sizes.length, i < x.r.sizes.length] (al2 (by omega) (al2 (by omega) (al1 (by omega)))) ?_
  apply aw_seq
  refine awr []
   ⟨66, [0, 1, 2], [(0, .l (.ref 0 0)), (3, .l (.ref 1003 0)), (5, .i k), (7, .l (.ref 1007 0)), (15, .ls 2), (16, .i (x.r.sizes.length : Int)), (17, .i (i : Int)), (25, .b (decide ((ix x.r.sizes i).girth ≤ u.girth)))], (taps_frH8 x u i)⟩
   [] trivial ?_
  refine aw_cond (b := decide ((ix x.r.sizes i).girth ≤ u.girth)) rfl (fun h2 => ?_) (fun h2 => ?_)
  ·
   have h2p : (ix x.r.sizes i).girth ≤ u.girth := dtr h2
   refine awr []
    ⟨66, [0, 1, 2], [(0, .l (.ref 0 0)), (3, .l (.ref 1003 0)), (5, .i ((ix x.r.sizes i).taps)), (15, .ls 2), (16, .i (x.r.sizes.length : Int)), (17, .i (i : Int))], (taps_frH6 x u)⟩
    [] trivial ?_
   refine awr [(0, .num (((i + 1) : Nat) : Int))]
    ⟨66, [0, 1, 2], [(0, .l (.ref 0 0)), (3, .l (.ref 1003 0)), (5, .i ((ix x.r.sizes i).taps)), (15, .ls 2), (16, .i (x.r.sizes.length : Int)), (17, .i (((i + 1) : Nat) : Int))], (taps_frH6 x u)⟩
    [((i : Int) + 1) = (((i + 1) : Nat) : Int), -9223372036854775808 ≤ (((i + 1) : Nat) : Int) ∧ (((i + 1) : Nat) : Int) < 9223372036854775808] (al2 (by omega) (al1 (by omega))) ?_
   exact ⟨((i + 1), (ix x.r.sizes i).taps), ⟨(by (try dsimp only); first | omega | rfl | assumption | (simp; done)), (by (try dsimp only); rw [← hs, drop_ix (by omega : i < x.r.sizes.length)]; simp only [sizeV]; first | rw [if_pos (by omega)] | rw [if_neg (by omega)])⟩, (show x.r.sizes.length - (i + 1) < x.r.sizes.length - i by first | omega | rfl | assumption),
       (enr [] ⟨rfl, rfl, rfl, rfl, rfl, rfl, trivial⟩ (crr rfl rfl (cro rfl (cro rfl (cbl rfl rfl trivial)))))⟩
  ·
   have h2p : u.girth < (ix x.r.sizes i).girth := dle h2
   apply aw_skip
   refine awr [(0, .num (((i + 1) : Nat) : Int))]
    ⟨66, [0, 1, 2], [(0, .l (.ref 0 0)), (3, .l (.ref 1003 0)), (5, .i k), (15, .ls 2), (16, .i (x.r.sizes.length : Int)), (17, .i (((i + 1) : Nat) : Int))], (taps_frH6 x u)⟩
    [((i : Int) + 1) = (((i + 1) : Nat) : Int), -9223372036854775808 ≤ (((i + 1) : Nat) : Int) ∧ (((i + 1) : Nat) : Int) < 9223372036854775808] (al2 (by omega) (al1 (by omega))) ?_
   exact ⟨((i + 1), k), ⟨(by (try dsimp only); first | omega | rfl | assumption | (simp; done)), (by (try dsimp only); rw [← hs, drop_ix (by omega : i < x.r.sizes.length)]; simp only [sizeV]; first | rw [if_pos (by omega)] | rw [if_neg (by omega)])⟩, (show x.r.sizes.length - (i + 1) < x.r.sizes.length - i by first | omega | rfl | assumption),
       (enr [] ⟨rfl, rfl, rfl, rfl, rfl, rfl, trivial⟩ (crr rfl rfl (cro rfl (cro rfl (cbl rfl rfl trivial)))))⟩
 ·
  have h1p : (x.r.sizes.length : Int) ≤ (i : Int) := dlt h1
  refine aw_exit (exit_then (exit_then (exit_in ?_)))
  apply aw_seq
  have hz : k = sizeV u.girth 0 x.r.sizes := by
   rw [← hs, List.drop_eq_nil_of_le (by omega)]
   rfl
  refine awr []
   ⟨66, [0, 1, 2], [(0, .l (.ref 0 0)), (3, .l (.ref 1003 0)), (5, .i k), (8, .i x.r.opn)], (taps_frH6 x u)⟩
   [] trivial ?_
  apply aw_seq
  apply aw_seq
  refine awr []
   ⟨66, [0, 1, 2], [(0, .l (.ref 0 0)), (3, .l (.ref 1003 0)), (5, .i k), (8, .i x.r.opn), (38, .ls 1), (39, .i (x.t.holes.length : Int)), (40, .i 0)], (taps_frH6 x u)⟩
   [] trivial ?_
  apply aw_block
  refine aw_loop (ι := Nat × Int) (fun zz => ⟨66, [0, 1, 2], [(0, .l (.ref 0 0)), (3, .l (.ref 1003 0)), (5, .i k), (8, .i zz.2), (38, .ls 1), (39, .i (x.t.holes.length : Int)), (40, .i (zz.1 : Int))], (taps_frH6 x u)⟩) (fun zz => (zz.1 ≤ x.t.holes.length) ∧ (x.r.opn - zz.1 ≤ zz.2 ∧ zz.2 ≤ x.r.opn) ∧ (openN x.year u zz.2 (x.t.holes.drop zz.1) = openN x.year u x.r.opn x.t.holes)) (fun zz => x.t.holes.length - zz.1) (0, x.r.opn) ⟨(by (try dsimp only); first | omega | rfl | assumption | (simp; done)), (by (try dsimp only); first | omega | rfl | assumption | (simp; done)), (by (try dsimp only); first | omega | rfl | assumption | (simp; done))⟩
      (enr [] ⟨rfl, rfl, rfl, rfl, rfl, rfl, rfl, trivial⟩ (crr rfl rfl (cro rfl (cro rfl (cbl rfl rfl trivial))))) fun zz hp => ?_
  obtain ⟨j, o⟩ := zz
  obtain ⟨hjL, ho, hq⟩ := hp
  dsimp only at hjL ho hq
  show AW _ E _ _ ⟨66, [0, 1, 2], [(0, .l (.ref 0 0)), (3, .l (.ref 1003 0)), (5, .i k), (8, .i o), (38, .ls 1), (39, .i (x.t.holes.length : Int)), (40, .i (j : Int))], (taps_frH6 x u)⟩
  apply aw_seq
  refine awr []
   ⟨66, [0, 1, 2], [(0, .l (.ref 0 0)), (3, .l (.ref 1003 0)), (5, .i k), (8, .i o), (38, .ls 1), (39, .i (x.t.holes.length : Int)), (40, .i (j : Int)), (41, .b (decide ((j : Int) < (x.t.holes.length : Int))))], (taps_frH6 x u)⟩
   [] trivial ?_
  apply aw_seq
  refine aw_cond (b := decide ((j : Int) < (x.t.holes.length : Int))) rfl (fun h3 => ?_) (fun h3 => ?_)
  ·
   have h3p : (j : Int) < (x.t.holes.length : Int) := dtr h3
   apply aw_skip
   apply aw_seq
   apply aw_block
   apply aw_seq
   refine awr [(0, .idx j), (2, .new 1010)]
    ⟨66, [0, 1, 2], [(0, .l (.ref 0 0)), (3, .l (.ref 1003 0)), (5, .i k), (8, .i o), (10, .l (.ref 1010 0)), (38, .ls 1), (39, .i (x.t.holes.length : Int)), (40, .i (j : Int))], (taps_frH10 x u j)⟩
    [(j : Int) = (j : Int), j < x.t.holes.length, j < x.t.holes.length] (al2 (by omega) (al2 (by omega) (al1 (by omega)))) ?_
   apply aw_seq
   refine awr [(3, .call [0, 1, 2] (.b (countsV x.year (ix x.t.holes j) u)) [])]
    ⟨66, [0, 1, 2], [(0, .l (.ref 0 0)), (3, .l (.ref 1003 0)), (5, .i k), (8, .i o), (38, .ls 1), (39, .i (x.t.holes.length : Int)), (40, .i (j : Int)), (47, .b (countsV x.year (ix x.t.holes j) u))], (taps_frH6 x u)⟩
    [CallOK Try.prog 91 [.l (.ref 0 0), (taps_frA11 x j), .agg [.i u.girth, .i u.side, .i u.up, .i u.heal]] [0, 1, 2] [some (taps_frK1 x), some (taps_frK2 x), some (taps_frK3 x)] (.b (countsV x.year (ix x.t.holes j) u)) []] (al1 (cfr (counts_fr x (ix x.t.holes j) u (by assumption) (by first | assumption | exact (TrkOk.t (by assumption)).hole _ (ix_mem (by omega)))) [(0, 0), (1, 1), (2, 2)] (dem_cons rfl (le_rblk rfl) (dem_cons rfl (le_ro rfl el_rfl) (dem_cons rfl (le_ro rfl el_rfl) dem_nil))))) ?_
   refine aw_cond (b := (countsV x.year (ix x.t.holes j) u)) rfl (fun h4 => ?_) (fun h4 => ?_)
   ·
    refine awr []
     ⟨66, [0, 1, 2], [(0, .l (.ref 0 0)), (3, .l (.ref 1003 0)), (5, .i k), (8, .i (o - 1)), (38, .ls 1), (39, .i (x.t.holes.length : Int)), (40, .i (j : Int))], (taps_frH6 x u)⟩
     [-9223372036854775808 ≤ (o - 1) ∧ (o - 1) < 9223372036854775808] (al1 (by omega)) ?_
    refine awr [(0, .num (((j + 1) : Nat) : Int))]
     ⟨66, [0, 1, 2], [(0, .l (.ref 0 0)), (3, .l (.ref 1003 0)), (5, .i k), (8, .i (o - 1)), (38, .ls 1), (39, .i (x.t.holes.length : Int)), (40, .i (((j + 1) : Nat) : Int))], (taps_frH6 x u)⟩
     [((j : Int) + 1) = (((j + 1) : Nat) : Int), -9223372036854775808 ≤ (((j + 1) : Nat) : Int) ∧ (((j + 1) : Nat) : Int) < 9223372036854775808] (al2 (by omega) (al1 (by omega))) ?_
    exact ⟨((j + 1), (o - 1)), ⟨(by (try dsimp only); first | omega | rfl | assumption | (simp; done)), (by (try dsimp only); first | omega | rfl | assumption | (simp; done)), (by (try dsimp only); rw [← hq, drop_ix (by omega : j < x.t.holes.length)]; simp only [openN, *]; rfl)⟩, (show x.t.holes.length - (j + 1) < x.t.holes.length - j by first | omega | rfl | assumption),
        (enr [] ⟨rfl, rfl, rfl, rfl, rfl, rfl, rfl, trivial⟩ (crr rfl rfl (cro rfl (cro rfl (cbl rfl rfl trivial)))))⟩
   ·
    apply aw_skip
    refine awr [(0, .num (((j + 1) : Nat) : Int))]
     ⟨66, [0, 1, 2], [(0, .l (.ref 0 0)), (3, .l (.ref 1003 0)), (5, .i k), (8, .i o), (38, .ls 1), (39, .i (x.t.holes.length : Int)), (40, .i (((j + 1) : Nat) : Int))], (taps_frH6 x u)⟩
     [((j : Int) + 1) = (((j + 1) : Nat) : Int), -9223372036854775808 ≤ (((j + 1) : Nat) : Int) ∧ (((j + 1) : Nat) : Int) < 9223372036854775808] (al2 (by omega) (al1 (by omega))) ?_
    exact ⟨((j + 1), o), ⟨(by (try dsimp only); first | omega | rfl | assumption | (simp; done)), (by (try dsimp only); first | omega | rfl | assumption | (simp; done)), (by (try dsimp only); rw [← hq, drop_ix (by omega : j < x.t.holes.length)]; simp only [openN, *]; rfl)⟩, (show x.t.holes.length - (j + 1) < x.t.holes.length - j by first | omega | rfl | assumption),
        (enr [] ⟨rfl, rfl, rfl, rfl, rfl, rfl, rfl, trivial⟩ (crr rfl rfl (cro rfl (cro rfl (cbl rfl rfl trivial)))))⟩
  ·
   have h3p : (x.t.holes.length : Int) ≤ (j : Int) := dlt h3
   refine aw_exit (exit_then (exit_then (exit_in ?_)))
   apply aw_seq
   have hw : o = openN x.year u x.r.opn x.t.holes := by
    rw [← hq, List.drop_eq_nil_of_le (by omega)]
    rfl
   refine awd [(10, .act [0] (.l (.ref 0 (17 + x.t.health.toNat * 1))) []), (11, .act [0] (.i (healV x.r x.t.health)) [])]
    ⟨66, [0, 1, 2], [(4, .i (min (min k (healV x.r x.t.health)) (max 0 o)))], []⟩
    [ActOK Try.prog (.indexAddr 28 (.tmp 60) (.tmp 57)) 0 [.l (.ref 0 17), .i x.t.health] [0] [some (taps_frK1 x)] (.l (.ref 0 (17 + x.t.health.toNat * 1))) [], ActOK Try.prog (.load 3 (.tmp 61)) 3 [.l (.ref 0 (17 + x.t.health.toNat * 1))] [0] [some (taps_frK1 x)] (.i (healV x.r x.t.health)) []] (al2 (act_idxAt2 (k := x.t.health.toNat) (n := 5) (e := 3) (m := 1) (by kernel_rfl) (by kernel_rfl) rfl (by omega) (by omega) (by omega)) (al1 (act_loadAt (by kernel_rfl) rfl (by rcases (show x.t.health = 0 ∨ x.t.health = 1 ∨ x.t.health = 2 ∨ x.t.health = 3 ∨ x.t.health = 4 by omega) with e | e | e | e | e <;> rw [e] <;> rfl)))) ?_
   exact aw_ret ⟨.inr rfl, eok ⟨66, [0, 1, 2], [(4, .i (tapsV x u))], []⟩
       (enr [] ⟨(slot_i rfl (by first | rfl | omega | assumption | (rw [hz, hw]; rfl))), trivial⟩ trivial) wr_nil⟩
def Taps_frA1 (t : TreeV) : SV := .agg [.i t.year, .i t.glo, .i t.ghi, .i t.wlo, .i t.whi, .i t.health, .ls 1]
def Taps_frA2 (r : RuleV) : SV := .agg [.i r.slo, .i r.shi, .i r.ulo, .i r.uhi, .i r.hlo, .i r.hhi, .i r.apart, .i r.blo, .i r.bhi, .ls 2, .i r.n0, .i r.n1, .i r.n2, .i r.n3, .i r.n4, .i r.opn]
def Taps_frK3 (t : TreeV) : Cn := .ro 3 t.holes.length (Lst eH t.holes)
def Taps_frK4 (r : RuleV) : Cn := .ro 2 r.sizes.length (Lst eZ r.sizes)
def Taps_frK5 (t : TreeV) : Cn := .blk 26 [.i t.year, .i t.glo, .i t.ghi, .i t.wlo, .i t.whi, .i t.health, .ls 1]
def Taps_frK6 (r : RuleV) : Cn := .blk 30 [.i r.slo, .i r.shi, .i r.ulo, .i r.uhi, .i r.hlo, .i r.hhi, .i r.apart, .i r.blo, .i r.bhi, .ls 2, .i r.n0, .i r.n1, .i r.n2, .i r.n3, .i r.n4, .i r.opn]
def Taps_frH7 (t : TreeV) (r : RuleV) : List (Nat × Option Cn) := [(1, some (Taps_frK3 t)), (2, some (Taps_frK4 r)), (1003, some (Taps_frK5 t)), (1004, some (Taps_frK6 r)), (1006, some (.blk 23 [.i 0, .i 0]))]
def Taps_frK8 (t : TreeV) (r : RuleV) (y : Int) : Cn := .blk 123 [.i ((openV t r y).t.year), .i ((openV t r y).t.glo), .i ((openV t r y).t.ghi), .i ((openV t r y).t.wlo), .i ((openV t r y).t.whi), .i ((openV t r y).t.health), .ls 1, .i ((openV t r y).r.slo), .i ((openV t r y).r.shi), .i ((openV t r y).r.ulo), .i ((openV t r y).r.uhi), .i ((openV t r y).r.hlo), .i ((openV t r y).r.hhi), .i ((openV t r y).r.apart), .i ((openV t r y).r.blo), .i ((openV t r y).r.bhi), .ls 2, .i ((openV t r y).r.n0), .i ((openV t r y).r.n1), .i ((openV t r y).r.n2), .i ((openV t r y).r.n3), .i ((openV t r y).r.n4), .i ((openV t r y).r.opn), .i ((openV t r y).year), .i ((openV t r y).worst.girth), .i ((openV t r y).worst.side), .i ((openV t r y).worst.up), .i ((openV t r y).worst.heal), .i ((openV t r y).best.girth), .i ((openV t r y).best.side), .i ((openV t r y).best.up), .i ((openV t r y).best.heal)]
def Taps_frH9 (t : TreeV) (r : RuleV) (y : Int) : List (Nat × Option Cn) := [(1, some (Taps_frK3 t)), (2, some (Taps_frK4 r)), (1006, some (.blk 23 [.i 0, .i 0])), (10140, some (Taps_frK8 t r y))]
def Taps_frA10 (t : TreeV) (r : RuleV) (y : Int) : SV := .agg [.i ((openV t r y).worst.girth), .i ((openV t r y).worst.side), .i ((openV t r y).worst.up), .i ((openV t r y).worst.heal)]
def Taps_frA11 (t : TreeV) (r : RuleV) (y : Int) : SV := .agg [.i ((openV t r y).best.girth), .i ((openV t r y).best.side), .i ((openV t r y).best.up), .i ((openV t r y).best.heal)]
def Taps_frK12 (t : TreeV) (r : RuleV) (y : Int) : Cn := .blk 23 [.i (tapsV (openV t r y) ((openV t r y).worst)), .i (tapsV (openV t r y) ((openV t r y).best))]
def Taps_frK13 (t : TreeV) (r : RuleV) (y : Int) : Cn := .blk 23 [.i ((tapsR t r y).low), .i ((tapsR t r y).high)]
set_option maxRecDepth 100000 in
theorem Taps_fr (t : TreeV) (r : RuleV) (y : Int) (ht : t.holes.length ≤ 1000000) (hr : r.sizes.length ≤ 1000000) : CallFr Try.prog 20 [(Taps_frA1 t), (Taps_frA2 r), .i y] [1, 2] [some (.ro 3 t.holes.length (Lst eH t.holes)), some (.ro 2 r.sizes.length (Lst eZ r.sizes))] (.tup [.agg [.i ((tapsR t r y).low), .i ((tapsR t r y).high)], .one (.i (startE t r y))]) [] := by
 refine callFr_of (fn := Try.f20) (by kernel_rfl) rfl (by kernel_rfl) (by kernel_rfl) fun E => ?_
 refine aw_ent (T := ⟨34, [1, 2], [(0, (Taps_frA1 t)), (1, (Taps_frA2 r)), (2, .i y)], [(1, some (Taps_frK3 t)), (2, some (Taps_frK4 r))]⟩) (Ent.refl _) ?_
 apply aw_seq
 refine awr [(0, .new 1003), (1, .new 1004), (2, .new 1006)]
  ⟨34, [1, 2], [(2, .i y), (3, .l (.ref 1003 0)), (4, .l (.ref 1004 0)), (6, .l (.ref 1006 0))], (Taps_frH7 t r)⟩
  [] trivial ?_
 apply aw_seq
 rcases Bool.eq_false_or_eq_true (decide (startE t r y = 0)) with h1 | h1
 ·
  refine awr [(3, .call [1, 2] (.tup [.one (.ref 10140 0), .one (.i 0)]) [(10140, some (Taps_frK8 t r y))])]
   ⟨34, [1, 2], [(6, .l (.ref 1006 0)), (8, .l (.ref 10140 0)), (9, .i 0)], (Taps_frH9 t r y)⟩
   [CallOK Try.prog 61 [(Taps_frA1 t), (Taps_frA2 r), .i y] [1, 2] [some (Taps_frK3 t), some (Taps_frK4 r)] (.tup [.one (.ref 10140 0), .one (.i 0)]) [(10140, some (Taps_frK8 t r y))]] (al1 (cfr (open_ok_fr t r y (by first | omega | (simp; done) | assumption) (by first | omega | (simp; done) | assumption) (dtr h1)) [(1, 1), (2, 2), (5, 10140)] (dem_cons rfl (le_ro rfl el_rfl) (dem_cons rfl (le_ro rfl el_rfl) dem_nil)))) ?_
  have hx := open_ok (dtr h1)
  apply aw_seq
  apply aw_seq
  refine awr []
   ⟨34, [1, 2], [(6, .l (.ref 1006 0)), (8, .l (.ref 10140 0)), (9, .i 0), (18, .b (decide ((0 : Int) ≠ (0 : Int))))], (Taps_frH9 t r y)⟩
   [] trivial ?_
  have h2 : (decide ((0 : Int) ≠ (0 : Int))) = false := by decide
  refine aw_cond (b := decide ((0 : Int) ≠ (0 : Int))) rfl (fun h => Bool.noConfusion (h2.symm.trans h)) (fun _ => ?_)
  apply aw_skip
  apply aw_seq
  refine awd [(5, .call [10140, 1, 2] (.i (tapsV (openV t r y) ((openV t r y).worst))) []), (11, .call [10140, 1, 2] (.i (tapsV (openV t r y) ((openV t r y).best))) [])]
   ⟨34, [1, 2], [(6, .l (.ref 1006 0)), (7, .i 0)], [(1006, some (Taps_frK12 t r y))]⟩
   [CallOK Try.prog 62 [.l (.ref 10140 0), (Taps_frA10 t r y)] [10140, 1, 2] [some (Taps_frK8 t r y), some (Taps_frK3 t), some (Taps_frK4 r)] (.i (tapsV (openV t r y) ((openV t r y).worst))) [], CallOK Try.prog 62 [.l (.ref 10140 0), (Taps_frA11 t r y)] [10140, 1, 2] [some (Taps_frK8 t r y), some (Taps_frK3 t), some (Taps_frK4 r)] (.i (tapsV (openV t r y) ((openV t r y).best))) []] (al2 (cfr (taps_fr (openV t r y) ((openV t r y).worst) (by assumption) (by first | assumption | exact (TrkOk.worst (by assumption)) | exact (TrkOk.best (by assumption)))) [(0, 10140), (1, 1), (2, 2)] (dem_cons rfl (le_blk_r rfl) (dem_cons rfl (le_ro (by first | omega | rfl | assumption) el_rfl) (dem_cons rfl (le_ro (by first | omega | rfl | assumption) el_rfl) dem_nil)))) (al1 (cfr (taps_fr (openV t r y) ((openV t r y).best) (by assumption) (by first | assumption | exact (TrkOk.worst (by assumption)) | exact (TrkOk.best (by assumption)))) [(0, 10140), (1, 1), (2, 2)] (dem_cons rfl (le_blk_r rfl) (dem_cons rfl (le_ro (by first | omega | rfl | assumption) el_rfl) (dem_cons rfl (le_ro (by first | omega | rfl | assumption) el_rfl) dem_nil)))))) ?_
  exact aw_ret ⟨.inr rfl, eok ⟨34, [1, 2], [(6, .l (.ref 8006 0)), (7, .i (startE t r y))], [(8006, some (Taps_frK13 t r y))]⟩
      (enr [(8006, 1006)] ⟨rfl, (slot_i rfl (by first | rfl | omega | assumption | (simp_all [tapsR]))), trivial⟩ (cbl rfl (by exact (cells_cons (cell_i (by first | rfl | omega | assumption | (simp_all [tapsR]))) (cells_cons (cell_i (by first | rfl | omega | assumption | (simp_all [tapsR]))) rfl))) trivial)) wr_nil⟩
 ·
  refine awr [(3, .call [1, 2] (.tup [.one (.v (.pointer none)), .one (.i (startE t r y))]) [])]
   ⟨34, [1, 2], [(6, .l (.ref 1006 0)), (8, .l (.v (.pointer none))), (9, .i (startE t r y))], [(1006, some (.blk 23 [.i 0, .i 0]))]⟩
   [CallOK Try.prog 61 [(Taps_frA1 t), (Taps_frA2 r), .i y] [1, 2] [some (Taps_frK3 t), some (Taps_frK4 r)] (.tup [.one (.v (.pointer none)), .one (.i (startE t r y))]) []] (al1 (cfr (open_bad_fr t r y (by first | omega | (simp; done) | assumption) (by first | omega | (simp; done) | assumption) (deq h1)) [(1, 1), (2, 2)] (dem_cons rfl (le_ro rfl el_rfl) (dem_cons rfl (le_ro rfl el_rfl) dem_nil)))) ?_
  apply aw_seq
  apply aw_seq
  refine awr []
   ⟨34, [1, 2], [(6, .l (.ref 1006 0)), (8, .l (.v (.pointer none))), (9, .i (startE t r y)), (18, .b (decide ((startE t r y) ≠ 0)))], [(1006, some (.blk 23 [.i 0, .i 0]))]⟩
   [] trivial ?_
  have h3 : (decide ((startE t r y) ≠ 0)) = true := by simp_all
  refine aw_cond (b := decide ((startE t r y) ≠ 0)) rfl (fun _ => ?_) (fun h => Bool.noConfusion (h3.symm.trans h))
  apply aw_seq
  refine awr []
   ⟨34, [1, 2], [(6, .l (.ref 1006 0)), (7, .i (startE t r y))], [(1006, some (.blk 23 [.i 0, .i 0]))]⟩
   [] trivial ?_
  exact aw_ret (ret_then ⟨.inr rfl, eok ⟨34, [1, 2], [(6, .l (.ref 8006 0)), (7, .i (startE t r y))], [(8006, some (Taps_frK13 t r y))]⟩
      (enr [(8006, 1006)] ⟨rfl, rfl, trivial⟩ (cbl rfl (by exact (cells_cons (cell_i (by first | rfl | omega | assumption | (simp_all [tapsR]))) (cells_cons (cell_i (by first | rfl | omega | assumption | (simp_all [tapsR]))) rfl))) trivial)) wr_nil⟩)
def by_frK1 (x : TrkV) : Cn := .rblk [.i x.t.year, .i x.t.glo, .i x.t.ghi, .i x.t.wlo, .i x.t.whi, .i x.t.health, .ls 1, .i x.r.slo, .i x.r.shi, .i x.r.ulo, .i x.r.uhi, .i x.r.hlo, .i x.r.hhi, .i x.r.apart, .i x.r.blo, .i x.r.bhi, .ls 2, .i x.r.n0, .i x.r.n1, .i x.r.n2, .i x.r.n3, .i x.r.n4, .i x.r.opn, .i x.year, .i x.worst.girth, .i x.worst.side, .i x.worst.up, .i x.worst.heal, .i x.best.girth, .i x.best.side, .i x.best.up, .i x.best.heal]
def by_frK2 (x : TrkV) : Cn := .ro 3 x.t.holes.length (Lst eH x.t.holes)
def by_frK3 (x : TrkV) : Cn := .ro 2 x.r.sizes.length (Lst eZ x.r.sizes)
def by_frH4 (x : TrkV) : List (Nat × Option Cn) := [(0, some (by_frK1 x)), (1, some (by_frK2 x)), (2, some (by_frK3 x))]
def by_frK5 (s : Spt) : Cn := .blk 72 [.i s.angle, .i s.height]
def by_frK6 (u : Tru) : Cn := .blk 121 [.i u.girth, .i u.side, .i u.up, .i u.heal]
def by_frH7 (x : TrkV) (s : Spt) (u : Tru) : List (Nat × Option Cn) := [(0, some (by_frK1 x)), (1, some (by_frK2 x)), (2, some (by_frK3 x)), (1004, some (by_frK5 s)), (1005, some (by_frK6 u))]
def by_frH8 (x : TrkV) (s : Spt) (u : Tru) (o : List Int) : List (Nat × Option Cn) := [(0, some (by_frK1 x)), (1, some (by_frK2 x)), (2, some (by_frK3 x)), (1004, some (by_frK5 s)), (1005, some (by_frK6 u)), (2001, some (.vec 3 1 o.length (Lst eI o)))]
def by_frK9 (x : TrkV) (i : Nat) : Cn := .blk 74 [.i ((ix x.t.holes i).year), .i ((ix x.t.holes i).angle), .i ((ix x.t.holes i).height)]
def by_frH10 (x : TrkV) (s : Spt) (u : Tru) (i : Nat) (o : List Int) : List (Nat × Option Cn) := [(0, some (by_frK1 x)), (1, some (by_frK2 x)), (2, some (by_frK3 x)), (1004, some (by_frK5 s)), (1005, some (by_frK6 u)), (1008, some (by_frK9 x i)), (2001, some (.vec 3 1 o.length (Lst eI o)))]
def by_frA11 (x : TrkV) (i : Nat) : SV := .agg [.i ((ix x.t.holes i).year), .i ((ix x.t.holes i).angle), .i ((ix x.t.holes i).height)]
def by_frK12 (o : List Int) (i : Nat) : Cn := .vec 3 1 (o.length + 1) (Lst eI (o ++ [(i : Int)]))
def by_frH13 (x : TrkV) (s : Spt) (u : Tru) (o : List Int) (i : Nat) : List (Nat × Option Cn) := [(0, some (by_frK1 x)), (1, some (by_frK2 x)), (2, some (by_frK3 x)), (1004, some (by_frK5 s)), (1005, some (by_frK6 u)), (1028, some (by_frK12 o i))]
def by_frK14 (x : TrkV) (s : Spt) (u : Tru) : Cn := .vec 3 1 ((byV x s u).length) (Lst eI (byV x s u))
set_option maxRecDepth 100000 in
theorem by_fr (x : TrkV) (s : Spt) (u : Tru) (hx : TrkOk x) (hs : (0 ≤ s.angle ∧ s.angle ≤ 3599) ∧ (0 ≤ s.height ∧ s.height ≤ 5000)) (hu : TruOk u) : CallFr Try.prog 73 [.l (.ref 0 0), .agg [.i s.angle, .i s.height], .agg [.i u.girth, .i u.side, .i u.up, .i u.heal]] [0, 1, 2] [some (.rblk [.i x.t.year, .i x.t.glo, .i x.t.ghi, .i x.t.wlo, .i x.t.whi, .i x.t.health, .ls 1, .i x.r.slo, .i x.r.shi, .i x.r.ulo, .i x.r.uhi, .i x.r.hlo, .i x.r.hhi, .i x.r.apart, .i x.r.blo, .i x.r.bhi, .ls 2, .i x.r.n0, .i x.r.n1, .i x.r.n2, .i x.r.n3, .i x.r.n4, .i x.r.opn, .i x.year, .i x.worst.girth, .i x.worst.side, .i x.worst.up, .i x.worst.heal, .i x.best.girth, .i x.best.side, .i x.best.up, .i x.best.heal]), some (.ro 3 x.t.holes.length (Lst eH x.t.holes)), some (.ro 2 x.r.sizes.length (Lst eZ x.r.sizes))] (.ls 4) [(4, some (.vec 3 1 ((byV x s u).length) (Lst eI (byV x s u))))] := by
 have h1 := hx.t.len
 refine callFr_of (fn := Try.f73) (by kernel_rfl) rfl (by kernel_rfl) (by kernel_rfl) fun E => ?_
 refine aw_ent (T := ⟨31, [0, 1, 2], [(0, .l (.ref 0 0)), (1, .agg [.i s.angle, .i s.height]), (2, .agg [.i u.girth, .i u.side, .i u.up, .i u.heal])], (by_frH4 x)⟩) (Ent.refl _) ?_
 apply aw_seq
 refine awr [(0, .new 1004), (1, .new 1005)]
  ⟨31, [0, 1, 2], [(0, .l (.ref 0 0)), (4, .l (.ref 1004 0)), (5, .l (.ref 1005 0)), (6, .l (.v (.slice none 0 0)))], (by_frH7 x s u)⟩
  [] trivial ?_
 apply aw_seq
 apply aw_seq
 refine awr []
  ⟨31, [0, 1, 2], [(0, .l (.ref 0 0)), (4, .l (.ref 1004 0)), (5, .l (.ref 1005 0)), (6, .l (.v (.slice none 0 0))), (13, .ls 1), (14, .i (x.t.holes.length : Int)), (15, .i 0)], (by_frH7 x s u)⟩
  [] trivial ?_
 apply aw_block
 refine aw_loop (ι := Nat × List Int) (fun zz => ⟨31, [0, 1, 2], [(0, .l (.ref 0 0)), (4, .l (.ref 1004 0)), (5, .l (.ref 1005 0)), (6, .ls 2001), (13, .ls 1), (14, .i (x.t.holes.length : Int)), (15, .i (zz.1 : Int))], (by_frH8 x s u zz.2)⟩) (fun zz => (zz.1 ≤ x.t.holes.length) ∧ (zz.2.length ≤ zz.1) ∧ (zz.2 ++ byL x.year s u zz.1 (x.t.holes.drop zz.1) = byV x s u)) (fun zz => x.t.holes.length - zz.1) (0, []) ⟨(by (try dsimp only); first | omega | rfl | assumption | (simp; done)), (by (try dsimp only); first | omega | rfl | assumption | (simp; done)), (by (try dsimp only); rfl)⟩
     (Ent.trans (Ent.nilSlot 6 70001 3 1 (Lst eI ([])) rfl (by omega) (by kernel_rfl)) (enr [(2001, 70001)] ⟨rfl, rfl, rfl, rfl, rfl, rfl, rfl, trivial⟩ (crr rfl rfl (cro rfl (cro rfl (cbl rfl rfl (cbl rfl rfl (conts_cons rfl (le_vec (by first | rfl | omega | assumption | (simp; done) | (rw [hz])) el_rfl) trivial)))))))) fun zz hp => ?_
 obtain ⟨i, o⟩ := zz
 obtain ⟨hiL, ho, hq⟩ := hp
 dsimp only at hiL ho hq
 show AW _ E _ _ ⟨31, [0, 1, 2], [(0, .l (.ref 0 0)), (4, .l (.ref 1004 0)), (5, .l (.ref 1005 0)), (6, .ls 2001), (13, .ls 1), (14, .i (x.t.holes.length : Int)), (15, .i (i : Int))], (by_frH8 x s u o)⟩
 apply aw_seq
 refine awr []
  ⟨31, [0, 1, 2], [(0, .l (.ref 0 0)), (4, .l (.ref 1004 0)), (5, .l (.ref 1005 0)), (6, .ls 2001), (13, .ls 1), (14, .i (x.t.holes.length : Int)), (15, .i (i : Int)), (16, .b (decide ((i : Int) < (x.t.holes.length : Int))))], (by_frH8 x s u o)⟩
  [] trivial ?_
 apply aw_seq
 refine aw_cond (b := decide ((i : Int) < (x.t.holes.length : Int))) rfl (fun h1 => ?_) (fun h1 => ?_)
 ·
  have h1p : (i : Int) < (x.t.holes.length : Int) := dtr h1
  apply aw_skip
  apply aw_seq
  apply aw_block
  apply aw_seq
  refine awr [(1, .idx i), (3, .new 1008)]
   ⟨31, [0, 1, 2], [(0, .l (.ref 0 0)), (4, .l (.ref 1004 0)), (5, .l (.ref 1005 0)), (6, .ls 2001), (7, .i (i : Int)), (8, .l (.ref 1008 0)), (13, .ls 1), (14, .i (x.t.holes.length : Int)), (15, .i (i : Int))], (by_frH10 x s u i o)⟩
   [(i : Int) = (i : Int), i < x.t.holes.length, i < x.t.holes.length] (al2 (by omega) (al2 (by omega) (al1 (by omega)))) ?_
  apply aw_seq
  refine awr [(4, .call [0, 1, 2] (.b (forbidsV x.year (ix x.t.holes i) s u)) [])]
   ⟨31, [0, 1, 2], [(0, .l (.ref 0 0)), (4, .l (.ref 1004 0)), (5, .l (.ref 1005 0)), (6, .ls 2001), (7, .i (i : Int)), (13, .ls 1), (14, .i (x.t.holes.length : Int)), (15, .i (i : Int)), (24, .b (forbidsV x.year (ix x.t.holes i) s u))], (by_frH8 x s u o)⟩
   [CallOK Try.prog 99 [.l (.ref 0 0), (by_frA11 x i), .agg [.i s.angle, .i s.height], .agg [.i u.girth, .i u.side, .i u.up, .i u.heal]] [0, 1, 2] [some (by_frK1 x), some (by_frK2 x), some (by_frK3 x)] (.b (forbidsV x.year (ix x.t.holes i) s u)) []] (al1 (cfr (forbids_fr x (ix x.t.holes i) s u (by assumption) (by first | assumption | exact (TrkOk.t (by assumption)).hole _ (ix_mem (by omega))) (by assumption) (by first | assumption | exact (TrkOk.worst (by assumption)) | exact (TrkOk.best (by assumption)))) [(0, 0), (1, 1), (2, 2)] (dem_cons rfl (le_rblk rfl) (dem_cons rfl (le_ro rfl el_rfl) (dem_cons rfl (le_ro rfl el_rfl) dem_nil))))) ?_
  refine aw_cond (b := (forbidsV x.year (ix x.t.holes i) s u)) rfl (fun h2 => ?_) (fun h2 => ?_)
  ·
   refine awr [(2, .new 1027), (3, .lst 1028 (o.length + 1) (Lst eI (o ++ [(i : Int)])))]
    ⟨31, [0, 1, 2], [(0, .l (.ref 0 0)), (4, .l (.ref 1004 0)), (5, .l (.ref 1005 0)), (6, .ls 1028), (13, .ls 1), (14, .i (x.t.holes.length : Int)), (15, .i (i : Int))], (by_frH13 x s u o i)⟩
    [o.length + 1 ≤ 1000000000000, (o.length + 1) * 8 ≤ 140737488355328, AppOk 1 o.length 1 (Lst eI o) (exEl 1 [.i (i : Int)]) (o.length + 1) (Lst eI (o ++ [(i : Int)]))] (al2 (by omega) (al2 (by omega) (al1 (app_one (by first | omega | rfl | assumption) (by first | omega | rfl | assumption) (fun | 0, _ => rfl | (n + 1), h => absurd h (by omega)))))) ?_
   refine awr [(0, .num (((i + 1) : Nat) : Int))]
    ⟨31, [0, 1, 2], [(0, .l (.ref 0 0)), (4, .l (.ref 1004 0)), (5, .l (.ref 1005 0)), (6, .ls 1028), (13, .ls 1), (14, .i (x.t.holes.length : Int)), (15, .i (((i + 1) : Nat) : Int))], (by_frH13 x s u o i)⟩
    [((i : Int) + 1) = (((i + 1) : Nat) : Int), -9223372036854775808 ≤ (((i + 1) : Nat) : Int) ∧ (((i + 1) : Nat) : Int) < 9223372036854775808] (al2 (by omega) (al1 (by omega))) ?_
   exact ⟨((i + 1), (o ++ [(i : Int)])), ⟨(by (try dsimp only); first | omega | rfl | assumption | (simp; done)), (by (try dsimp only); first | omega | (simp; omega)), (by (try dsimp only); rw [← hq, drop_ix (by omega : i < x.t.holes.length)]; simp [byL, *])⟩, (show x.t.holes.length - (i + 1) < x.t.holes.length - i by first | omega | rfl | assumption),
       (enr [(2001, 1028)] ⟨rfl, rfl, rfl, rfl, rfl, rfl, rfl, trivial⟩ (crr rfl rfl (cro rfl (cro rfl (cbl rfl rfl (cbl rfl rfl (conts_cons rfl (le_vec (by first | rfl | omega | assumption | (simp; done) | (rw [hz])) el_rfl) trivial)))))))⟩
  ·
   apply aw_skip
   refine awr [(0, .num (((i + 1) : Nat) : Int))]
    ⟨31, [0, 1, 2], [(0, .l (.ref 0 0)), (4, .l (.ref 1004 0)), (5, .l (.ref 1005 0)), (6, .ls 2001), (13, .ls 1), (14, .i (x.t.holes.length : Int)), (15, .i (((i + 1) : Nat) : Int))], (by_frH8 x s u o)⟩
    [((i : Int) + 1) = (((i + 1) : Nat) : Int), -9223372036854775808 ≤ (((i + 1) : Nat) : Int) ∧ (((i + 1) : Nat) : Int) < 9223372036854775808] (al2 (by omega) (al1 (by omega))) ?_
   exact ⟨((i + 1), o), ⟨(by (try dsimp only); first | omega | rfl | assumption | (simp; done)), (by (try dsimp only); first | omega | (simp; omega)), (by (try dsimp only); rw [← hq, drop_ix (by omega : i < x.t.holes.length)]; simp [byL, *])⟩, (show x.t.holes.length - (i + 1) < x.t.holes.length - i by first | omega | rfl | assumption),
       (enr [] ⟨rfl, rfl, rfl, rfl, rfl, rfl, rfl, trivial⟩ (crr rfl rfl (cro rfl (cro rfl (cbl rfl rfl (cbl rfl rfl (cve rfl trivial)))))))⟩
 ·
  have h1p : (x.t.holes.length : Int) ≤ (i : Int) := dlt h1
  refine aw_exit (exit_then (exit_then (exit_in ?_)))
  apply aw_seq
  have hz : o = byV x s u := by
   rw [List.drop_eq_nil_of_le (by omega)] at hq
   simpa [byL] using hq
  refine awr []
   ⟨31, [0, 1, 2], [(6, .ls 2001)], [(2001, some (.vec 3 1 o.length (Lst eI o)))]⟩
   [] trivial ?_
  exact aw_ret ⟨.inr rfl, eok ⟨31, [0, 1, 2], [(6, .ls 4)], [(4, some (by_frK14 x s u))]⟩
      (enr [(4, 2001)] ⟨rfl, trivial⟩ (conts_cons rfl (le_vec (by first | rfl | omega | assumption | (simp; done) | (rw [hz])) (lst_eq (by first | rfl | omega | assumption | (simp; done) | (rw [hz])))) trivial)) (wr_cons rfl (plain_Lst plain_eI) wr_nil)⟩
end Go.Proofs.Ytbpblhmigijkaaa
