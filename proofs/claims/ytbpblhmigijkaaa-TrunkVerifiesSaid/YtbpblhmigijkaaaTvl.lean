/- TrunkVerifies, walked. -/
import Derived.Test.YtbpblhmigijkaaaTw
import Derived.Test.YtbpblhmigijkaaaTvv
import Derived.Test.YtbpblhmigijkaaaTvr
import Derived.Test.YtbpblhmigijkaaaTfi
namespace Go.Proofs.Ytbpblhmigijkaaa
open Go.RowKit
set_option linter.unusedVariables false
set_option linter.unusedSimpArgs false
def verifies_frA1 (t : TreeV) (r : RuleV) : SV := .agg [.i t.year, .i t.glo, .i t.ghi, .i t.wlo, .i t.whi, .i t.health, .ls 1, .i r.slo, .i r.shi, .i r.ulo, .i r.uhi, .i r.hlo, .i r.hhi, .i r.apart, .i r.blo, .i r.bhi, .ls 2, .i r.n0, .i r.n1, .i r.n2, .i r.n3, .i r.n4, .i r.opn]
def verifies_frK2 (t : TreeV) : Cn := .ro 3 t.holes.length (Lst eH t.holes)
def verifies_frK3 (r : RuleV) : Cn := .ro 2 r.sizes.length (Lst eZ r.sizes)
def verifies_frH4 (t : TreeV) (r : RuleV) (p : List (List Spt)) : List (Nat × Option Cn) := [(1, some (verifies_frK2 t)), (2, some (verifies_frK3 r)), (3, some (.ro 1 p.length (LstL 2 eS p)))]
def verifies_frK5 (t : TreeV) (r : RuleV) : Cn := .blk 68 [.i t.year, .i t.glo, .i t.ghi, .i t.wlo, .i t.whi, .i t.health, .ls 1, .i r.slo, .i r.shi, .i r.ulo, .i r.uhi, .i r.hlo, .i r.hhi, .i r.apart, .i r.blo, .i r.bhi, .ls 2, .i r.n0, .i r.n1, .i r.n2, .i r.n3, .i r.n4, .i r.opn]
def verifies_frH6 (t : TreeV) (r : RuleV) (p : List (List Spt)) : List (Nat × Option Cn) := [(1, some (verifies_frK2 t)), (2, some (verifies_frK3 r)), (3, some (.ro 1 p.length (LstL 2 eS p))), (1003, some (verifies_frK5 t r))]
def verifies_frK7 (t : TreeV) : Cn := .blk 26 [.i t.year, .i t.glo, .i t.ghi, .i t.wlo, .i t.whi, .i t.health, .ls 1]
def verifies_frK8 (r : RuleV) : Cn := .blk 30 [.i r.slo, .i r.shi, .i r.ulo, .i r.uhi, .i r.hlo, .i r.hhi, .i r.apart, .i r.blo, .i r.bhi, .ls 2, .i r.n0, .i r.n1, .i r.n2, .i r.n3, .i r.n4, .i r.opn]
def verifies_frH9 (t : TreeV) (r : RuleV) (p : List (List Spt)) : List (Nat × Option Cn) := [(1, some (verifies_frK2 t)), (2, some (verifies_frK3 r)), (3, some (.ro 1 p.length (LstL 2 eS p))), (1007, some (verifies_frK7 t)), (1008, some (verifies_frK8 r))]
def verifies_frA10 (t : TreeV) : SV := .agg [.i t.year, .i t.glo, .i t.ghi, .i t.wlo, .i t.whi, .i t.health, .ls 1]
def verifies_frA11 (r : RuleV) : SV := .agg [.i r.slo, .i r.shi, .i r.ulo, .i r.uhi, .i r.hlo, .i r.hhi, .i r.apart, .i r.blo, .i r.bhi, .ls 2, .i r.n0, .i r.n1, .i r.n2, .i r.n3, .i r.n4, .i r.opn]
def verifies_frH12 (t : TreeV) (r : RuleV) (p : List (List Spt)) : List (Nat × Option Cn) := [(1, some (verifies_frK2 t)), (2, some (verifies_frK3 r)), (3, some (.ro 1 p.length (LstL 2 eS p))), (1007, some (verifies_frK7 t)), (1008, some (verifies_frK8 r)), (1035, some (.vec 57 1 0 (exEl 1 [])))]
def verifies_frK13 (p : List (List Spt)) (i : Nat) : Cn := .vec 57 1 ((p.take i).length) (LstL 2 eS (p.take i))
def verifies_frH14 (t : TreeV) (r : RuleV) (p : List (List Spt)) (i : Nat) : List (Nat × Option Cn) := [(1, some (verifies_frK2 t)), (2, some (verifies_frK3 r)), (3, some (.ro 1 p.length (LstL 2 eS p))), (1007, some (verifies_frK7 t)), (1008, some (verifies_frK8 r)), (2001, some (verifies_frK13 p i))]
def verifies_frK15 (p : List (List Spt)) (i : Nat) : Cn := .vec 72 2 (((ix p i)).length) (Lst eS (ix p i))
def verifies_frK16 (p : List (List Spt)) (i : Nat) : Cn := .ro 2 ((ix p i).length) (Lst eS (ix p i))
def verifies_frK17 (p : List (List Spt)) (i : Nat) : Cn := .vec 57 1 1 (LstL 2 eS ([(ix p i)]))
def verifies_frK18 (p : List (List Spt)) (i : Nat) : Cn := .vec 57 1 ((p.take i).length + 1) (LstL 2 eS ((p.take i) ++ ([(ix p i)])))
def verifies_frH19 (t : TreeV) (r : RuleV) (p : List (List Spt)) (i : Nat) : List (Nat × Option Cn) := [(1, some (verifies_frK2 t)), (2, some (verifies_frK3 r)), (3, some (.ro 1 p.length (LstL 2 eS p))), (1007, some (verifies_frK7 t)), (1008, some (verifies_frK8 r)), (1060, some (verifies_frK18 p i))]
def verifies_frH20 (t : TreeV) (r : RuleV) (p : List (List Spt)) : List (Nat × Option Cn) := [(1, some (verifies_frK2 t)), (2, some (verifies_frK3 r)), (3, some (.ro 1 p.length (LstL 2 eS p))), (1007, some (verifies_frK7 t)), (1008, some (verifies_frK8 r)), (2001, some (.vec 57 1 p.length (LstL 2 eS p)))]
def verifies_frK21 (p : List (List Spt)) (k : Nat) : Cn := .ro 2 ((ix p k).length) (Lst eS (ix p k))
def verifies_frA22 (t : TreeV) : SV := .agg [.i t.year, .i t.glo, .i t.ghi, .i t.wlo, .i t.whi, .i t.health, .ls 11040]
def verifies_frK23 (t : TreeV) : Cn := .vec 74 3 ((t.holes).length) (Lst eH t.holes)
def verifies_frA24 (r : RuleV) : SV := .agg [.i r.slo, .i r.shi, .i r.ulo, .i r.uhi, .i r.hlo, .i r.hhi, .i r.apart, .i r.blo, .i r.bhi, .ls 11060, .i r.n0, .i r.n1, .i r.n2, .i r.n3, .i r.n4, .i r.opn]
def verifies_frK25 (r : RuleV) : Cn := .vec 45 2 ((r.sizes).length) (Lst eZ r.sizes)
def verifies_frK26 (p : List (List Spt)) (j : Nat) : Cn := .ro 2 ((ix p j).length) (Lst eS (ix p j))
set_option maxHeartbeats 8000000 in
set_option maxRecDepth 100000 in
theorem verifies_fr (t : TreeV) (r : RuleV) (y : Int) (p : List (List Spt)) (ht : t.holes.length ≤ 9223372036854775807) (hr : r.sizes.length ≤ 9223372036854775807) (hp : p.length ≤ 9223372036854775807) (hll : ∀ q, q ∈ p → q.length ≤ 9223372036854775807) : CallFr Try.prog 11 [(verifies_frA1 t r), .i y, .ls 3] [1, 2, 3] [some (.ro 3 t.holes.length (Lst eH t.holes)), some (.ro 2 r.sizes.length (Lst eZ r.sizes)), some (.ro 1 p.length (LstL 2 eS p))] (.b true) [] := by
 refine callFr_of (fn := Try.f11) (by kernel_rfl) rfl (by kernel_rfl) (by kernel_rfl) fun E => ?_
 refine aw_ent (T := ⟨181, [1, 2, 3], [(0, (verifies_frA1 t r)), (1, .i y), (2, .ls 3)], (verifies_frH4 t r p)⟩) (Ent.refl _) ?_
 apply aw_seq
 refine awr [(0, .new 1003)]
  ⟨181, [1, 2, 3], [(1, .i y), (2, .ls 3), (3, .l (.ref 1003 0))], (verifies_frH6 t r p)⟩
  [] trivial ?_
 apply aw_seq
 refine awd [(4, .new 1007), (5, .new 1008)]
  ⟨181, [1, 2, 3], [(1, .i y), (2, .ls 3), (7, .l (.ref 1007 0)), (8, .l (.ref 1008 0))], (verifies_frH9 t r p)⟩
  [] trivial ?_
 apply aw_seq
 apply aw_seq
 rcases Bool.eq_false_or_eq_true ((largeB t r)) with h1 | h1
 ·
  refine awr [(2, .call [1, 2] (.b (largeB t r)) []), (3, .dec true)]
   ⟨181, [1, 2, 3], [(1, .i y), (2, .ls 3), (7, .l (.ref 1007 0)), (8, .l (.ref 1008 0)), (33, .b true)], (verifies_frH9 t r p)⟩
   [CallOK Try.prog 13 [(verifies_frA10 t), (verifies_frA11 r)] [1, 2] [some (verifies_frK2 t), some (verifies_frK3 r)] (.b (largeB t r)) [], (largeB t r) = true] (al2 (cfr (large_fr t r (by first | omega | (simp; done) | assumption) (by first | omega | (simp; done) | assumption)) [(1, 1), (2, 2)] (dem_cons rfl (le_ro rfl el_rfl) (dem_cons rfl (le_ro rfl el_rfl) dem_nil))) (al1 h1)) ?_
  refine aw_true rfl ?_
  apply aw_seq
  refine awr [(0, .call [] (.b true) [])]
   ⟨181, [1, 2, 3], [(6, .b true)], []⟩
   [CallOK Try.prog 14 [] [] [] (.b true) []] (al1 (cfr (known_fr ) [] dem_nil)) ?_
  exact aw_ret (ret_then ⟨.inr rfl, eok ⟨181, [1, 2, 3], [(6, .b true)], []⟩
      (enr [] ⟨rfl, trivial⟩ trivial) wr_nil⟩)
 ·
  refine awr [(2, .call [1, 2] (.b (largeB t r)) []), (3, .dec false)]
   ⟨181, [1, 2, 3], [(1, .i y), (2, .ls 3), (7, .l (.ref 1007 0)), (8, .l (.ref 1008 0)), (33, .b (decide (45 < ((p.length : Nat) : Int))))], (verifies_frH9 t r p)⟩
   [CallOK Try.prog 13 [(verifies_frA10 t), (verifies_frA11 r)] [1, 2] [some (verifies_frK2 t), some (verifies_frK3 r)] (.b (largeB t r)) [], (largeB t r) = false] (al2 (cfr (large_fr t r (by first | omega | (simp; done) | assumption) (by first | omega | (simp; done) | assumption)) [(1, 1), (2, 2)] (dem_cons rfl (le_ro rfl el_rfl) (dem_cons rfl (le_ro rfl el_rfl) dem_nil))) (al1 h1)) ?_
  refine aw_cond (b := decide (45 < ((p.length : Nat) : Int))) rfl (fun h2 => ?_) (fun h2 => ?_)
  ·
   have h2p : 45 < ((p.length : Nat) : Int) := dtr h2
   apply aw_seq
   refine awr [(0, .call [] (.b true) [])]
    ⟨181, [1, 2, 3], [(6, .b true)], []⟩
    [CallOK Try.prog 14 [] [] [] (.b true) []] (al1 (cfr (known_fr ) [] dem_nil)) ?_
   exact aw_ret (ret_then ⟨.inr rfl, eok ⟨181, [1, 2, 3], [(6, .b true)], []⟩
       (enr [] ⟨rfl, trivial⟩ trivial) wr_nil⟩)
  ·
   have h2p : ((p.length : Nat) : Int) ≤ 45 := dlt h2
   apply aw_skip
   apply aw_seq
   have hsz := large_no (by assumption)
   have hp45 : p.length ≤ 45 := by omega
   refine awr [(0, .new 1035), (4, .call [1, 2] (.i (startE t r y)) [])]
    ⟨181, [1, 2, 3], [(1, .i y), (2, .ls 3), (7, .l (.ref 1007 0)), (8, .l (.ref 1008 0)), (9, .ls 1035), (10, .i (startE t r y))], (verifies_frH12 t r p)⟩
    [CallOK Try.prog 24 [(verifies_frA10 t), (verifies_frA11 r), .i y] [1, 2] [some (verifies_frK2 t), some (verifies_frK3 r)] (.i (startE t r y)) []] (al1 (cfr (refStart_fr t r y (by first | omega | (simp; done) | assumption) (by first | omega | (simp; done) | assumption)) [(1, 1), (2, 2)] (dem_cons rfl (le_ro rfl el_rfl) (dem_cons rfl (le_ro rfl el_rfl) dem_nil)))) ?_
   apply aw_seq
   apply aw_seq
   refine awr []
    ⟨181, [1, 2, 3], [(1, .i y), (2, .ls 3), (7, .l (.ref 1007 0)), (8, .l (.ref 1008 0)), (9, .ls 1035), (10, .i (startE t r y)), (11, .i 0)], (verifies_frH12 t r p)⟩
    [] trivial ?_
   apply aw_block
   refine aw_loop (ι := Nat) (fun zz => ⟨181, [1, 2, 3], [(1, .i y), (2, .ls 3), (7, .l (.ref 1007 0)), (8, .l (.ref 1008 0)), (9, .ls 2001), (10, .i (w1V t r y p zz)), (11, .i ((zz : Nat) : Int))], (verifies_frH14 t r p zz)⟩) (fun zz => (zz ≤ p.length) ∧ (∀ j, j < zz → (ix p j).length ≤ 25)) (fun zz => p.length - zz) 0 ⟨(by first | omega | rfl | assumption | (simp; done)), (by intro j hj; omega)⟩
       (enr [(2001, 1035)] ⟨rfl, rfl, rfl, rfl, rfl, (slot_i rfl (by first | rfl | omega | assumption | (exact w1_0.symm) | (rfl))), rfl, trivial⟩ (cro rfl (cro rfl (cro rfl (cbl rfl rfl (cbl rfl rfl (conts_cons rfl (le_vec (by first | rfl | omega | assumption | (exact w1_0.symm) | (rfl)) (fun i hi => absurd hi (by omega))) trivial))))))) fun zz hp => ?_
   obtain ⟨i, rfl⟩ : ∃ x, x = zz := ⟨_, rfl⟩
   obtain ⟨hiL, hls⟩ := hp
   show AW _ E _ _ ⟨181, [1, 2, 3], [(1, .i y), (2, .ls 3), (7, .l (.ref 1007 0)), (8, .l (.ref 1008 0)), (9, .ls 2001), (10, .i (w1V t r y p i)), (11, .i ((i : Nat) : Int))], (verifies_frH14 t r p i)⟩
   apply aw_seq
   apply aw_seq
   refine awr []
    ⟨181, [1, 2, 3], [(1, .i y), (2, .ls 3), (7, .l (.ref 1007 0)), (8, .l (.ref 1008 0)), (9, .ls 2001), (10, .i (w1V t r y p i)), (11, .i ((i : Nat) : Int)), (43, .b (decide (((i : Nat) : Int) < ((p.length : Nat) : Int))))], (verifies_frH14 t r p i)⟩
    [] trivial ?_
   refine aw_cond (b := decide (((i : Nat) : Int) < ((p.length : Nat) : Int))) rfl (fun h3 => ?_) (fun h3 => ?_)
   ·
    have h3p : ((i : Nat) : Int) < ((p.length : Nat) : Int) := dtr h3
    apply aw_skip
    apply aw_seq
    apply aw_block
    apply aw_seq
    apply aw_seq
    have hlb := hll _ (ix_mem (l := p) (i := i) (by omega))
    refine awr [(2, .idx i), (3, .many [1049])]
     ⟨181, [1, 2, 3], [(1, .i y), (2, .ls 3), (7, .l (.ref 1007 0)), (8, .l (.ref 1008 0)), (9, .ls 2001), (10, .i (w1V t r y p i)), (11, .i ((i : Nat) : Int)), (51, .b (decide (25 < (((ix p i).length : Nat) : Int))))], (verifies_frH14 t r p i)⟩
     [((i : Nat) : Int) = ((i : Nat) : Int), i < p.length, i < p.length] (al2 (by omega) (al2 (by omega) (al1 (by omega)))) ?_
    refine aw_cond (b := decide (25 < (((ix p i).length : Nat) : Int))) rfl (fun h4 => ?_) (fun h4 => ?_)
    ·
     have h4p : 25 < (((ix p i).length : Nat) : Int) := dtr h4
     apply aw_seq
     refine awr [(0, .call [] (.b true) [])]
      ⟨181, [1, 2, 3], [(6, .b true)], []⟩
      [CallOK Try.prog 14 [] [] [] (.b true) []] (al1 (cfr (known_fr ) [] dem_nil)) ?_
     exact aw_ret (ret_then (ret_block (ret_then (ret_then (ret_block (ret_then ⟨.inr rfl, eok ⟨181, [1, 2, 3], [(6, .b true)], []⟩
         (enr [] ⟨rfl, trivial⟩ trivial) wr_nil⟩))))))
    ·
     have h4p : (((ix p i).length : Nat) : Int) ≤ 25 := dlt h4
     apply aw_skip
     apply aw_seq
     have htl : (p.take i).length ≤ 45 := by rw [List.length_take]; omega
     refine awr [(3, .idx i), (4, .many [1057]), (5, .call [1057] (.ls 10580) [(10580, some (verifies_frK15 p i))]), (6, .act [10580] (.ls 1059) [(10580, none), (1059, some (verifies_frK17 p i))]), (7, .lst 1060 ((p.take i).length + 1) (LstL 2 eS ((p.take i) ++ ([(ix p i)]))))]
      ⟨181, [1, 2, 3], [(1, .i y), (2, .ls 3), (7, .l (.ref 1007 0)), (8, .l (.ref 1008 0)), (9, .ls 1060), (10, .i (w1V t r y p i)), (11, .i ((i : Nat) : Int))], (verifies_frH19 t r p i)⟩
      [((i : Nat) : Int) = ((i : Nat) : Int), i < p.length, i < p.length, CallOK Try.prog 44 [.ls 1057] [1057] [some (verifies_frK16 p i)] (.ls 10580) [(10580, some (verifies_frK15 p i))], ActOK Try.prog (.buildSlice 102 1 #[(0, (.tmp 58))]) 102 [.ls 10580] [10580] [some (verifies_frK15 p i)] (.ls 1059) [(10580, none), (1059, some (verifies_frK17 p i))], (p.take i).length + 1 ≤ 1000000000000, ((p.take i).length + 1) * 24 ≤ 140737488355328, AppOk 1 ((p.take i).length) 1 (LstL 2 eS (p.take i)) (LstL 2 eS ([(ix p i)])) ((p.take i).length + 1) (LstL 2 eS ((p.take i) ++ ([(ix p i)])))] (al2 (by omega) (al2 (by omega) (al2 (by omega) (al2 (cfr (spotsc_fr (ix p i) (by omega)) [(1, 1057), (2, 10580)] (dem_cons rfl (le_ro rfl el_rfl) dem_nil)) (al2 (act_oneV (by kernel_rfl) (by kernel_rfl) (fun _ => rfl) rfl (by first | rfl | omega) rfl) (al2 (by omega) (al2 (by omega) (al1 (app_listL (by first | omega | rfl | assumption) (by first | omega | rfl | assumption)))))))))) ?_
     apply aw_seq
     rcases Bool.eq_false_or_eq_true (decide ((w1V t r y p i) = 0)) with h5 | h5
     ·
      have h5p : (w1V t r y p i) = 0 := dtr h5
      rcases Bool.eq_false_or_eq_true (decide (40 < ((p.length : Nat) : Int))) with h6 | h6
      ·
       have h6p : 40 < ((p.length : Nat) : Int) := dtr h6
       refine awr [(2, .dec true), (6, .dec true)]
        ⟨181, [1, 2, 3], [(1, .i y), (2, .ls 3), (7, .l (.ref 1007 0)), (8, .l (.ref 1008 0)), (9, .ls 1060), (10, .i (w1V t r y p i)), (11, .i ((i : Nat) : Int)), (75, .b true)], (verifies_frH19 t r p i)⟩
        [decide ((w1V t r y p i) = 0) = true, decide (40 < ((p.length : Nat) : Int)) = true] (al2 h5 (al1 h6)) ?_
       refine aw_true rfl ?_
       refine awr []
        ⟨181, [1, 2, 3], [(1, .i y), (2, .ls 3), (7, .l (.ref 1007 0)), (8, .l (.ref 1008 0)), (9, .ls 1060), (10, .i 5), (11, .i ((i : Nat) : Int))], (verifies_frH19 t r p i)⟩
        [] trivial ?_
       refine awr [(1, .num (((i + 1) : Nat) : Int))]
        ⟨181, [1, 2, 3], [(1, .i y), (2, .ls 3), (7, .l (.ref 1007 0)), (8, .l (.ref 1008 0)), (9, .ls 1060), (10, .i 5), (11, .i (((i + 1) : Nat) : Int))], (verifies_frH19 t r p i)⟩
        [(((i : Nat) : Int) + 1) = (((i + 1) : Nat) : Int), -9223372036854775808 ≤ (((i + 1) : Nat) : Int) ∧ (((i + 1) : Nat) : Int) < 9223372036854775808] (al2 (by omega) (al1 (by omega))) ?_
       exact ⟨(i + 1), ⟨(by first | omega | rfl | assumption | (simp; done)), (by exact fun j hj => (Nat.lt_or_ge j i).elim (fun h => hls j h) (fun h => by rw [show j = i by omega]; omega))⟩, (show p.length - (i + 1) < p.length - i by first | omega | rfl | assumption),
           (enr [(2001, 1060)] ⟨rfl, rfl, rfl, rfl, rfl, (slot_i rfl (by first | rfl | omega | assumption | (exact (take_ix (by omega)).symm) | ((rw [take_ix (by omega), List.length_append]; rfl)) | (exact (w1_yes (by omega) (by assumption) (by first | exact .inl (by omega) | exact .inr (by omega))).symm) | (exact (w1_no1 (by omega) (by assumption)).symm) | (exact (w1_no2 (by omega) (by omega) (by omega)).symm))), rfl, trivial⟩ (cro rfl (cro rfl (cro rfl (cbl rfl rfl (cbl rfl rfl (conts_cons rfl (le_vec (by first | rfl | omega | assumption | (exact (take_ix (by omega)).symm) | ((rw [take_ix (by omega), List.length_append]; rfl)) | (exact (w1_yes (by omega) (by assumption) (by first | exact .inl (by omega) | exact .inr (by omega))).symm) | (exact (w1_no1 (by omega) (by assumption)).symm) | (exact (w1_no2 (by omega) (by omega) (by omega)).symm)) (lstL_eq (by first | rfl | omega | assumption | (exact (take_ix (by omega)).symm) | ((rw [take_ix (by omega), List.length_append]; rfl)) | (exact (w1_yes (by omega) (by assumption) (by first | exact .inl (by omega) | exact .inr (by omega))).symm) | (exact (w1_no1 (by omega) (by assumption)).symm) | (exact (w1_no2 (by omega) (by omega) (by omega)).symm)))) trivial)))))))⟩
      ·
       have h6p : ((p.length : Nat) : Int) ≤ 40 := dlt h6
       refine awr [(2, .dec true), (6, .dec false), (9, .idx i), (10, .many [1071])]
        ⟨181, [1, 2, 3], [(1, .i y), (2, .ls 3), (7, .l (.ref 1007 0)), (8, .l (.ref 1008 0)), (9, .ls 1060), (10, .i (w1V t r y p i)), (11, .i ((i : Nat) : Int)), (75, .b (decide (20 < (((ix p i).length : Nat) : Int))))], (verifies_frH19 t r p i)⟩
        [decide ((w1V t r y p i) = 0) = true, decide (40 < ((p.length : Nat) : Int)) = false, ((i : Nat) : Int) = ((i : Nat) : Int), i < p.length, i < p.length] (al2 h5 (al2 h6 (al2 (by omega) (al2 (by omega) (al1 (by omega)))))) ?_
       refine aw_cond (b := decide (20 < (((ix p i).length : Nat) : Int))) rfl (fun h7 => ?_) (fun h7 => ?_)
       ·
        have h7p : 20 < (((ix p i).length : Nat) : Int) := dtr h7
        refine awr []
         ⟨181, [1, 2, 3], [(1, .i y), (2, .ls 3), (7, .l (.ref 1007 0)), (8, .l (.ref 1008 0)), (9, .ls 1060), (10, .i 5), (11, .i ((i : Nat) : Int))], (verifies_frH19 t r p i)⟩
         [] trivial ?_
        refine awr [(1, .num (((i + 1) : Nat) : Int))]
         ⟨181, [1, 2, 3], [(1, .i y), (2, .ls 3), (7, .l (.ref 1007 0)), (8, .l (.ref 1008 0)), (9, .ls 1060), (10, .i 5), (11, .i (((i + 1) : Nat) : Int))], (verifies_frH19 t r p i)⟩
         [(((i : Nat) : Int) + 1) = (((i + 1) : Nat) : Int), -9223372036854775808 ≤ (((i + 1) : Nat) : Int) ∧ (((i + 1) : Nat) : Int) < 9223372036854775808] (al2 (by omega) (al1 (by omega))) ?_
        exact ⟨(i + 1), ⟨(by first | omega | rfl | assumption | (simp; done)), (by exact fun j hj => (Nat.lt_or_ge j i).elim (fun h => hls j h) (fun h => by rw [show j = i by omega]; omega))⟩, (show p.length - (i + 1) < p.length - i by first | omega | rfl | assumption),
            (enr [(2001, 1060)] ⟨rfl, rfl, rfl, rfl, rfl, (slot_i rfl (by first | rfl | omega | assumption | (exact (take_ix (by omega)).symm) | ((rw [take_ix (by omega), List.length_append]; rfl)) | (exact (w1_yes (by omega) (by assumption) (by first | exact .inl (by omega) | exact .inr (by omega))).symm) | (exact (w1_no1 (by omega) (by assumption)).symm) | (exact (w1_no2 (by omega) (by omega) (by omega)).symm))), rfl, trivial⟩ (cro rfl (cro rfl (cro rfl (cbl rfl rfl (cbl rfl rfl (conts_cons rfl (le_vec (by first | rfl | omega | assumption | (exact (take_ix (by omega)).symm) | ((rw [take_ix (by omega), List.length_append]; rfl)) | (exact (w1_yes (by omega) (by assumption) (by first | exact .inl (by omega) | exact .inr (by omega))).symm) | (exact (w1_no1 (by omega) (by assumption)).symm) | (exact (w1_no2 (by omega) (by omega) (by omega)).symm)) (lstL_eq (by first | rfl | omega | assumption | (exact (take_ix (by omega)).symm) | ((rw [take_ix (by omega), List.length_append]; rfl)) | (exact (w1_yes (by omega) (by assumption) (by first | exact .inl (by omega) | exact .inr (by omega))).symm) | (exact (w1_no1 (by omega) (by assumption)).symm) | (exact (w1_no2 (by omega) (by omega) (by omega)).symm)))) trivial)))))))⟩
       ·
        have h7p : (((ix p i).length : Nat) : Int) ≤ 20 := dlt h7
        apply aw_skip
        refine awr [(1, .num (((i + 1) : Nat) : Int))]
         ⟨181, [1, 2, 3], [(1, .i y), (2, .ls 3), (7, .l (.ref 1007 0)), (8, .l (.ref 1008 0)), (9, .ls 1060), (10, .i (w1V t r y p i)), (11, .i (((i + 1) : Nat) : Int))], (verifies_frH19 t r p i)⟩
         [(((i : Nat) : Int) + 1) = (((i + 1) : Nat) : Int), -9223372036854775808 ≤ (((i + 1) : Nat) : Int) ∧ (((i + 1) : Nat) : Int) < 9223372036854775808] (al2 (by omega) (al1 (by omega))) ?_
        exact ⟨(i + 1), ⟨(by first | omega | rfl | assumption | (simp; done)), (by exact fun j hj => (Nat.lt_or_ge j i).elim (fun h => hls j h) (fun h => by rw [show j = i by omega]; omega))⟩, (show p.length - (i + 1) < p.length - i by first | omega | rfl | assumption),
            (enr [(2001, 1060)] ⟨rfl, rfl, rfl, rfl, rfl, (slot_i rfl (by first | rfl | omega | assumption | (exact (take_ix (by omega)).symm) | ((rw [take_ix (by omega), List.length_append]; rfl)) | (exact (w1_yes (by omega) (by assumption) (by first | exact .inl (by omega) | exact .inr (by omega))).symm) | (exact (w1_no1 (by omega) (by assumption)).symm) | (exact (w1_no2 (by omega) (by omega) (by omega)).symm))), rfl, trivial⟩ (cro rfl (cro rfl (cro rfl (cbl rfl rfl (cbl rfl rfl (conts_cons rfl (le_vec (by first | rfl | omega | assumption | (exact (take_ix (by omega)).symm) | ((rw [take_ix (by omega), List.length_append]; rfl)) | (exact (w1_yes (by omega) (by assumption) (by first | exact .inl (by omega) | exact .inr (by omega))).symm) | (exact (w1_no1 (by omega) (by assumption)).symm) | (exact (w1_no2 (by omega) (by omega) (by omega)).symm)) (lstL_eq (by first | rfl | omega | assumption | (exact (take_ix (by omega)).symm) | ((rw [take_ix (by omega), List.length_append]; rfl)) | (exact (w1_yes (by omega) (by assumption) (by first | exact .inl (by omega) | exact .inr (by omega))).symm) | (exact (w1_no1 (by omega) (by assumption)).symm) | (exact (w1_no2 (by omega) (by omega) (by omega)).symm)))) trivial)))))))⟩
     ·
      have h5p : (w1V t r y p i) ≠ 0 := deq h5
      refine awr [(2, .dec false)]
       ⟨181, [1, 2, 3], [(1, .i y), (2, .ls 3), (7, .l (.ref 1007 0)), (8, .l (.ref 1008 0)), (9, .ls 1060), (10, .i (w1V t r y p i)), (11, .i ((i : Nat) : Int)), (75, .b false)], (verifies_frH19 t r p i)⟩
       [decide ((w1V t r y p i) = 0) = false] (al1 h5) ?_
      refine aw_false rfl ?_
      apply aw_skip
      refine awr [(1, .num (((i + 1) : Nat) : Int))]
       ⟨181, [1, 2, 3], [(1, .i y), (2, .ls 3), (7, .l (.ref 1007 0)), (8, .l (.ref 1008 0)), (9, .ls 1060), (10, .i (w1V t r y p i)), (11, .i (((i + 1) : Nat) : Int))], (verifies_frH19 t r p i)⟩
       [(((i : Nat) : Int) + 1) = (((i + 1) : Nat) : Int), -9223372036854775808 ≤ (((i + 1) : Nat) : Int) ∧ (((i + 1) : Nat) : Int) < 9223372036854775808] (al2 (by omega) (al1 (by omega))) ?_
      exact ⟨(i + 1), ⟨(by first | omega | rfl | assumption | (simp; done)), (by exact fun j hj => (Nat.lt_or_ge j i).elim (fun h => hls j h) (fun h => by rw [show j = i by omega]; omega))⟩, (show p.length - (i + 1) < p.length - i by first | omega | rfl | assumption),
          (enr [(2001, 1060)] ⟨rfl, rfl, rfl, rfl, rfl, (slot_i rfl (by first | rfl | omega | assumption | (exact (take_ix (by omega)).symm) | ((rw [take_ix (by omega), List.length_append]; rfl)) | (exact (w1_yes (by omega) (by assumption) (by first | exact .inl (by omega) | exact .inr (by omega))).symm) | (exact (w1_no1 (by omega) (by assumption)).symm) | (exact (w1_no2 (by omega) (by omega) (by omega)).symm))), rfl, trivial⟩ (cro rfl (cro rfl (cro rfl (cbl rfl rfl (cbl rfl rfl (conts_cons rfl (le_vec (by first | rfl | omega | assumption | (exact (take_ix (by omega)).symm) | ((rw [take_ix (by omega), List.length_append]; rfl)) | (exact (w1_yes (by omega) (by assumption) (by first | exact .inl (by omega) | exact .inr (by omega))).symm) | (exact (w1_no1 (by omega) (by assumption)).symm) | (exact (w1_no2 (by omega) (by omega) (by omega)).symm)) (lstL_eq (by first | rfl | omega | assumption | (exact (take_ix (by omega)).symm) | ((rw [take_ix (by omega), List.length_append]; rfl)) | (exact (w1_yes (by omega) (by assumption) (by first | exact .inl (by omega) | exact .inr (by omega))).symm) | (exact (w1_no1 (by omega) (by assumption)).symm) | (exact (w1_no2 (by omega) (by omega) (by omega)).symm)))) trivial)))))))⟩
   ·
    have h3p : ((p.length : Nat) : Int) ≤ ((i : Nat) : Int) := dlt h3
    refine aw_exit (exit_then (exit_then (exit_in ?_)))
    refine aw_seqJ ⟨181, [1, 2, 3], [(1, .i y), (2, .ls 3), (7, .l (.ref 1007 0)), (8, .l (.ref 1008 0)), (9, .ls 2001), (10, .i (w3V t r y p 0))], (verifies_frH20 t r p)⟩ ?_ ?_
    ·
     apply aw_seq
     refine aw_ent (T := ⟨181, [1, 2, 3], [(1, .i y), (2, .ls 3), (7, .l (.ref 1007 0)), (8, .l (.ref 1008 0)), (9, .ls 2001), (10, .i (w2V t r y p)), (11, .i ((i : Nat) : Int)), (43, .b (decide (((i : Nat) : Int) < ((p.length : Nat) : Int))))], (verifies_frH20 t r p)⟩)
         (enr [] ⟨rfl, rfl, rfl, rfl, rfl, (slot_i rfl (by first | rfl | omega | assumption | (exact w1_end (by omega) (by omega)) | (exact List.take_of_length_le (by omega)) | ((rw [List.take_of_length_le (by omega)])))), rfl, rfl, trivial⟩ (cro rfl (cro rfl (cro rfl (cbl rfl rfl (cbl rfl rfl (conts_cons rfl (le_vec (by first | rfl | omega | assumption | (exact w1_end (by omega) (by omega)) | (exact List.take_of_length_le (by omega)) | ((rw [List.take_of_length_le (by omega)]))) (lstL_eq (by first | rfl | omega | assumption | (exact w1_end (by omega) (by omega)) | (exact List.take_of_length_le (by omega)) | ((rw [List.take_of_length_le (by omega)]))))) trivial))))))) ?_
     rcases Bool.eq_false_or_eq_true (decide ((w2V t r y p) = 0)) with h8 | h8
     ·
      have h8p : (w2V t r y p) = 0 := dtr h8
      obtain ⟨hs0, hy9⟩ := w2_y (dtr h8)
      refine awr [(2, .dec true)]
       ⟨181, [1, 2, 3], [(1, .i y), (2, .ls 3), (7, .l (.ref 1007 0)), (8, .l (.ref 1008 0)), (9, .ls 2001), (10, .i (w2V t r y p)), (85, .b (decide (9999 < ((y + ((p.length : Nat) : Int)) - 1))))], (verifies_frH20 t r p)⟩
       [decide ((w2V t r y p) = 0) = true, -9223372036854775808 ≤ (y + ((p.length : Nat) : Int)) ∧ (y + ((p.length : Nat) : Int)) < 9223372036854775808, -9223372036854775808 ≤ ((y + ((p.length : Nat) : Int)) - 1) ∧ ((y + ((p.length : Nat) : Int)) - 1) < 9223372036854775808] (al2 h8 (al2 (by omega) (al1 (by omega)))) ?_
      refine aw_cond (b := decide (9999 < ((y + ((p.length : Nat) : Int)) - 1))) rfl (fun h9 => ?_) (fun h9 => ?_)
      ·
       have h9p : 9999 < ((y + ((p.length : Nat) : Int)) - 1) := dtr h9
       refine awr []
        ⟨181, [1, 2, 3], [(1, .i y), (2, .ls 3), (7, .l (.ref 1007 0)), (8, .l (.ref 1008 0)), (9, .ls 2001), (10, .i 3)], (verifies_frH20 t r p)⟩
        [] trivial ?_
       exact (enr [] ⟨rfl, rfl, rfl, rfl, rfl, (slot_i rfl (by first | rfl | omega | assumption | (exact (w3_01 (by assumption) (by omega)).symm) | (exact (w3_02 (by assumption)).symm) | (exact (w3_03 (by assumption) (by omega)).symm) | (exact w3_01 (by assumption) (by omega)) | (exact w3_02 (by assumption)) | (exact w3_03 (by assumption) (by omega)))), trivial⟩ (cro rfl (cro rfl (cro rfl (cbl rfl rfl (cbl rfl rfl (cve rfl trivial)))))))
      ·
       have h9p : ((y + ((p.length : Nat) : Int)) - 1) ≤ 9999 := dlt h9
       apply aw_skip
       exact (enr [] ⟨rfl, rfl, rfl, rfl, rfl, (slot_i rfl (by first | rfl | omega | assumption | (exact (w3_01 (by assumption) (by omega)).symm) | (exact (w3_02 (by assumption)).symm) | (exact (w3_03 (by assumption) (by omega)).symm) | (exact w3_01 (by assumption) (by omega)) | (exact w3_02 (by assumption)) | (exact w3_03 (by assumption) (by omega)))), trivial⟩ (cro rfl (cro rfl (cro rfl (cbl rfl rfl (cbl rfl rfl (cve rfl trivial)))))))
     ·
      have h8p : (w2V t r y p) ≠ 0 := deq h8
      refine awr [(2, .dec false)]
       ⟨181, [1, 2, 3], [(1, .i y), (2, .ls 3), (7, .l (.ref 1007 0)), (8, .l (.ref 1008 0)), (9, .ls 2001), (10, .i (w2V t r y p)), (85, .b false)], (verifies_frH20 t r p)⟩
       [decide ((w2V t r y p) = 0) = false] (al1 h8) ?_
      refine aw_false rfl ?_
      apply aw_skip
      exact (enr [] ⟨rfl, rfl, rfl, rfl, rfl, (slot_i rfl (by first | rfl | omega | assumption | (exact (w3_01 (by assumption) (by omega)).symm) | (exact (w3_02 (by assumption)).symm) | (exact (w3_03 (by assumption) (by omega)).symm) | (exact w3_01 (by assumption) (by omega)) | (exact w3_02 (by assumption)) | (exact w3_03 (by assumption) (by omega)))), trivial⟩ (cro rfl (cro rfl (cro rfl (cbl rfl rfl (cbl rfl rfl (cve rfl trivial)))))))
    ·
     refine aw_seqJ ⟨181, [1, 2, 3], [(1, .i y), (2, .ls 3), (7, .l (.ref 1007 0)), (8, .l (.ref 1008 0)), (9, .ls 2001), (10, .i (verE t r y p))], (verifies_frH20 t r p)⟩ ?_ ?_
     ·
      apply aw_seq
      have hsh : shortP 1000 p := fun q hq => by obtain ⟨j, hj, rfl⟩ := mem_ix hq; have := hls j (by omega); omega
      refine awr []
       ⟨181, [1, 2, 3], [(1, .i y), (2, .ls 3), (7, .l (.ref 1007 0)), (8, .l (.ref 1008 0)), (9, .ls 2001), (10, .i (w3V t r y p 0)), (12, .i 0)], (verifies_frH20 t r p)⟩
       [] trivial ?_
      apply aw_block
      refine aw_loop (ι := Nat) (fun zz => ⟨181, [1, 2, 3], [(1, .i y), (2, .ls 3), (7, .l (.ref 1007 0)), (8, .l (.ref 1008 0)), (9, .ls 2001), (10, .i (w3V t r y p zz)), (12, .i ((zz : Nat) : Int))], (verifies_frH20 t r p)⟩) (fun zz => (zz ≤ p.length)) (fun zz => p.length - zz) 0 (by first | omega | rfl | assumption | (simp; done))
          (enr [] ⟨rfl, rfl, rfl, rfl, rfl, rfl, rfl, trivial⟩ (cro rfl (cro rfl (cro rfl (cbl rfl rfl (cbl rfl rfl (cve rfl trivial))))))) fun zz hp => ?_
      obtain ⟨k, rfl⟩ : ∃ x, x = zz := ⟨_, rfl⟩
      have hkL := hp
      show AW _ E _ _ ⟨181, [1, 2, 3], [(1, .i y), (2, .ls 3), (7, .l (.ref 1007 0)), (8, .l (.ref 1008 0)), (9, .ls 2001), (10, .i (w3V t r y p k)), (12, .i ((k : Nat) : Int))], (verifies_frH20 t r p)⟩
      apply aw_seq
      apply aw_seq
      rcases Bool.eq_false_or_eq_true (decide (((k : Nat) : Int) < ((p.length : Nat) : Int))) with h10 | h10
      ·
       have h10p : ((k : Nat) : Int) < ((p.length : Nat) : Int) := dtr h10
       refine awr [(4, .dec true)]
        ⟨181, [1, 2, 3], [(1, .i y), (2, .ls 3), (7, .l (.ref 1007 0)), (8, .l (.ref 1008 0)), (9, .ls 2001), (10, .i (w3V t r y p k)), (12, .i ((k : Nat) : Int)), (93, .b (decide ((w3V t r y p k) = 0)))], (verifies_frH20 t r p)⟩
        [decide (((k : Nat) : Int) < ((p.length : Nat) : Int)) = true] (al1 h10) ?_
       refine aw_cond (b := decide ((w3V t r y p k) = 0)) rfl (fun h11 => ?_) (fun h11 => ?_)
       ·
        have h11p : (w3V t r y p k) = 0 := dtr h11
        apply aw_skip
        apply aw_seq
        apply aw_block
        apply aw_seq
        have hsk := hsh _ (ix_mem (l := p) (i := k) (by omega))
        refine awr [(2, .idx k), (3, .many [1099]), (4, .call [1099] (.b (spotsB (ix p k))) [])]
         ⟨181, [1, 2, 3], [(1, .i y), (2, .ls 3), (7, .l (.ref 1007 0)), (8, .l (.ref 1008 0)), (9, .ls 2001), (10, .i (w3V t r y p k)), (12, .i ((k : Nat) : Int)), (101, .b (!(spotsB (ix p k))))], (verifies_frH20 t r p)⟩
         [((k : Nat) : Int) = ((k : Nat) : Int), k < p.length, k < p.length, CallOK Try.prog 39 [.ls 1099] [1099] [some (verifies_frK21 p k)] (.b (spotsB (ix p k))) []] (al2 (by omega) (al2 (by omega) (al2 (by omega) (al1 (cfr (refOn_fr (ix p k) (by first | omega | (simp; done) | decide)) [(0, 1099)] (dem_cons rfl (le_ro rfl el_rfl) dem_nil)))))) ?_
        refine aw_cond (b := (!(spotsB (ix p k)))) rfl (fun h12 => ?_) (fun h12 => ?_)
        ·
         refine awr []
          ⟨181, [1, 2, 3], [(1, .i y), (2, .ls 3), (7, .l (.ref 1007 0)), (8, .l (.ref 1008 0)), (9, .ls 2001), (10, .i 3), (12, .i ((k : Nat) : Int))], (verifies_frH20 t r p)⟩
          [] trivial ?_
         refine awr [(1, .num (((k + 1) : Nat) : Int))]
          ⟨181, [1, 2, 3], [(1, .i y), (2, .ls 3), (7, .l (.ref 1007 0)), (8, .l (.ref 1008 0)), (9, .ls 2001), (10, .i 3), (12, .i (((k + 1) : Nat) : Int))], (verifies_frH20 t r p)⟩
          [(((k : Nat) : Int) + 1) = (((k + 1) : Nat) : Int), -9223372036854775808 ≤ (((k + 1) : Nat) : Int) ∧ (((k + 1) : Nat) : Int) < 9223372036854775808] (al2 (by omega) (al1 (by omega))) ?_
         exact ⟨(k + 1), (by first | omega | rfl | assumption | (simp; done)), (show p.length - (k + 1) < p.length - k by first | omega | rfl | assumption),
             (enr [] ⟨rfl, rfl, rfl, rfl, rfl, (slot_i rfl (by first | rfl | omega | assumption | (exact (w3_yes (by omega) (by assumption) (by simpa using (by assumption : (!(spotsB (ix p k))) = true))).symm) | (exact (w3_no (by omega) (by simpa using (by assumption : (!(spotsB (ix p k))) = false))).symm))), rfl, trivial⟩ (cro rfl (cro rfl (cro rfl (cbl rfl rfl (cbl rfl rfl (cve rfl trivial)))))))⟩
        ·
         apply aw_skip
         refine awr [(1, .num (((k + 1) : Nat) : Int))]
          ⟨181, [1, 2, 3], [(1, .i y), (2, .ls 3), (7, .l (.ref 1007 0)), (8, .l (.ref 1008 0)), (9, .ls 2001), (10, .i (w3V t r y p k)), (12, .i (((k + 1) : Nat) : Int))], (verifies_frH20 t r p)⟩
          [(((k : Nat) : Int) + 1) = (((k + 1) : Nat) : Int), -9223372036854775808 ≤ (((k + 1) : Nat) : Int) ∧ (((k + 1) : Nat) : Int) < 9223372036854775808] (al2 (by omega) (al1 (by omega))) ?_
         exact ⟨(k + 1), (by first | omega | rfl | assumption | (simp; done)), (show p.length - (k + 1) < p.length - k by first | omega | rfl | assumption),
             (enr [] ⟨rfl, rfl, rfl, rfl, rfl, (slot_i rfl (by first | rfl | omega | assumption | (exact (w3_yes (by omega) (by assumption) (by simpa using (by assumption : (!(spotsB (ix p k))) = true))).symm) | (exact (w3_no (by omega) (by simpa using (by assumption : (!(spotsB (ix p k))) = false))).symm))), rfl, trivial⟩ (cro rfl (cro rfl (cro rfl (cbl rfl rfl (cbl rfl rfl (cve rfl trivial)))))))⟩
       ·
        have h11p : (w3V t r y p k) ≠ 0 := deq h11
        refine aw_exit (exit_then (exit_then (exit_in ?_)))
        exact (enr [] ⟨rfl, rfl, rfl, rfl, rfl, (slot_i rfl (by first | rfl | omega | assumption | (exact w3_end1 (by omega)) | (exact w3_end2 (by assumption)))), trivial⟩ (cro rfl (cro rfl (cro rfl (cbl rfl rfl (cbl rfl rfl (cve rfl trivial)))))))
      ·
       have h10p : ((p.length : Nat) : Int) ≤ ((k : Nat) : Int) := dlt h10
       refine awr [(4, .dec false)]
        ⟨181, [1, 2, 3], [(1, .i y), (2, .ls 3), (7, .l (.ref 1007 0)), (8, .l (.ref 1008 0)), (9, .ls 2001), (10, .i (w3V t r y p k)), (12, .i ((k : Nat) : Int)), (93, .b false)], (verifies_frH20 t r p)⟩
        [decide (((k : Nat) : Int) < ((p.length : Nat) : Int)) = false] (al1 h10) ?_
       refine aw_false rfl ?_
       refine aw_exit (exit_then (exit_then (exit_in ?_)))
       exact (enr [] ⟨rfl, rfl, rfl, rfl, rfl, (slot_i rfl (by first | rfl | omega | assumption | (exact w3_end1 (by omega)) | (exact w3_end2 (by assumption)))), trivial⟩ (cro rfl (cro rfl (cro rfl (cbl rfl rfl (cbl rfl rfl (cve rfl trivial)))))))
     ·
      apply aw_seq
      have hsh : shortP 1000 p := fun q hq => by obtain ⟨j, hj, rfl⟩ := mem_ix hq; have := hls j (by omega); omega
      refine awd [(1, .call [1] ((verifies_frA22 t)) [(11040, some (verifies_frK23 t))]), (3, .call [2] ((verifies_frA24 r)) [(11060, some (verifies_frK25 r))]), (6, .call [11040, 11060, 2001] (.tup [.one (.i ((verR t r y p).1)), .one (.i ((verR t r y p).2.1)), .one (.i ((verR t r y p).2.2.1)), .one (.i ((verR t r y p).2.2.2))]) [])]
       ⟨181, [1, 2, 3], [(1, .i y), (2, .ls 3), (7, .l (.ref 1007 0)), (8, .l (.ref 1008 0)), (9, .ls 2001), (10, .i (verE t r y p)), (13, .i ((verR t r y p).1)), (14, .i ((verR t r y p).2.1)), (15, .i ((verR t r y p).2.2.1)), (16, .i ((verR t r y p).2.2.2))], (verifies_frH20 t r p)⟩
       [CallOK Try.prog 15 [(verifies_frA10 t)] [1] [some (verifies_frK2 t)] ((verifies_frA22 t)) [(11040, some (verifies_frK23 t))], CallOK Try.prog 16 [(verifies_frA11 r)] [2] [some (verifies_frK3 r)] ((verifies_frA24 r)) [(11060, some (verifies_frK25 r))], CallOK Try.prog 51 [(verifies_frA22 t), (verifies_frA24 r), .i y, .ls 2001] [11040, 11060, 2001] [some (verifies_frK23 t), some (verifies_frK25 r), some (.vec 57 1 p.length (LstL 2 eS p))] (.tup [.one (.i ((verR t r y p).1)), .one (.i ((verR t r y p).2.1)), .one (.i ((verR t r y p).2.2.1)), .one (.i ((verR t r y p).2.2.2))]) []] (al2 (cfr (own_fr t (by first | omega | (simp; done) | assumption)) [(1, 1), (2, 11040)] (dem_cons rfl (le_ro rfl el_rfl) dem_nil)) (al2 (cfr (tapsc_fr r (by first | omega | (simp; done) | assumption)) [(1, 2), (2, 11060)] (dem_cons rfl (le_ro rfl el_rfl) dem_nil)) (al1 (cfr (Verify_fr t r y (by first | omega | (simp; done) | assumption) (by first | omega | (simp; done) | assumption) p (by omega) (by assumption)) [(1, 11040), (2, 11060), (3, 2001)] (dem_cons rfl (le_vec_ro rfl el_rfl) (dem_cons rfl (le_vec_ro rfl el_rfl) (dem_cons rfl (le_vec_ro rfl el_rfl) dem_nil))))))) ?_
      apply aw_seq
      apply aw_seq
      refine awr []
       ⟨181, [1, 2, 3], [(1, .i y), (2, .ls 3), (7, .l (.ref 1007 0)), (8, .l (.ref 1008 0)), (9, .ls 2001), (10, .i (verE t r y p)), (13, .i ((verR t r y p).1)), (14, .i ((verR t r y p).2.1)), (15, .i ((verR t r y p).2.2.1)), (16, .i ((verR t r y p).2.2.2)), (17, .i 0)], (verifies_frH20 t r p)⟩
       [] trivial ?_
      apply aw_block
      refine aw_loop (ι := Nat) (fun zz => ⟨181, [1, 2, 3], [(1, .i y), (2, .ls 3), (7, .l (.ref 1007 0)), (8, .l (.ref 1008 0)), (9, .ls 2001), (10, .i (verE t r y p)), (13, .i ((verR t r y p).1)), (14, .i ((verR t r y p).2.1)), (15, .i ((verR t r y p).2.2.1)), (16, .i ((verR t r y p).2.2.2)), (17, .i ((zz : Nat) : Int))], (verifies_frH20 t r p)⟩) (fun zz => (zz ≤ p.length)) (fun zz => p.length - zz) 0 (by first | omega | rfl | assumption | (simp; done))
          (enr [] ⟨rfl, rfl, rfl, rfl, rfl, rfl, rfl, rfl, rfl, rfl, rfl, trivial⟩ (cro rfl (cro rfl (cro rfl (cbl rfl rfl (cbl rfl rfl (cve rfl trivial))))))) fun zz hp => ?_
      obtain ⟨j, rfl⟩ : ∃ x, x = zz := ⟨_, rfl⟩
      have hjL := hp
      show AW _ E _ _ ⟨181, [1, 2, 3], [(1, .i y), (2, .ls 3), (7, .l (.ref 1007 0)), (8, .l (.ref 1008 0)), (9, .ls 2001), (10, .i (verE t r y p)), (13, .i ((verR t r y p).1)), (14, .i ((verR t r y p).2.1)), (15, .i ((verR t r y p).2.2.1)), (16, .i ((verR t r y p).2.2.2)), (17, .i ((j : Nat) : Int))], (verifies_frH20 t r p)⟩
      apply aw_seq
      apply aw_seq
      refine awr []
       ⟨181, [1, 2, 3], [(1, .i y), (2, .ls 3), (7, .l (.ref 1007 0)), (8, .l (.ref 1008 0)), (9, .ls 2001), (10, .i (verE t r y p)), (13, .i ((verR t r y p).1)), (14, .i ((verR t r y p).2.1)), (15, .i ((verR t r y p).2.2.1)), (16, .i ((verR t r y p).2.2.2)), (17, .i ((j : Nat) : Int)), (117, .b (decide (((j : Nat) : Int) < ((p.length : Nat) : Int))))], (verifies_frH20 t r p)⟩
       [] trivial ?_
      refine aw_cond (b := decide (((j : Nat) : Int) < ((p.length : Nat) : Int))) rfl (fun h13 => ?_) (fun h13 => ?_)
      ·
       have h13p : ((j : Nat) : Int) < ((p.length : Nat) : Int) := dtr h13
       apply aw_skip
       apply aw_seq
       apply aw_block
       apply aw_seq
       have hsj := hsh _ (ix_mem (l := p) (i := j) (by omega))
       refine awd [(2, .idx j), (3, .many [1123]), (6, .idx j), (7, .many [1127]), (8, .call [1123, 1127] (.b true) [])]
        ⟨181, [1, 2, 3], [(1, .i y), (2, .ls 3), (7, .l (.ref 1007 0)), (8, .l (.ref 1008 0)), (9, .ls 2001), (10, .i (verE t r y p)), (13, .i ((verR t r y p).1)), (14, .i ((verR t r y p).2.1)), (15, .i ((verR t r y p).2.2.1)), (16, .i ((verR t r y p).2.2.2)), (17, .i ((j : Nat) : Int)), (129, .b false)], (verifies_frH20 t r p)⟩
        [((j : Nat) : Int) = ((j : Nat) : Int), j < p.length, j < p.length, ((j : Nat) : Int) = ((j : Nat) : Int), j < p.length, j < p.length, CallOK Try.prog 35 [.ls 1123, .ls 1127] [1123, 1127] [some (verifies_frK26 p j), some (verifies_frK26 p j)] (.b true) []] (al2 (by omega) (al2 (by omega) (al2 (by omega) (al2 (by omega) (al2 (by omega) (al2 (by omega) (al1 (cfr (spotsS_fr (ix p j) (by first | omega | (simp; done) | assumption)) [(1, 1123), (2, 1127)] (dem_cons rfl (le_ro rfl el_rfl) (dem_cons rfl (le_ro rfl el_rfl) dem_nil)))))))))) ?_
       refine aw_false rfl ?_
       apply aw_skip
       refine awr [(1, .num (((j + 1) : Nat) : Int))]
        ⟨181, [1, 2, 3], [(1, .i y), (2, .ls 3), (7, .l (.ref 1007 0)), (8, .l (.ref 1008 0)), (9, .ls 2001), (10, .i (verE t r y p)), (13, .i ((verR t r y p).1)), (14, .i ((verR t r y p).2.1)), (15, .i ((verR t r y p).2.2.1)), (16, .i ((verR t r y p).2.2.2)), (17, .i (((j + 1) : Nat) : Int))], (verifies_frH20 t r p)⟩
        [(((j : Nat) : Int) + 1) = (((j + 1) : Nat) : Int), -9223372036854775808 ≤ (((j + 1) : Nat) : Int) ∧ (((j + 1) : Nat) : Int) < 9223372036854775808] (al2 (by omega) (al1 (by omega))) ?_
       exact ⟨(j + 1), (by first | omega | rfl | assumption | (simp; done)), (show p.length - (j + 1) < p.length - j by first | omega | rfl | assumption),
           (enr [] ⟨rfl, rfl, rfl, rfl, rfl, rfl, rfl, rfl, rfl, rfl, rfl, trivial⟩ (cro rfl (cro rfl (cro rfl (cbl rfl rfl (cbl rfl rfl (cve rfl trivial)))))))⟩
      ·
       have h13p : ((p.length : Nat) : Int) ≤ ((j : Nat) : Int) := dlt h13
       refine aw_exit (exit_then (exit_then (exit_in ?_)))
       apply aw_seq
       apply aw_seq
       refine awr []
        ⟨181, [1, 2, 3], [(1, .i y), (2, .ls 3), (7, .l (.ref 1007 0)), (8, .l (.ref 1008 0)), (10, .i (verE t r y p)), (13, .i ((verR t r y p).1)), (14, .i ((verR t r y p).2.1)), (15, .i ((verR t r y p).2.2.1)), (16, .i ((verR t r y p).2.2.2)), (131, .b (decide ((verE t r y p) ≠ 0)))], (verifies_frH9 t r p)⟩
        [] trivial ?_
       refine aw_cond (b := decide ((verE t r y p) ≠ 0)) rfl (fun h14 => ?_) (fun h14 => ?_)
       ·
        have h14p : (verE t r y p) ≠ 0 := dtr h14
        apply aw_seq
        have h15 : (decide ((verR t r y p).2.2.2 = (verE t r y p))) = true := by exact decide_eq_true (by rw [verR_bad (by assumption)])
        have h16 : (decide ((verR t r y p).1 = 0)) = true := by exact decide_eq_true (by rw [verR_bad (by assumption)])
        have h17 : (decide ((verR t r y p).2.1 = 0)) = true := by exact decide_eq_true (by rw [verR_bad (by assumption)])
        have h18 : (decide ((verR t r y p).2.2.1 = 0)) = true := by exact decide_eq_true (by rw [verR_bad (by assumption)])
        refine awr [(3, .dec true), (7, .dec true), (11, .dec true), (15, .dec true), (16, .call [] (.b true) [])]
         ⟨181, [1, 2, 3], [(6, .b true)], []⟩
         [decide ((verR t r y p).2.2.2 = (verE t r y p)) = true, decide ((verR t r y p).1 = 0) = true, decide ((verR t r y p).2.1 = 0) = true, decide ((verR t r y p).2.2.1 = 0) = true, CallOK Try.prog 14 [] [] [] (.b true) []] (al2 h15 (al2 h16 (al2 h17 (al2 h18 (al1 (cfr (known_fr ) [] dem_nil)))))) ?_
        exact aw_ret (ret_then ⟨.inr rfl, eok ⟨181, [1, 2, 3], [(6, .b true)], []⟩
            (enr [] ⟨rfl, trivial⟩ trivial) wr_nil⟩)
       ·
        have h14p : (verE t r y p) = 0 := dne h14
        apply aw_skip
        apply aw_seq
        refine awr [(4, .call [1, 2, 3] (.tup [.one (.i ((verR t r y p).1)), .one (.i ((verR t r y p).2.1)), .one (.i ((verR t r y p).2.2.1)), .one (.i ((verR t r y p).2.2.2))]) [])]
         ⟨181, [1, 2, 3], [(13, .i ((verR t r y p).1)), (14, .i ((verR t r y p).2.1)), (15, .i ((verR t r y p).2.2.1)), (16, .i ((verR t r y p).2.2.2)), (18, .i ((verR t r y p).1)), (19, .i ((verR t r y p).2.1)), (20, .i ((verR t r y p).2.2.1)), (21, .i ((verR t r y p).2.2.2))], []⟩
         [CallOK Try.prog 52 [(verifies_frA10 t), (verifies_frA11 r), .i y, .ls 3] [1, 2, 3] [some (verifies_frK2 t), some (verifies_frK3 r), some (.ro 1 p.length (LstL 2 eS p))] (.tup [.one (.i ((verR t r y p).1)), .one (.i ((verR t r y p).2.1)), .one (.i ((verR t r y p).2.2.1)), .one (.i ((verR t r y p).2.2.2))]) []] (al1 (cfr (refVerify_fr t r y (by first | omega | (simp; done) | assumption) (by first | omega | (simp; done) | assumption) p (by omega) (by assumption) (by assumption)) [(1, 1), (2, 2), (3, 3)] (dem_cons rfl (le_ro rfl el_rfl) (dem_cons rfl (le_ro rfl el_rfl) (dem_cons rfl (le_ro rfl el_rfl) dem_nil))))) ?_
        apply aw_seq
        have h19 : (decide ((verR t r y p).2.2.2 = (verR t r y p).2.2.2)) = true := by simp
        have h20 : (decide ((verR t r y p).1 = (verR t r y p).1)) = true := by simp
        have h21 : (decide ((verR t r y p).2.1 = (verR t r y p).2.1)) = true := by simp
        have h22 : (decide ((verR t r y p).2.2.1 = (verR t r y p).2.2.1)) = true := by simp
        refine awr [(3, .dec true), (8, .dec true), (13, .dec true), (18, .dec true), (19, .call [] (.b true) [])]
         ⟨181, [1, 2, 3], [(6, .b true)], []⟩
         [decide ((verR t r y p).2.2.2 = (verR t r y p).2.2.2) = true, decide ((verR t r y p).1 = (verR t r y p).1) = true, decide ((verR t r y p).2.1 = (verR t r y p).2.1) = true, decide ((verR t r y p).2.2.1 = (verR t r y p).2.2.1) = true, CallOK Try.prog 14 [] [] [] (.b true) []] (al2 h19 (al2 h20 (al2 h21 (al2 h22 (al1 (cfr (known_fr ) [] dem_nil)))))) ?_
        exact aw_ret ⟨.inr rfl, eok ⟨181, [1, 2, 3], [(6, .b true)], []⟩
            (enr [] ⟨rfl, trivial⟩ trivial) wr_nil⟩
end Go.Proofs.Ytbpblhmigijkaaa
