/- The reference: plans that are verified. -/
import Derived.Test.YtbpblhmigijkaaaTu
import Derived.Test.YtbpblhmigijkaaaTvf
namespace Go.Proofs.Ytbpblhmigijkaaa
open Go.RowKit
set_option linter.unusedVariables false
set_option linter.unusedSimpArgs false
def refVerify_frA1 (t : TreeV) : SV := .agg [.i t.year, .i t.glo, .i t.ghi, .i t.wlo, .i t.whi, .i t.health, .ls 1]
def refVerify_frA2 (r : RuleV) : SV := .agg [.i r.slo, .i r.shi, .i r.ulo, .i r.uhi, .i r.hlo, .i r.hhi, .i r.apart, .i r.blo, .i r.bhi, .ls 2, .i r.n0, .i r.n1, .i r.n2, .i r.n3, .i r.n4, .i r.opn]
def refVerify_frK3 (t : TreeV) : Cn := .ro 3 t.holes.length (Lst eH t.holes)
def refVerify_frK4 (r : RuleV) : Cn := .ro 2 r.sizes.length (Lst eZ r.sizes)
def refVerify_frH5 (t : TreeV) (r : RuleV) (p : List (List Spt)) : List (Nat × Option Cn) := [(1, some (refVerify_frK3 t)), (2, some (refVerify_frK4 r)), (3, some (.ro 1 p.length (LstL 2 eS p)))]
def refVerify_frK6 (t : TreeV) : Cn := .blk 26 [.i t.year, .i t.glo, .i t.ghi, .i t.wlo, .i t.whi, .i t.health, .ls 1]
def refVerify_frK7 (r : RuleV) : Cn := .blk 30 [.i r.slo, .i r.shi, .i r.ulo, .i r.uhi, .i r.hlo, .i r.hhi, .i r.apart, .i r.blo, .i r.bhi, .ls 2, .i r.n0, .i r.n1, .i r.n2, .i r.n3, .i r.n4, .i r.opn]
def refVerify_frH8 (t : TreeV) (r : RuleV) (p : List (List Spt)) : List (Nat × Option Cn) := [(1, some (refVerify_frK3 t)), (2, some (refVerify_frK4 r)), (3, some (.ro 1 p.length (LstL 2 eS p))), (1004, some (refVerify_frK6 t)), (1005, some (refVerify_frK7 r))]
def refVerify_frK9 (tt : TreeV) : Cn := .blk 26 [.i tt.year, .i tt.glo, .i tt.ghi, .i tt.wlo, .i tt.whi, .i tt.health, .ls 2001]
def refVerify_frK10 (tt : TreeV) : Cn := .ro 3 tt.holes.length (Lst eH tt.holes)
def refVerify_frH11 (r : RuleV) (p : List (List Spt)) (tt : TreeV) : List (Nat × Option Cn) := [(2, some (refVerify_frK4 r)), (3, some (.ro 1 p.length (LstL 2 eS p))), (1004, some (refVerify_frK9 tt)), (1005, some (refVerify_frK7 r)), (2001, some (refVerify_frK10 tt))]
def refVerify_frK12 (p : List (List Spt)) (i : Nat) : Cn := .ro 2 ((ix p i).length) (Lst eS (ix p i))
def refVerify_frA13 (tt : TreeV) : SV := .agg [.i tt.year, .i tt.glo, .i tt.ghi, .i tt.wlo, .i tt.whi, .i tt.health, .ls 2001]
def refVerify_frK14 (tt : TreeV) (y : Int) (i : Nat) (p : List (List Spt)) : Cn := .vec 74 3 (((drillV tt (y + ((i : Nat) : Int)) (ix p i)).holes).length) (Lst eH ((drillV tt (y + ((i : Nat) : Int)) (ix p i)).holes))
def refVerify_frK15 (tt : TreeV) (y : Int) (i : Nat) (p : List (List Spt)) : Cn := .blk 26 [.i ((drillV tt (y + ((i : Nat) : Int)) (ix p i)).year), .i ((drillV tt (y + ((i : Nat) : Int)) (ix p i)).glo), .i ((drillV tt (y + ((i : Nat) : Int)) (ix p i)).ghi), .i ((drillV tt (y + ((i : Nat) : Int)) (ix p i)).wlo), .i ((drillV tt (y + ((i : Nat) : Int)) (ix p i)).whi), .i ((drillV tt (y + ((i : Nat) : Int)) (ix p i)).health), .ls 10500]
def refVerify_frH16 (r : RuleV) (p : List (List Spt)) (tt : TreeV) (y : Int) (i : Nat) : List (Nat × Option Cn) := [(2, some (refVerify_frK4 r)), (3, some (.ro 1 p.length (LstL 2 eS p))), (1004, some (refVerify_frK9 tt)), (1005, some (refVerify_frK7 r)), (1015, some (refVerify_frK15 tt y i p)), (2001, some (refVerify_frK10 tt)), (10500, some (refVerify_frK14 tt y i p))]
def refVerify_frH17 (r : RuleV) (p : List (List Spt)) (tt : TreeV) (y : Int) (i : Nat) : List (Nat × Option Cn) := [(2, some (refVerify_frK4 r)), (3, some (.ro 1 p.length (LstL 2 eS p))), (1004, some (refVerify_frK15 tt y i p)), (1005, some (refVerify_frK7 r)), (10500, some (refVerify_frK14 tt y i p))]
def refVerify_frK18  : Cn := .blk 26 [.i 0, .i 0, .i 0, .i 0, .i 0, .i 0, .v (.slice none 0 0)]
def refVerify_frH19 (r : RuleV) (p : List (List Spt)) (tt : TreeV) : List (Nat × Option Cn) := [(2, some (refVerify_frK4 r)), (3, some (.ro 1 p.length (LstL 2 eS p))), (1004, some (refVerify_frK9 tt)), (1005, some (refVerify_frK7 r)), (1015, some refVerify_frK18), (2001, some (refVerify_frK10 tt))]
set_option maxHeartbeats 4000000 in
set_option maxRecDepth 100000 in
theorem refVerify_fr (t : TreeV) (r : RuleV) (y : Int) (ht : t.holes.length ≤ 1000000) (hr : r.sizes.length ≤ 1000000) (p : List (List Spt)) (hp : p.length ≤ 100) (hsh : shortP 1000 p) (hv : verE t r y p = 0) : CallFr Try.prog 52 [(refVerify_frA1 t), (refVerify_frA2 r), .i y, .ls 3] [1, 2, 3] [some (.ro 3 t.holes.length (Lst eH t.holes)), some (.ro 2 r.sizes.length (Lst eZ r.sizes)), some (.ro 1 p.length (LstL 2 eS p))] (.tup [.one (.i ((verR t r y p).1)), .one (.i ((verR t r y p).2.1)), .one (.i ((verR t r y p).2.2.1)), .one (.i ((verR t r y p).2.2.2))]) [] := by
 obtain ⟨hz0, hp40, hs20, hy1, hspp⟩ := verE_0 hv
 have hV := verR_0 hv
 have n60 := (startE_0.1 hz0).1.len
 have hk1 := (startE_0.1 hz0).1.year
 have hk3 := (startE_0.1 hz0).2.2
 refine callFr_of (fn := Try.f52) (by kernel_rfl) rfl (by kernel_rfl) (by kernel_rfl) fun E => ?_
 refine aw_ent (T := ⟨56, [1, 2, 3], [(0, (refVerify_frA1 t)), (1, (refVerify_frA2 r)), (2, .i y), (3, .ls 3)], (refVerify_frH5 t r p)⟩) (Ent.refl _) ?_
 apply aw_seq
 refine awr [(0, .new 1004), (1, .new 1005)]
  ⟨56, [1, 2, 3], [(2, .i y), (3, .ls 3), (4, .l (.ref 1004 0)), (5, .l (.ref 1005 0))], (refVerify_frH8 t r p)⟩
  [] trivial ?_
 apply aw_seq
 apply aw_seq
 refine awr []
  ⟨56, [1, 2, 3], [(2, .i y), (3, .ls 3), (4, .l (.ref 1004 0)), (5, .l (.ref 1005 0)), (12, .i 0)], (refVerify_frH8 t r p)⟩
  [] trivial ?_
 apply aw_block
 refine aw_loop (ι := Nat × TreeV) (fun zz => ⟨56, [1, 2, 3], [(2, .i y), (3, .ls 3), (4, .l (.ref 1004 0)), (5, .l (.ref 1005 0)), (12, .i ((zz.1 : Nat) : Int))], (refVerify_frH11 r p zz.2)⟩) (fun zz => (zz.1 ≤ p.length) ∧ (zz.1 < p.length → startE zz.2 r (y + ((zz.1 : Nat) : Int)) = 0) ∧ (zz.2.holes.length ≤ 60) ∧ (verL r y zz.2 zz.1 (p.drop zz.1) = verL r y t 0 p)) (fun zz => p.length - zz.1) (0, t) ⟨(by (try dsimp only); first | omega | rfl | assumption | (simp; done)), (by (try dsimp only); intro _; simpa using hz0), (by (try dsimp only); first | omega | rfl | assumption | (simp; done)), (by (try dsimp only); rfl)⟩
     (enr [(2001, 1)] ⟨rfl, rfl, rfl, rfl, rfl, trivial⟩ (cro rfl (cro rfl (cbl rfl rfl (cbl rfl rfl (cro rfl trivial)))))) fun zz hp => ?_
 obtain ⟨i, tt⟩ := zz
 obtain ⟨hiL, hst, hlt, hq⟩ := hp
 dsimp only at hiL hst hlt hq
 show AW _ E _ _ ⟨56, [1, 2, 3], [(2, .i y), (3, .ls 3), (4, .l (.ref 1004 0)), (5, .l (.ref 1005 0)), (12, .i ((i : Nat) : Int))], (refVerify_frH11 r p tt)⟩
 apply aw_seq
 apply aw_seq
 refine awr []
  ⟨56, [1, 2, 3], [(2, .i y), (3, .ls 3), (4, .l (.ref 1004 0)), (5, .l (.ref 1005 0)), (12, .i ((i : Nat) : Int)), (20, .b (decide (((i : Nat) : Int) < ((p.length : Nat) : Int))))], (refVerify_frH11 r p tt)⟩
  [] trivial ?_
 refine aw_cond (b := decide (((i : Nat) : Int) < ((p.length : Nat) : Int))) rfl (fun h1 => ?_) (fun h1 => ?_)
 ·
  have h1p : ((i : Nat) : Int) < ((p.length : Nat) : Int) := dtr h1
  apply aw_skip
  apply aw_seq
  apply aw_block
  apply aw_seq
  apply aw_seq
  have hst2 := hst (by omega)
  have hsl := hspp _ (ix_mem (l := p) (i := i) (by omega))
  have hsl3 := hs20 _ (ix_mem (l := p) (i := i) (by omega))
  refine awd [(7, .idx i), (8, .many [1032]), (9, .call [2001, 2, 1032] (.tup [.one (.i ((keepsV (openV tt r (y + ((i : Nat) : Int))) (ix p i)).at_)), .one (.i ((keepsV (openV tt r (y + ((i : Nat) : Int))) (ix p i)).rule))]) [])]
   ⟨56, [1, 2, 3], [(2, .i y), (3, .ls 3), (4, .l (.ref 1004 0)), (5, .l (.ref 1005 0)), (12, .i ((i : Nat) : Int)), (13, .i ((keepsV (openV tt r (y + ((i : Nat) : Int))) (ix p i)).at_)), (14, .i ((keepsV (openV tt r (y + ((i : Nat) : Int))) (ix p i)).rule))], (refVerify_frH11 r p tt)⟩
   [-9223372036854775808 ≤ (y + ((i : Nat) : Int)) ∧ (y + ((i : Nat) : Int)) < 9223372036854775808, ((i : Nat) : Int) = ((i : Nat) : Int), i < p.length, i < p.length, CallOK Try.prog 48 [(refVerify_frA13 tt), (refVerify_frA2 r), .i (y + ((i : Nat) : Int)), .ls 1032] [2001, 2, 1032] [some (refVerify_frK10 tt), some (refVerify_frK4 r), some (refVerify_frK12 p i)] (.tup [.one (.i ((keepsV (openV tt r (y + ((i : Nat) : Int))) (ix p i)).at_)), .one (.i ((keepsV (openV tt r (y + ((i : Nat) : Int))) (ix p i)).rule))]) []] (al2 (by omega) (al2 (by omega) (al2 (by omega) (al2 (by omega) (al1 (cfr (refKeeps_fr tt r (y + ((i : Nat) : Int)) (by first | omega | (simp; done) | assumption) (by first | omega | (simp; done) | assumption) (ix p i) (by assumption) (by assumption) (by omega)) [(1, 2001), (2, 2), (3, 1032)] (dem_cons rfl (le_ro rfl el_rfl) (dem_cons rfl (le_ro rfl el_rfl) (dem_cons rfl (le_ro rfl el_rfl) dem_nil))))))))) ?_
  apply aw_seq
  refine awr []
   ⟨56, [1, 2, 3], [(2, .i y), (3, .ls 3), (4, .l (.ref 1004 0)), (5, .l (.ref 1005 0)), (12, .i ((i : Nat) : Int)), (13, .i ((keepsV (openV tt r (y + ((i : Nat) : Int))) (ix p i)).at_)), (14, .i ((keepsV (openV tt r (y + ((i : Nat) : Int))) (ix p i)).rule)), (37, .b (decide (0 ≤ (keepsV (openV tt r (y + ((i : Nat) : Int))) (ix p i)).at_)))], (refVerify_frH11 r p tt)⟩
   [] trivial ?_
  refine aw_cond (b := decide (0 ≤ (keepsV (openV tt r (y + ((i : Nat) : Int))) (ix p i)).at_)) rfl (fun h2 => ?_) (fun h2 => ?_)
  ·
   have h2p : 0 ≤ (keepsV (openV tt r (y + ((i : Nat) : Int))) (ix p i)).at_ := dtr h2
   apply aw_seq
   have hnf : 0 ≤ (keepsV (openV tt r (y + ((i : Nat) : Int))) (ix p i)).at_ := by assumption
   have hVV : verL r y t 0 p = (((i : Nat) : Int), (keepsV (openV tt r (y + ((i : Nat) : Int))) (ix p i)).at_, (keepsV (openV tt r (y + ((i : Nat) : Int))) (ix p i)).rule, 0) := by rw [← hq, drop_ix (l := p) (i := i) (by omega)]; exact verL_f1 hnf
   refine awr []
    ⟨56, [1, 2, 3], [(8, .i ((i : Nat) : Int)), (9, .i ((keepsV (openV tt r (y + ((i : Nat) : Int))) (ix p i)).at_)), (10, .i ((keepsV (openV tt r (y + ((i : Nat) : Int))) (ix p i)).rule)), (11, .i 0)], []⟩
    [] trivial ?_
   exact aw_ret (ret_then (ret_block (ret_then (ret_then (ret_block (ret_then ⟨.inr rfl, eok ⟨56, [1, 2, 3], [(8, .i ((verR t r y p).1)), (9, .i ((verR t r y p).2.1)), (10, .i ((verR t r y p).2.2.1)), (11, .i ((verR t r y p).2.2.2))], []⟩
       (enr [] ⟨(slot_i rfl (by first | rfl | omega | assumption | (rw [hV, hVV]))), (slot_i rfl (by first | rfl | omega | assumption | (rw [hV, hVV]))), (slot_i rfl (by first | rfl | omega | assumption | (rw [hV, hVV]))), (slot_i rfl (by first | rfl | omega | assumption | (rw [hV, hVV]))), trivial⟩ trivial) wr_nil⟩))))))
  ·
   have h2p : (keepsV (openV tt r (y + ((i : Nat) : Int))) (ix p i)).at_ < 0 := dle h2
   apply aw_skip
   apply aw_seq
   rcases Bool.eq_false_or_eq_true (drillB tt (y + ((i : Nat) : Int)) (ix p i)) with h3 | h3
   ·
    have hnf : ¬ 0 ≤ (keepsV (openV tt r (y + ((i : Nat) : Int))) (ix p i)).at_ := by omega
    refine awd [(6, .idx i), (7, .many [1049]), (8, .call [2001, 1049] (.tup [.agg [.i ((drillV tt (y + ((i : Nat) : Int)) (ix p i)).year), .i ((drillV tt (y + ((i : Nat) : Int)) (ix p i)).glo), .i ((drillV tt (y + ((i : Nat) : Int)) (ix p i)).ghi), .i ((drillV tt (y + ((i : Nat) : Int)) (ix p i)).wlo), .i ((drillV tt (y + ((i : Nat) : Int)) (ix p i)).whi), .i ((drillV tt (y + ((i : Nat) : Int)) (ix p i)).health), .ls 10500], .one (.v (.bool true))]) [(10500, some (refVerify_frK14 tt y i p))]), (12, .new 1015)]
     ⟨56, [1, 2, 3], [(2, .i y), (3, .ls 3), (4, .l (.ref 1004 0)), (5, .l (.ref 1005 0)), (12, .i ((i : Nat) : Int)), (15, .l (.ref 1015 0)), (16, .b true)], (refVerify_frH16 r p tt y i)⟩
     [-9223372036854775808 ≤ (y + ((i : Nat) : Int)) ∧ (y + ((i : Nat) : Int)) < 9223372036854775808, ((i : Nat) : Int) = ((i : Nat) : Int), i < p.length, i < p.length, CallOK Try.prog 47 [(refVerify_frA13 tt), .i (y + ((i : Nat) : Int)), .ls 1049] [2001, 1049] [some (refVerify_frK10 tt), some (refVerify_frK12 p i)] (.tup [.agg [.i ((drillV tt (y + ((i : Nat) : Int)) (ix p i)).year), .i ((drillV tt (y + ((i : Nat) : Int)) (ix p i)).glo), .i ((drillV tt (y + ((i : Nat) : Int)) (ix p i)).ghi), .i ((drillV tt (y + ((i : Nat) : Int)) (ix p i)).wlo), .i ((drillV tt (y + ((i : Nat) : Int)) (ix p i)).whi), .i ((drillV tt (y + ((i : Nat) : Int)) (ix p i)).health), .ls 10500], .one (.v (.bool true))]) [(10500, some (refVerify_frK14 tt y i p))]] (al2 (by omega) (al2 (by omega) (al2 (by omega) (al2 (by omega) (al1 (cfr (refDrill_ok tt (y + ((i : Nat) : Int)) (ix p i) (by first | omega | (simp; done) | assumption) (by first | omega | (simp; done) | assumption) h3) [(1, 2001), (3, 1049), (9, 10500)] (dem_cons rfl (le_ro rfl el_rfl) (dem_cons rfl (le_ro rfl el_rfl) dem_nil)))))))) ?_
    apply aw_seq
    apply aw_seq
    refine awr []
     ⟨56, [1, 2, 3], [(2, .i y), (3, .ls 3), (4, .l (.ref 1004 0)), (5, .l (.ref 1005 0)), (12, .i ((i : Nat) : Int)), (15, .l (.ref 1015 0)), (54, .b false)], (refVerify_frH16 r p tt y i)⟩
     [] trivial ?_
    refine aw_false rfl ?_
    apply aw_skip
    refine awr []
     ⟨56, [1, 2, 3], [(2, .i y), (3, .ls 3), (4, .l (.ref 1004 0)), (5, .l (.ref 1005 0)), (12, .i ((i : Nat) : Int))], (refVerify_frH17 r p tt y i)⟩
     [] trivial ?_
    refine awr [(1, .num (((i + 1) : Nat) : Int))]
     ⟨56, [1, 2, 3], [(2, .i y), (3, .ls 3), (4, .l (.ref 1004 0)), (5, .l (.ref 1005 0)), (12, .i (((i + 1) : Nat) : Int))], (refVerify_frH17 r p tt y i)⟩
     [(((i : Nat) : Int) + 1) = (((i + 1) : Nat) : Int), -9223372036854775808 ≤ (((i + 1) : Nat) : Int) ∧ (((i + 1) : Nat) : Int) < 9223372036854775808] (al2 (by omega) (al1 (by omega))) ?_
    exact ⟨((i + 1), (drillV tt (y + ((i : Nat) : Int)) (ix p i))), ⟨(by (try dsimp only); first | omega | rfl | assumption | (simp; done)), (by (try dsimp only); intro h1; exact (by have q := drill_start hst2 hsl (by first | assumption | simpa using (by assumption : (!(drillB _ _ _)) = false)) (by omega); rw [show y + (((i + 1) : Nat) : Int) = y + ((i : Nat) : Int) + 1 by omega]; exact q)), (by (try dsimp only); exact drill_len (by first | assumption | simpa using (by assumption : (!(drillB _ _ _)) = false))), (by (try dsimp only); rw [← hq, drop_ix (l := p) (i := i) (by omega)]; exact (verL_f3 hnf (by first | assumption | simpa using (by assumption : (!(drillB _ _ _)) = false))).symm)⟩, (show p.length - (i + 1) < p.length - i by first | omega | rfl | assumption),
        (enr [(2001, 10500)] ⟨rfl, rfl, rfl, rfl, rfl, trivial⟩ (cro rfl (cro rfl (cbl rfl rfl (cbl rfl rfl (cvr rfl trivial))))))⟩
   ·
    have hnf : ¬ 0 ≤ (keepsV (openV tt r (y + ((i : Nat) : Int))) (ix p i)).at_ := by omega
    refine awd [(6, .idx i), (7, .many [1049]), (8, .call [2001, 1049] (.tup [.agg [.i 0, .i 0, .i 0, .i 0, .i 0, .i 0, .v (.slice none 0 0)], .one (.v (.bool false))]) []), (12, .new 1015)]
     ⟨56, [1, 2, 3], [(2, .i y), (3, .ls 3), (4, .l (.ref 1004 0)), (5, .l (.ref 1005 0)), (12, .i ((i : Nat) : Int)), (15, .l (.ref 1015 0)), (16, .b false)], (refVerify_frH19 r p tt)⟩
     [-9223372036854775808 ≤ (y + ((i : Nat) : Int)) ∧ (y + ((i : Nat) : Int)) < 9223372036854775808, ((i : Nat) : Int) = ((i : Nat) : Int), i < p.length, i < p.length, CallOK Try.prog 47 [(refVerify_frA13 tt), .i (y + ((i : Nat) : Int)), .ls 1049] [2001, 1049] [some (refVerify_frK10 tt), some (refVerify_frK12 p i)] (.tup [.agg [.i 0, .i 0, .i 0, .i 0, .i 0, .i 0, .v (.slice none 0 0)], .one (.v (.bool false))]) []] (al2 (by omega) (al2 (by omega) (al2 (by omega) (al2 (by omega) (al1 (cfr (refDrill_no tt (y + ((i : Nat) : Int)) (ix p i) (by first | omega | (simp; done) | assumption) (by first | omega | (simp; done) | assumption) h3) [(1, 2001), (3, 1049)] (dem_cons rfl (le_ro rfl el_rfl) (dem_cons rfl (le_ro rfl el_rfl) dem_nil)))))))) ?_
    apply aw_seq
    apply aw_seq
    refine awr []
     ⟨56, [1, 2, 3], [(2, .i y), (3, .ls 3), (4, .l (.ref 1004 0)), (5, .l (.ref 1005 0)), (12, .i ((i : Nat) : Int)), (15, .l (.ref 1015 0)), (54, .b true)], (refVerify_frH19 r p tt)⟩
     [] trivial ?_
    refine aw_true rfl ?_
    apply aw_seq
    have hVV : verL r y t 0 p = (0, 0, 0, 8) := by rw [← hq, drop_ix (l := p) (i := i) (by omega)]; exact verL_f2 hnf (by assumption)
    refine awr []
     ⟨56, [1, 2, 3], [(8, .i 0), (9, .i 0), (10, .i 0), (11, .i 8)], []⟩
     [] trivial ?_
    exact aw_ret (ret_then (ret_block (ret_then (ret_then (ret_block (ret_then ⟨.inr rfl, eok ⟨56, [1, 2, 3], [(8, .i ((verR t r y p).1)), (9, .i ((verR t r y p).2.1)), (10, .i ((verR t r y p).2.2.1)), (11, .i ((verR t r y p).2.2.2))], []⟩
        (enr [] ⟨(slot_i rfl (by first | rfl | omega | assumption | (rw [hV, hVV]))), (slot_i rfl (by first | rfl | omega | assumption | (rw [hV, hVV]))), (slot_i rfl (by first | rfl | omega | assumption | (rw [hV, hVV]))), (slot_i rfl (by first | rfl | omega | assumption | (rw [hV, hVV]))), trivial⟩ trivial) wr_nil⟩))))))
 ·
  have h1p : ((p.length : Nat) : Int) ≤ ((i : Nat) : Int) := dlt h1
  refine aw_exit (exit_then (exit_then (exit_in ?_)))
  apply aw_seq
  have hVV : verL r y t 0 p = (-1, 0, 0, 0) := by rw [← hq, List.drop_eq_nil_of_le (by omega)]; rfl
  refine awr []
   ⟨56, [1, 2, 3], [(8, .i (-1)), (9, .i 0), (10, .i 0), (11, .i 0)], []⟩
   [] trivial ?_
  exact aw_ret ⟨.inr rfl, eok ⟨56, [1, 2, 3], [(8, .i ((verR t r y p).1)), (9, .i ((verR t r y p).2.1)), (10, .i ((verR t r y p).2.2.1)), (11, .i ((verR t r y p).2.2.2))], []⟩
      (enr [] ⟨(slot_i rfl (by first | rfl | omega | assumption | (rw [hV, hVV]))), (slot_i rfl (by first | rfl | omega | assumption | (rw [hV, hVV]))), (slot_i rfl (by first | rfl | omega | assumption | (rw [hV, hVV]))), (slot_i rfl (by first | rfl | omega | assumption | (rw [hV, hVV]))), trivial⟩ trivial) wr_nil⟩
end Go.Proofs.Ytbpblhmigijkaaa
