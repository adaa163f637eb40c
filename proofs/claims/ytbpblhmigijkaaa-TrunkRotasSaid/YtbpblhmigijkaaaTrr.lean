/- The reference: rotas. -/
import Derived.Test.YtbpblhmigijkaaaTrm2
import Derived.Test.YtbpblhmigijkaaaTu
import Derived.Test.YtbpblhmigijkaaaTrq
import Derived.Test.YtbpblhmigijkaaaA31
import Derived.Test.YtbpblhmigijkaaaA33
namespace Go.Proofs.Ytbpblhmigijkaaa
open Go.RowKit
set_option linter.unusedVariables false
set_option linter.unusedSimpArgs false
def refRota_frA1 (t : TreeV) : SV := .agg [.i t.year, .i t.glo, .i t.ghi, .i t.wlo, .i t.whi, .i t.health, .ls 1]
def refRota_frA2 (r : RuleV) : SV := .agg [.i r.slo, .i r.shi, .i r.ulo, .i r.uhi, .i r.hlo, .i r.hhi, .i r.apart, .i r.blo, .i r.bhi, .ls 2, .i r.n0, .i r.n1, .i r.n2, .i r.n3, .i r.n4, .i r.opn]
def refRota_frK3 (t : TreeV) : Cn := .ro 3 t.holes.length (Lst eH t.holes)
def refRota_frK4 (r : RuleV) : Cn := .ro 2 r.sizes.length (Lst eZ r.sizes)
def refRota_frH5 (t : TreeV) (r : RuleV) (hs : List Int) : List (Nat × Option Cn) := [(1, some (refRota_frK3 t)), (2, some (refRota_frK4 r)), (3, some (.ro 1 hs.length (Lst eI hs)))]
def refRota_frK6 (t : TreeV) : Cn := .blk 26 [.i t.year, .i t.glo, .i t.ghi, .i t.wlo, .i t.whi, .i t.health, .ls 1]
def refRota_frK7 (r : RuleV) : Cn := .blk 30 [.i r.slo, .i r.shi, .i r.ulo, .i r.uhi, .i r.hlo, .i r.hhi, .i r.apart, .i r.blo, .i r.bhi, .ls 2, .i r.n0, .i r.n1, .i r.n2, .i r.n3, .i r.n4, .i r.opn]
def refRota_frH8 (t : TreeV) (r : RuleV) (hs : List Int) : List (Nat × Option Cn) := [(1, some (refRota_frK3 t)), (2, some (refRota_frK4 r)), (3, some (.ro 1 hs.length (Lst eI hs))), (1006, some (refRota_frK6 t)), (1007, some (refRota_frK7 r))]
def refRota_frH9 (t : TreeV) (r : RuleV) (hs : List Int) : List (Nat × Option Cn) := [(1, some (refRota_frK3 t)), (2, some (refRota_frK4 r)), (3, some (.ro 1 hs.length (Lst eI hs))), (1006, some (refRota_frK6 t)), (1007, some (refRota_frK7 r)), (1025, some (.vec 57 1 0 (exEl 1 [])))]
def refRota_frK10 (tt : TreeV) : Cn := .blk 26 [.i tt.year, .i tt.glo, .i tt.ghi, .i tt.wlo, .i tt.whi, .i tt.health, .ls 2001]
def refRota_frK11 (tt : TreeV) : Cn := .ro 3 tt.holes.length (Lst eH tt.holes)
def refRota_frK12 (pl : List (List Spt)) : Cn := .vec 57 1 pl.length (LstL 2 eS pl)
def refRota_frH13 (r : RuleV) (hs : List Int) (tt : TreeV) (pl : List (List Spt)) : List (Nat × Option Cn) := [(2, some (refRota_frK4 r)), (3, some (.ro 1 hs.length (Lst eI hs))), (1006, some (refRota_frK10 tt)), (1007, some (refRota_frK7 r)), (2001, some (refRota_frK11 tt)), (2005, some (refRota_frK12 pl))]
def refRota_frK14 (p2 : List (List Spt)) : Cn := .vec 57 1 p2.length (LstL 2 eS p2)
def refRota_frH15 (r : RuleV) (hs : List Int) (tt : TreeV) (p2 : List (List Spt)) : List (Nat × Option Cn) := [(2, some (refRota_frK4 r)), (3, some (.ro 1 hs.length (Lst eI hs))), (1006, some (refRota_frK10 tt)), (1007, some (refRota_frK7 r)), (2001, some (refRota_frK11 tt)), (2006, some (refRota_frK14 p2))]
def refRota_frK16 (tt : TreeV) (r : RuleV) (y : Int) (i : Nat) (hs : List Int) (k : Nat) (m : Int) : Cn := .vec 72 2 ((spotsL (openV tt r (y + (i : Int))) (ix hs k) m).length) (Lst eS (spotsL (openV tt r (y + (i : Int))) (ix hs k) m))
def refRota_frA17 (tt : TreeV) : SV := .agg [.i tt.year, .i tt.glo, .i tt.ghi, .i tt.wlo, .i tt.whi, .i tt.health, .ls 2001]
def refRota_frH18 (r : RuleV) (hs : List Int) (tt : TreeV) (p2 : List (List Spt)) (y : Int) (i : Nat) (k : Nat) (m : Int) : List (Nat × Option Cn) := [(2, some (refRota_frK4 r)), (3, some (.ro 1 hs.length (Lst eI hs))), (1006, some (refRota_frK10 tt)), (1007, some (refRota_frK7 r)), (2001, some (refRota_frK11 tt)), (2006, some (refRota_frK14 p2)), (10520, some (refRota_frK16 tt r y i hs k m))]
def refRota_frK19 (tt : TreeV) (r : RuleV) (y : Int) (i : Nat) (hs : List Int) (k : Nat) (m : Int) : Cn := .vec 57 1 1 (LstL 2 eS ([(spotsL (openV tt r (y + (i : Int))) (ix hs k) m)]))
def refRota_frK20 (p2 : List (List Spt)) (tt : TreeV) (r : RuleV) (y : Int) (i : Nat) (hs : List Int) (k : Nat) (m : Int) : Cn := .vec 57 1 (p2.length + 1) (LstL 2 eS (p2 ++ ([(spotsL (openV tt r (y + (i : Int))) (ix hs k) m)])))
def refRota_frH21 (r : RuleV) (hs : List Int) (tt : TreeV) (p2 : List (List Spt)) (y : Int) (i : Nat) (k : Nat) (m : Int) : List (Nat × Option Cn) := [(2, some (refRota_frK4 r)), (3, some (.ro 1 hs.length (Lst eI hs))), (1006, some (refRota_frK10 tt)), (1007, some (refRota_frK7 r)), (1072, some (refRota_frK20 p2 tt r y i hs k m)), (2001, some (refRota_frK11 tt))]
def refRota_frK22 (pl : List (List Spt)) (tt : TreeV) (r : RuleV) (y : Int) (i : Nat) (m : Int) (hs : List Int) : Cn := .vec 57 1 ((pl ++ [(foundL (openV tt r (y + (i : Int))) m hs)]).length) (LstL 2 eS (pl ++ [(foundL (openV tt r (y + (i : Int))) m hs)]))
def refRota_frH23 (r : RuleV) (hs : List Int) (tt : TreeV) (pl : List (List Spt)) (y : Int) (i : Nat) (m : Int) : List (Nat × Option Cn) := [(2, some (refRota_frK4 r)), (3, some (.ro 1 hs.length (Lst eI hs))), (1006, some (refRota_frK10 tt)), (1007, some (refRota_frK7 r)), (2001, some (refRota_frK11 tt)), (2006, some (refRota_frK22 pl tt r y i m hs))]
def refRota_frK24 (tt : TreeV) (y : Int) (i : Nat) (pl : List (List Spt)) (r : RuleV) (m : Int) (hs : List Int) : Cn := .vec 74 3 (((drillV tt (y + (i : Int)) (ix (pl ++ [(foundL (openV tt r (y + (i : Int))) m hs)]) i)).holes).length) (Lst eH ((drillV tt (y + (i : Int)) (ix (pl ++ [(foundL (openV tt r (y + (i : Int))) m hs)]) i)).holes))
def refRota_frK25 (pl : List (List Spt)) (tt : TreeV) (r : RuleV) (y : Int) (i : Nat) (m : Int) (hs : List Int) : Cn := .ro 2 ((ix (pl ++ [(foundL (openV tt r (y + (i : Int))) m hs)]) i).length) (Lst eS (ix (pl ++ [(foundL (openV tt r (y + (i : Int))) m hs)]) i))
def refRota_frK26 (tt : TreeV) (y : Int) (i : Nat) (pl : List (List Spt)) (r : RuleV) (m : Int) (hs : List Int) : Cn := .blk 26 [.i ((drillV tt (y + (i : Int)) (ix (pl ++ [(foundL (openV tt r (y + (i : Int))) m hs)]) i)).year), .i ((drillV tt (y + (i : Int)) (ix (pl ++ [(foundL (openV tt r (y + (i : Int))) m hs)]) i)).glo), .i ((drillV tt (y + (i : Int)) (ix (pl ++ [(foundL (openV tt r (y + (i : Int))) m hs)]) i)).ghi), .i ((drillV tt (y + (i : Int)) (ix (pl ++ [(foundL (openV tt r (y + (i : Int))) m hs)]) i)).wlo), .i ((drillV tt (y + (i : Int)) (ix (pl ++ [(foundL (openV tt r (y + (i : Int))) m hs)]) i)).whi), .i ((drillV tt (y + (i : Int)) (ix (pl ++ [(foundL (openV tt r (y + (i : Int))) m hs)]) i)).health), .ls 10850]
def refRota_frH27 (r : RuleV) (hs : List Int) (tt : TreeV) (y : Int) (i : Nat) (pl : List (List Spt)) (m : Int) : List (Nat × Option Cn) := [(2, some (refRota_frK4 r)), (3, some (.ro 1 hs.length (Lst eI hs))), (1006, some (refRota_frK10 tt)), (1007, some (refRota_frK7 r)), (1023, some (refRota_frK26 tt y i pl r m hs)), (2001, some (refRota_frK11 tt)), (2006, some (refRota_frK22 pl tt r y i m hs)), (10850, some (refRota_frK24 tt y i pl r m hs))]
def refRota_frH28 (r : RuleV) (hs : List Int) (tt : TreeV) (y : Int) (i : Nat) (pl : List (List Spt)) (m : Int) : List (Nat × Option Cn) := [(2, some (refRota_frK4 r)), (3, some (.ro 1 hs.length (Lst eI hs))), (1006, some (refRota_frK26 tt y i pl r m hs)), (1007, some (refRota_frK7 r)), (2006, some (refRota_frK22 pl tt r y i m hs)), (10850, some (refRota_frK24 tt y i pl r m hs))]
def refRota_frK29  : Cn := .blk 26 [.i 0, .i 0, .i 0, .i 0, .i 0, .i 0, .v (.slice none 0 0)]
def refRota_frH30 (r : RuleV) (hs : List Int) (tt : TreeV) (pl : List (List Spt)) (y : Int) (i : Nat) (m : Int) : List (Nat × Option Cn) := [(2, some (refRota_frK4 r)), (3, some (.ro 1 hs.length (Lst eI hs))), (1006, some (refRota_frK10 tt)), (1007, some (refRota_frK7 r)), (1023, some refRota_frK29), (2001, some (refRota_frK11 tt)), (2006, some (refRota_frK22 pl tt r y i m hs))]
def refRota_frK31 (t : TreeV) (r : RuleV) (y : Int) (m : Int) (hs : List Int) (ys : Int) : Cn := .vec 57 1 (((rotR t r y m hs ys).1).length) (LstL 2 eS ((rotR t r y m hs ys).1))
set_option maxHeartbeats 8000000 in
set_option maxRecDepth 100000 in
theorem refRota_fr (t : TreeV) (r : RuleV) (y : Int) (ht : t.holes.length ≤ 1000000) (hr : r.sizes.length ≤ 1000000) (m : Int) (hs : List Int) (ys : Int) (hl : hs.length ≤ 1000000) (hE0 : rotE t r y m hs ys = 0) : CallOK Try.prog 50 [(refRota_frA1 t), (refRota_frA2 r), .i y, .i m, .ls 3, .i ys] [1, 2, 3] [some (.ro 3 t.holes.length (Lst eH t.holes)), some (.ro 2 r.sizes.length (Lst eZ r.sizes)), some (.ro 1 hs.length (Lst eI hs))] (.tup [.one (.ls 9), .one (.i ((rotR t r y m hs ys).2.1)), .one (.i ((rotR t r y m hs ys).2.2))]) [(9, some (.vec 57 1 (((rotR t r y m hs ys).1).length) (LstL 2 eS ((rotR t r y m hs ys).1))))] := by
 obtain ⟨hz0, hl20, hhB, hm20, hys, hy1⟩ := rotE_0 hE0
 have hV := rotR_0 (m := m) (hs := hs) (ys := ys) hE0
 have n60 := (startE_0.1 hz0).1.len
 have hk1 := (startE_0.1 hz0).1.year
 have hk3 := (startE_0.1 hz0).2.2
 refine callFs_of (fn := Try.f50) (by kernel_rfl) rfl (by kernel_rfl) (by kernel_rfl) fun E => ?_
 refine aw_ent (T := ⟨93, [1, 2, 3], [(0, (refRota_frA1 t)), (1, (refRota_frA2 r)), (2, .i y), (3, .i m), (4, .ls 3), (5, .i ys)], (refRota_frH5 t r hs)⟩) (Ent.refl _) ?_
 apply aw_seq
 refine awr [(0, .new 1006), (1, .new 1007)]
  ⟨93, [1, 2, 3], [(2, .i y), (3, .i m), (4, .ls 3), (5, .i ys), (6, .l (.ref 1006 0)), (7, .l (.ref 1007 0))], (refRota_frH8 t r hs)⟩
  [] trivial ?_
 apply aw_seq
 refine awr [(0, .new 1025)]
  ⟨93, [1, 2, 3], [(2, .i y), (3, .i m), (4, .ls 3), (5, .i ys), (6, .l (.ref 1006 0)), (7, .l (.ref 1007 0)), (15, .ls 1025)], (refRota_frH9 t r hs)⟩
  [] trivial ?_
 apply aw_seq
 apply aw_seq
 refine awr []
  ⟨93, [1, 2, 3], [(2, .i y), (3, .i m), (4, .ls 3), (5, .i ys), (6, .l (.ref 1006 0)), (7, .l (.ref 1007 0)), (15, .ls 1025), (16, .i 0)], (refRota_frH9 t r hs)⟩
  [] trivial ?_
 apply aw_block
 refine aw_loop (ι := Nat × TreeV × List (List Spt)) (fun zz => ⟨93, [1, 2, 3], [(2, .i y), (3, .i m), (4, .ls 3), (5, .i ys), (6, .l (.ref 1006 0)), (7, .l (.ref 1007 0)), (15, .ls 2005), (16, .i (zz.1 : Int))], (refRota_frH13 r hs zz.2.1 zz.2.2)⟩) (fun zz => (zz.1 ≤ ys.toNat) ∧ (zz.1 < ys.toNat → startE zz.2.1 r (y + (zz.1 : Int)) = 0) ∧ (zz.2.1.holes.length ≤ 60) ∧ (zz.2.2.length = zz.1) ∧ (rotL r m hs y (ys.toNat - zz.1) zz.2.1 zz.1 zz.2.2 = rotL r m hs y ys.toNat t 0 [])) (fun zz => ys.toNat - zz.1) (0, t, []) ⟨(by (try dsimp only); first | omega | rfl | assumption | (simp; done)), (by (try dsimp only); intro _; simpa using hz0), (by (try dsimp only); first | omega | rfl | assumption | (simp; done)), (by (try dsimp only); rfl), (by (try dsimp only); rfl)⟩
     (enr [(2005, 1025), (2001, 1)] ⟨rfl, rfl, rfl, rfl, rfl, rfl, rfl, rfl, trivial⟩ (cro rfl (cro rfl (cbl rfl rfl (cbl rfl rfl (cro rfl (conts_cons rfl (le_vec (by first | rfl | omega | assumption | (rfl) | (rw [hV, hVV] <;> rfl)) (fun i hi => absurd hi (by omega))) trivial))))))) fun zz hp => ?_
 obtain ⟨i, tt, pl⟩ := zz
 obtain ⟨hiL, hst, hlt, hpl, hq⟩ := hp
 dsimp only at hiL hst hlt hpl hq
 show AW _ E _ _ ⟨93, [1, 2, 3], [(2, .i y), (3, .i m), (4, .ls 3), (5, .i ys), (6, .l (.ref 1006 0)), (7, .l (.ref 1007 0)), (15, .ls 2005), (16, .i (i : Int))], (refRota_frH13 r hs tt pl)⟩
 apply aw_seq
 apply aw_seq
 refine awr []
  ⟨93, [1, 2, 3], [(2, .i y), (3, .i m), (4, .ls 3), (5, .i ys), (6, .l (.ref 1006 0)), (7, .l (.ref 1007 0)), (15, .ls 2005), (16, .i (i : Int)), (28, .b (decide ((i : Int) < ys)))], (refRota_frH13 r hs tt pl)⟩
  [] trivial ?_
 refine aw_cond (b := decide ((i : Int) < ys)) rfl (fun h1 => ?_) (fun h1 => ?_)
 ·
  have h1p : (i : Int) < ys := dtr h1
  apply aw_skip
  apply aw_seq
  apply aw_block
  apply aw_seq
  have hst2 := hst (by omega)
  have hxo := open_ok hst2
  have hy3 := (startE_0.1 hst2).2.2
  refine awr []
   ⟨93, [1, 2, 3], [(2, .i y), (3, .i m), (4, .ls 3), (5, .i ys), (6, .l (.ref 1006 0)), (7, .l (.ref 1007 0)), (15, .ls 2005), (16, .i (i : Int)), (17, .b false)], (refRota_frH13 r hs tt pl)⟩
   [] trivial ?_
  apply aw_seq
  apply aw_seq
  refine awr []
   ⟨93, [1, 2, 3], [(2, .i y), (3, .i m), (4, .ls 3), (5, .i ys), (6, .l (.ref 1006 0)), (7, .l (.ref 1007 0)), (15, .ls 2005), (16, .i (i : Int)), (17, .b false), (18, .i 0)], (refRota_frH13 r hs tt pl)⟩
   [] trivial ?_
  apply aw_block
  refine aw_loop (ι := Nat × Bool × List (List Spt)) (fun zz => ⟨93, [1, 2, 3], [(2, .i y), (3, .i m), (4, .ls 3), (5, .i ys), (6, .l (.ref 1006 0)), (7, .l (.ref 1007 0)), (15, .ls 2006), (16, .i (i : Int)), (17, .b zz.2.1), (18, .i (zz.1 : Int))], (refRota_frH15 r hs tt zz.2.2)⟩) (fun zz => (zz.1 ≤ hs.length) ∧ (Srch (openV tt r (y + (i : Int))) m hs pl zz.1 zz.2.1 zz.2.2)) (fun zz => hs.length - zz.1) (0, false, pl) ⟨(by (try dsimp only); first | omega | rfl | assumption | (simp; done)), (by (try dsimp only); exact srch_0)⟩
      (enr [(2006, 2005)] ⟨rfl, rfl, rfl, rfl, rfl, rfl, rfl, rfl, rfl, rfl, trivial⟩ (cro rfl (cro rfl (cbl rfl rfl (cbl rfl rfl (cro rfl (cve rfl trivial))))))) fun zz hp => ?_
  obtain ⟨k, b, p2⟩ := zz
  obtain ⟨hkL, hS⟩ := hp
  dsimp only at hkL hS
  show AW _ E _ _ ⟨93, [1, 2, 3], [(2, .i y), (3, .i m), (4, .ls 3), (5, .i ys), (6, .l (.ref 1006 0)), (7, .l (.ref 1007 0)), (15, .ls 2006), (16, .i (i : Int)), (17, .b b), (18, .i (k : Int))], (refRota_frH15 r hs tt p2)⟩
  apply aw_seq
  apply aw_seq
  rcases Bool.eq_false_or_eq_true (decide ((k : Int) < (hs.length : Int))) with h2 | h2
  ·
   have h2p : (k : Int) < (hs.length : Int) := dtr h2
   refine awr [(4, .dec true)]
    ⟨93, [1, 2, 3], [(2, .i y), (3, .i m), (4, .ls 3), (5, .i ys), (6, .l (.ref 1006 0)), (7, .l (.ref 1007 0)), (15, .ls 2006), (16, .i (i : Int)), (17, .b b), (18, .i (k : Int)), (38, .b (!b))], (refRota_frH15 r hs tt p2)⟩
    [decide ((k : Int) < (hs.length : Int)) = true] (al1 h2) ?_
   refine aw_cond (b := (!b)) rfl (fun h3 => ?_) (fun h3 => ?_)
   ·
    apply aw_skip
    apply aw_seq
    apply aw_block
    apply aw_seq
    have hp2l := srch_len hS
    have hkB := hhB _ (ix_mem (l := hs) (i := k) (by omega))
    have hsB := spotsB_iff.2 (spotsL_B hxo hm20.1 hkB)
    have hsl := spotsL_len (e := (ix hs k)) hxo hm20.1
    refine awd [(7, .idx k), (10, .call [2001, 2] (.tup [.one (.ls 10520), .one (.v (.bool ((anglesO (nextV (openV tt r (y + (i : Int))) (ix hs k)) (gapV (openV tt r (y + (i : Int)))) m).isSome)))]) [(10520, some (refRota_frK16 tt r y i hs k m))])]
     ⟨93, [1, 2, 3], [(2, .i y), (3, .i m), (4, .ls 3), (5, .i ys), (6, .l (.ref 1006 0)), (7, .l (.ref 1007 0)), (15, .ls 2006), (16, .i (i : Int)), (17, .b b), (18, .i (k : Int)), (19, .ls 10520), (20, .b ((anglesO (nextV (openV tt r (y + (i : Int))) (ix hs k)) (gapV (openV tt r (y + (i : Int)))) m).isSome))], (refRota_frH18 r hs tt p2 y i k m)⟩
     [-9223372036854775808 ≤ (y + (i : Int)) ∧ (y + (i : Int)) < 9223372036854775808, (k : Int) = (k : Int), k < hs.length, k < hs.length, CallOK Try.prog 34 [(refRota_frA17 tt), (refRota_frA2 r), .i (y + (i : Int)), .i (ix hs k), .i m] [2001, 2] [some (refRota_frK11 tt), some (refRota_frK4 r)] (.tup [.one (.ls 10520), .one (.v (.bool ((anglesO (nextV (openV tt r (y + (i : Int))) (ix hs k)) (gapV (openV tt r (y + (i : Int)))) m).isSome)))]) [(10520, some (refRota_frK16 tt r y i hs k m))]] (al2 (by omega) (al2 (by omega) (al2 (by omega) (al2 (by omega) (al1 (cfr (refRow_fr tt r (y + (i : Int)) (by first | omega | (simp; done) | assumption) (by first | omega | (simp; done) | assumption) (ix hs k) m (by assumption) (by omega) (by omega)) [(1, 2001), (2, 2), (9, 10520)] (dem_cons rfl (le_ro rfl el_rfl) (dem_cons rfl (le_ro rfl el_rfl) dem_nil)))))))) ?_
    apply aw_seq
    apply aw_seq
    refine awr []
     ⟨93, [1, 2, 3], [(2, .i y), (3, .i m), (4, .ls 3), (5, .i ys), (6, .l (.ref 1006 0)), (7, .l (.ref 1007 0)), (15, .ls 2006), (16, .i (i : Int)), (17, .b b), (18, .i (k : Int)), (19, .ls 10520), (56, .b (!((anglesO (nextV (openV tt r (y + (i : Int))) (ix hs k)) (gapV (openV tt r (y + (i : Int)))) m).isSome)))], (refRota_frH18 r hs tt p2 y i k m)⟩
     [] trivial ?_
    refine aw_cond (b := (!((anglesO (nextV (openV tt r (y + (i : Int))) (ix hs k)) (gapV (openV tt r (y + (i : Int)))) m).isSome))) rfl (fun h4 => ?_) (fun h4 => ?_)
    ·
     refine aw_exit (exit_then (exit_in ?_))
     refine awr [(1, .num (((k + 1) : Nat) : Int))]
      ⟨93, [1, 2, 3], [(2, .i y), (3, .i m), (4, .ls 3), (5, .i ys), (6, .l (.ref 1006 0)), (7, .l (.ref 1007 0)), (15, .ls 2006), (16, .i (i : Int)), (17, .b b), (18, .i (((k + 1) : Nat) : Int))], (refRota_frH15 r hs tt p2)⟩
      [((k : Int) + 1) = (((k + 1) : Nat) : Int), -9223372036854775808 ≤ (((k + 1) : Nat) : Int) ∧ (((k + 1) : Nat) : Int) < 9223372036854775808] (al2 (by omega) (al1 (by omega))) ?_
     exact ⟨((k + 1), b, p2), ⟨(by (try dsimp only); first | omega | rfl | assumption | (simp; done)), (by (try dsimp only); first | exact srch_no hS (by assumption) (rotB_no1 (by assumption)) | exact srch_no hS (by assumption) (rotB_no2 (by omega)) | exact srch_yes hS (by assumption) (by omega) (rotB_yes (by assumption) (by omega)))⟩, (show hs.length - (k + 1) < hs.length - k by first | omega | rfl | assumption),
         (enr [] ⟨rfl, rfl, rfl, rfl, rfl, rfl, rfl, rfl, rfl, rfl, trivial⟩ (cro rfl (cro rfl (cbl rfl rfl (cbl rfl rfl (cro rfl (cve rfl trivial)))))))⟩
    ·
     apply aw_skip
     apply aw_seq
     apply aw_seq
     refine awr [(6, .call [2001, 2, 10520] (.tup [.one (.i ((keepsV (openV tt r (y + (i : Int))) (spotsL (openV tt r (y + (i : Int))) (ix hs k) m)).at_)), .one (.i ((keepsV (openV tt r (y + (i : Int))) (spotsL (openV tt r (y + (i : Int))) (ix hs k) m)).rule))]) [])]
      ⟨93, [1, 2, 3], [(2, .i y), (3, .i m), (4, .ls 3), (5, .i ys), (6, .l (.ref 1006 0)), (7, .l (.ref 1007 0)), (15, .ls 2006), (16, .i (i : Int)), (17, .b b), (18, .i (k : Int)), (19, .ls 10520), (21, .i ((keepsV (openV tt r (y + (i : Int))) (spotsL (openV tt r (y + (i : Int))) (ix hs k) m)).at_))], (refRota_frH18 r hs tt p2 y i k m)⟩
      [-9223372036854775808 ≤ (y + (i : Int)) ∧ (y + (i : Int)) < 9223372036854775808, CallOK Try.prog 48 [(refRota_frA17 tt), (refRota_frA2 r), .i (y + (i : Int)), .ls 10520] [2001, 2, 10520] [some (refRota_frK11 tt), some (refRota_frK4 r), some (refRota_frK16 tt r y i hs k m)] (.tup [.one (.i ((keepsV (openV tt r (y + (i : Int))) (spotsL (openV tt r (y + (i : Int))) (ix hs k) m)).at_)), .one (.i ((keepsV (openV tt r (y + (i : Int))) (spotsL (openV tt r (y + (i : Int))) (ix hs k) m)).rule))]) []] (al2 (by omega) (al1 (cfr (refKeeps_fr tt r (y + (i : Int)) (by first | omega | (simp; done) | assumption) (by first | omega | (simp; done) | assumption) (spotsL (openV tt r (y + (i : Int))) (ix hs k) m) (by assumption) (by assumption) (by omega)) [(1, 2001), (2, 2), (3, 10520)] (dem_cons rfl (le_ro rfl el_rfl) (dem_cons rfl (le_ro rfl el_rfl) (dem_cons rfl (le_vec_ro rfl el_rfl) dem_nil)))))) ?_
     apply aw_seq
     refine awr []
      ⟨93, [1, 2, 3], [(2, .i y), (3, .i m), (4, .ls 3), (5, .i ys), (6, .l (.ref 1006 0)), (7, .l (.ref 1007 0)), (15, .ls 2006), (16, .i (i : Int)), (17, .b b), (18, .i (k : Int)), (19, .ls 10520), (68, .b (decide (0 ≤ (keepsV (openV tt r (y + (i : Int))) (spotsL (openV tt r (y + (i : Int))) (ix hs k) m)).at_)))], (refRota_frH18 r hs tt p2 y i k m)⟩
      [] trivial ?_
     refine aw_cond (b := decide (0 ≤ (keepsV (openV tt r (y + (i : Int))) (spotsL (openV tt r (y + (i : Int))) (ix hs k) m)).at_)) rfl (fun h5 => ?_) (fun h5 => ?_)
     ·
      have h5p : 0 ≤ (keepsV (openV tt r (y + (i : Int))) (spotsL (openV tt r (y + (i : Int))) (ix hs k) m)).at_ := dtr h5
      refine aw_exit (exit_then (exit_in ?_))
      refine awr [(1, .num (((k + 1) : Nat) : Int))]
       ⟨93, [1, 2, 3], [(2, .i y), (3, .i m), (4, .ls 3), (5, .i ys), (6, .l (.ref 1006 0)), (7, .l (.ref 1007 0)), (15, .ls 2006), (16, .i (i : Int)), (17, .b b), (18, .i (((k + 1) : Nat) : Int))], (refRota_frH15 r hs tt p2)⟩
       [((k : Int) + 1) = (((k + 1) : Nat) : Int), -9223372036854775808 ≤ (((k + 1) : Nat) : Int) ∧ (((k + 1) : Nat) : Int) < 9223372036854775808] (al2 (by omega) (al1 (by omega))) ?_
      exact ⟨((k + 1), b, p2), ⟨(by (try dsimp only); first | omega | rfl | assumption | (simp; done)), (by (try dsimp only); first | exact srch_no hS (by assumption) (rotB_no1 (by assumption)) | exact srch_no hS (by assumption) (rotB_no2 (by omega)) | exact srch_yes hS (by assumption) (by omega) (rotB_yes (by assumption) (by omega)))⟩, (show hs.length - (k + 1) < hs.length - k by first | omega | rfl | assumption),
          (enr [] ⟨rfl, rfl, rfl, rfl, rfl, rfl, rfl, rfl, rfl, rfl, trivial⟩ (cro rfl (cro rfl (cbl rfl rfl (cbl rfl rfl (cro rfl (cve rfl trivial)))))))⟩
     ·
      have h5p : (keepsV (openV tt r (y + (i : Int))) (spotsL (openV tt r (y + (i : Int))) (ix hs k) m)).at_ < 0 := dle h5
      apply aw_skip
      apply aw_seq
      refine awr []
       ⟨93, [1, 2, 3], [(2, .i y), (3, .i m), (4, .ls 3), (5, .i ys), (6, .l (.ref 1006 0)), (7, .l (.ref 1007 0)), (15, .ls 2006), (16, .i (i : Int)), (17, .b true), (18, .i (k : Int)), (19, .ls 10520)], (refRota_frH18 r hs tt p2 y i k m)⟩
       [] trivial ?_
      refine awr [(2, .act [10520] (.ls 1071) [(10520, none), (1071, some (refRota_frK19 tt r y i hs k m))]), (3, .lst 1072 (p2.length + 1) (LstL 2 eS (p2 ++ ([(spotsL (openV tt r (y + (i : Int))) (ix hs k) m)]))))]
       ⟨93, [1, 2, 3], [(2, .i y), (3, .i m), (4, .ls 3), (5, .i ys), (6, .l (.ref 1006 0)), (7, .l (.ref 1007 0)), (15, .ls 1072), (16, .i (i : Int)), (17, .b true), (18, .i (k : Int))], (refRota_frH21 r hs tt p2 y i k m)⟩
       [ActOK Try.prog (.buildSlice 102 1 #[(0, (.tmp 70))]) 102 [.ls 10520] [10520] [some (refRota_frK16 tt r y i hs k m)] (.ls 1071) [(10520, none), (1071, some (refRota_frK19 tt r y i hs k m))], p2.length + 1 ≤ 1000000000000, (p2.length + 1) * 24 ≤ 140737488355328, AppOk 1 p2.length 1 (LstL 2 eS p2) (LstL 2 eS ([(spotsL (openV tt r (y + (i : Int))) (ix hs k) m)])) (p2.length + 1) (LstL 2 eS (p2 ++ ([(spotsL (openV tt r (y + (i : Int))) (ix hs k) m)])))] (al2 (act_oneV (by kernel_rfl) (by kernel_rfl) (fun _ => rfl) rfl (by first | rfl | omega) rfl) (al2 (by omega) (al2 (by omega) (al1 (app_listL (by first | omega | rfl | assumption) (by first | omega | rfl | assumption)))))) ?_
      refine awr [(1, .num (((k + 1) : Nat) : Int))]
       ⟨93, [1, 2, 3], [(2, .i y), (3, .i m), (4, .ls 3), (5, .i ys), (6, .l (.ref 1006 0)), (7, .l (.ref 1007 0)), (15, .ls 1072), (16, .i (i : Int)), (17, .b true), (18, .i (((k + 1) : Nat) : Int))], (refRota_frH21 r hs tt p2 y i k m)⟩
       [((k : Int) + 1) = (((k + 1) : Nat) : Int), -9223372036854775808 ≤ (((k + 1) : Nat) : Int) ∧ (((k + 1) : Nat) : Int) < 9223372036854775808] (al2 (by omega) (al1 (by omega))) ?_
      exact ⟨((k + 1), true, (p2 ++ ([(spotsL (openV tt r (y + (i : Int))) (ix hs k) m)]))), ⟨(by (try dsimp only); first | omega | rfl | assumption | (simp; done)), (by (try dsimp only); first | exact srch_no hS (by assumption) (rotB_no1 (by assumption)) | exact srch_no hS (by assumption) (rotB_no2 (by omega)) | exact srch_yes hS (by assumption) (by omega) (rotB_yes (by assumption) (by omega)))⟩, (show hs.length - (k + 1) < hs.length - k by first | omega | rfl | assumption),
          (enr [(2006, 1072)] ⟨rfl, rfl, rfl, rfl, rfl, rfl, rfl, rfl, rfl, rfl, trivial⟩ (cro rfl (cro rfl (cbl rfl rfl (cbl rfl rfl (cro rfl (conts_cons rfl (le_vec (by first | rfl | omega | assumption | ((simp; done)) | (rw [hV, hVV] <;> rfl)) el_rfl) trivial)))))))⟩
   ·
    refine aw_exit (exit_then (exit_then (exit_in ?_)))
    apply aw_seq
    apply aw_seq
    refine awr []
     ⟨93, [1, 2, 3], [(2, .i y), (3, .i m), (4, .ls 3), (5, .i ys), (6, .l (.ref 1006 0)), (7, .l (.ref 1007 0)), (15, .ls 2006), (16, .i (i : Int)), (74, .b (!b))], (refRota_frH15 r hs tt p2)⟩
     [] trivial ?_
    refine aw_cond (b := (!b)) rfl (fun h => Bool.noConfusion (h3.symm.trans h)) (fun _ => ?_)
    apply aw_skip
    apply aw_seq
    rcases Bool.eq_false_or_eq_true (drillB tt (y + (i : Int)) (ix (pl ++ [(foundL (openV tt r (y + (i : Int))) m hs)]) i)) with h6 | h6
    ·
     obtain ⟨hp2, hfa⟩ := hS.yes (by first | assumption | simpa using (by assumption : (!b) = false))
     have hpi : ix (pl ++ [(foundL (openV tt r (y + (i : Int))) m hs)]) i = (foundL (openV tt r (y + (i : Int))) m hs) := ix_last hpl
     have hpl1 : (pl ++ [(foundL (openV tt r (y + (i : Int))) m hs)]).length = i + 1 := by rw [List.length_append, hpl]; rfl
     obtain ⟨hfB, hfl, hfk⟩ := found_B hxo hm20.1 hhB hfa
     have hsl2 : spotsB (ix (pl ++ [(foundL (openV tt r (y + (i : Int))) m hs)]) i) = true := by rw [hpi]; exact hfB
     have hsl3 : ((ix (pl ++ [(foundL (openV tt r (y + (i : Int))) m hs)]) i).length : Int) = m := by rw [hpi]; exact hfl
     refine aw_ent (T := ⟨93, [1, 2, 3], [(2, .i y), (3, .i m), (4, .ls 3), (5, .i ys), (6, .l (.ref 1006 0)), (7, .l (.ref 1007 0)), (15, .ls 2006), (16, .i (i : Int)), (74, .b (!b))], (refRota_frH23 r hs tt pl y i m)⟩)
         (enr [] ⟨rfl, rfl, rfl, rfl, rfl, rfl, rfl, rfl, rfl, trivial⟩ (cro rfl (cro rfl (cbl rfl rfl (cbl rfl rfl (cro rfl (conts_cons rfl (le_vec (by first | rfl | omega | assumption | (exact hp2) | (rw [hp2]) | (rw [hV, hVV] <;> rfl)) (lstL_eq (by first | rfl | omega | assumption | (exact hp2) | (rw [hp2]) | (rw [hV, hVV] <;> rfl)))) trivial))))))) ?_
     refine awd [(6, .idx i), (7, .many [1084]), (8, .call [2001, 1084] (.tup [.agg [.i ((drillV tt (y + (i : Int)) (ix (pl ++ [(foundL (openV tt r (y + (i : Int))) m hs)]) i)).year), .i ((drillV tt (y + (i : Int)) (ix (pl ++ [(foundL (openV tt r (y + (i : Int))) m hs)]) i)).glo), .i ((drillV tt (y + (i : Int)) (ix (pl ++ [(foundL (openV tt r (y + (i : Int))) m hs)]) i)).ghi), .i ((drillV tt (y + (i : Int)) (ix (pl ++ [(foundL (openV tt r (y + (i : Int))) m hs)]) i)).wlo), .i ((drillV tt (y + (i : Int)) (ix (pl ++ [(foundL (openV tt r (y + (i : Int))) m hs)]) i)).whi), .i ((drillV tt (y + (i : Int)) (ix (pl ++ [(foundL (openV tt r (y + (i : Int))) m hs)]) i)).health), .ls 10850], .one (.v (.bool true))]) [(10850, some (refRota_frK24 tt y i pl r m hs))]), (12, .new 1023)]
      ⟨93, [1, 2, 3], [(2, .i y), (3, .i m), (4, .ls 3), (5, .i ys), (6, .l (.ref 1006 0)), (7, .l (.ref 1007 0)), (15, .ls 2006), (16, .i (i : Int)), (23, .l (.ref 1023 0)), (24, .b true)], (refRota_frH27 r hs tt y i pl m)⟩
      [-9223372036854775808 ≤ (y + (i : Int)) ∧ (y + (i : Int)) < 9223372036854775808, (i : Int) = (i : Int), i < (pl ++ [(foundL (openV tt r (y + (i : Int))) m hs)]).length, i < (pl ++ [(foundL (openV tt r (y + (i : Int))) m hs)]).length, CallOK Try.prog 47 [(refRota_frA17 tt), .i (y + (i : Int)), .ls 1084] [2001, 1084] [some (refRota_frK11 tt), some (refRota_frK25 pl tt r y i m hs)] (.tup [.agg [.i ((drillV tt (y + (i : Int)) (ix (pl ++ [(foundL (openV tt r (y + (i : Int))) m hs)]) i)).year), .i ((drillV tt (y + (i : Int)) (ix (pl ++ [(foundL (openV tt r (y + (i : Int))) m hs)]) i)).glo), .i ((drillV tt (y + (i : Int)) (ix (pl ++ [(foundL (openV tt r (y + (i : Int))) m hs)]) i)).ghi), .i ((drillV tt (y + (i : Int)) (ix (pl ++ [(foundL (openV tt r (y + (i : Int))) m hs)]) i)).wlo), .i ((drillV tt (y + (i : Int)) (ix (pl ++ [(foundL (openV tt r (y + (i : Int))) m hs)]) i)).whi), .i ((drillV tt (y + (i : Int)) (ix (pl ++ [(foundL (openV tt r (y + (i : Int))) m hs)]) i)).health), .ls 10850], .one (.v (.bool true))]) [(10850, some (refRota_frK24 tt y i pl r m hs))]] (al2 (by omega) (al2 (by omega) (al2 (by omega) (al2 (by omega) (al1 (cfr (refDrill_ok tt (y + (i : Int)) (ix (pl ++ [(foundL (openV tt r (y + (i : Int))) m hs)]) i) (by first | omega | (simp; done) | assumption) (by first | omega | (simp; done) | assumption) h6) [(1, 2001), (3, 1084), (9, 10850)] (dem_cons rfl (le_ro rfl el_rfl) (dem_cons rfl (le_ro rfl el_rfl) dem_nil)))))))) ?_
     apply aw_seq
     apply aw_seq
     refine awr []
      ⟨93, [1, 2, 3], [(2, .i y), (3, .i m), (4, .ls 3), (5, .i ys), (6, .l (.ref 1006 0)), (7, .l (.ref 1007 0)), (15, .ls 2006), (16, .i (i : Int)), (23, .l (.ref 1023 0)), (89, .b false)], (refRota_frH27 r hs tt y i pl m)⟩
      [] trivial ?_
     refine aw_false rfl ?_
     apply aw_skip
     refine awr []
      ⟨93, [1, 2, 3], [(2, .i y), (3, .i m), (4, .ls 3), (5, .i ys), (6, .l (.ref 1006 0)), (7, .l (.ref 1007 0)), (15, .ls 2006), (16, .i (i : Int))], (refRota_frH28 r hs tt y i pl m)⟩
      [] trivial ?_
     refine awr [(1, .num (((i + 1) : Nat) : Int))]
      ⟨93, [1, 2, 3], [(2, .i y), (3, .i m), (4, .ls 3), (5, .i ys), (6, .l (.ref 1006 0)), (7, .l (.ref 1007 0)), (15, .ls 2006), (16, .i (((i + 1) : Nat) : Int))], (refRota_frH28 r hs tt y i pl m)⟩
      [((i : Int) + 1) = (((i + 1) : Nat) : Int), -9223372036854775808 ≤ (((i + 1) : Nat) : Int) ∧ (((i + 1) : Nat) : Int) < 9223372036854775808] (al2 (by omega) (al1 (by omega))) ?_
     exact ⟨((i + 1), (drillV tt (y + (i : Int)) (foundL (openV tt r (y + (i : Int))) m hs)), (pl ++ [(foundL (openV tt r (y + (i : Int))) m hs)])), ⟨(by (try dsimp only); first | omega | rfl | assumption | (simp; done)), (by (try dsimp only); intro h1; exact (by have q := drill_start hst2 hfB (by rw [← hpi]; assumption) (by omega); rw [show y + (((i + 1) : Nat) : Int) = y + (i : Int) + 1 by omega]; exact q)), (by (try dsimp only); exact drill_len (by rw [← hpi]; assumption)), (by (try dsimp only); (rw [List.length_append, hpl]; rfl)), (by (try dsimp only); rw [← hq, show ys.toNat - i = (ys.toNat - (i + 1)) + 1 by omega]; exact (rotL_s hfa (by rw [← hpi]; assumption)).symm)⟩, (show ys.toNat - (i + 1) < ys.toNat - i by first | omega | rfl | assumption),
         (enr [(2005, 2006), (2001, 10850)] ⟨rfl, rfl, rfl, rfl, rfl, rfl, rfl, rfl, trivial⟩ (cro rfl (cro rfl (cbl rfl (by exact (cells_cons (cell_i (by first | rfl | omega | assumption | (rw [hpi]) | (rfl) | ((simp; done)) | (rw [hV, hVV] <;> rfl))) (cells_cons (cell_i (by first | rfl | omega | assumption | (rw [hpi]) | (rfl) | ((simp; done)) | (rw [hV, hVV] <;> rfl))) (cells_cons (cell_i (by first | rfl | omega | assumption | (rw [hpi]) | (rfl) | ((simp; done)) | (rw [hV, hVV] <;> rfl))) (cells_cons (cell_i (by first | rfl | omega | assumption | (rw [hpi]) | (rfl) | ((simp; done)) | (rw [hV, hVV] <;> rfl))) (cells_cons (cell_i (by first | rfl | omega | assumption | (rw [hpi]) | (rfl) | ((simp; done)) | (rw [hV, hVV] <;> rfl))) (cells_cons (cell_i (by first | rfl | omega | assumption | (rw [hpi]) | (rfl) | ((simp; done)) | (rw [hV, hVV] <;> rfl))) (cells_cons rfl rfl)))))))) (cbl rfl rfl (conts_cons rfl (le_vec_ro (by first | rfl | omega | assumption | (rw [hpi]) | (rfl) | ((simp; done)) | (rw [hV, hVV] <;> rfl)) (lst_eq (by first | rfl | omega | assumption | (rw [hpi]) | (rfl) | ((simp; done)) | (rw [hV, hVV] <;> rfl)))) (cve rfl trivial)))))))⟩
    ·
     obtain ⟨hp2, hfa⟩ := hS.yes (by first | assumption | simpa using (by assumption : (!b) = false))
     have hpi : ix (pl ++ [(foundL (openV tt r (y + (i : Int))) m hs)]) i = (foundL (openV tt r (y + (i : Int))) m hs) := ix_last hpl
     have hpl1 : (pl ++ [(foundL (openV tt r (y + (i : Int))) m hs)]).length = i + 1 := by rw [List.length_append, hpl]; rfl
     obtain ⟨hfB, hfl, hfk⟩ := found_B hxo hm20.1 hhB hfa
     have hsl2 : spotsB (ix (pl ++ [(foundL (openV tt r (y + (i : Int))) m hs)]) i) = true := by rw [hpi]; exact hfB
     have hsl3 : ((ix (pl ++ [(foundL (openV tt r (y + (i : Int))) m hs)]) i).length : Int) = m := by rw [hpi]; exact hfl
     refine aw_ent (T := ⟨93, [1, 2, 3], [(2, .i y), (3, .i m), (4, .ls 3), (5, .i ys), (6, .l (.ref 1006 0)), (7, .l (.ref 1007 0)), (15, .ls 2006), (16, .i (i : Int)), (74, .b (!b))], (refRota_frH23 r hs tt pl y i m)⟩)
         (enr [] ⟨rfl, rfl, rfl, rfl, rfl, rfl, rfl, rfl, rfl, trivial⟩ (cro rfl (cro rfl (cbl rfl rfl (cbl rfl rfl (cro rfl (conts_cons rfl (le_vec (by first | rfl | omega | assumption | (exact hp2) | (rw [hp2]) | (rw [hV, hVV] <;> rfl)) (lstL_eq (by first | rfl | omega | assumption | (exact hp2) | (rw [hp2]) | (rw [hV, hVV] <;> rfl)))) trivial))))))) ?_
     refine awd [(6, .idx i), (7, .many [1084]), (8, .call [2001, 1084] (.tup [.agg [.i 0, .i 0, .i 0, .i 0, .i 0, .i 0, .v (.slice none 0 0)], .one (.v (.bool false))]) []), (12, .new 1023)]
      ⟨93, [1, 2, 3], [(2, .i y), (3, .i m), (4, .ls 3), (5, .i ys), (6, .l (.ref 1006 0)), (7, .l (.ref 1007 0)), (15, .ls 2006), (16, .i (i : Int)), (23, .l (.ref 1023 0)), (24, .b false)], (refRota_frH30 r hs tt pl y i m)⟩
      [-9223372036854775808 ≤ (y + (i : Int)) ∧ (y + (i : Int)) < 9223372036854775808, (i : Int) = (i : Int), i < (pl ++ [(foundL (openV tt r (y + (i : Int))) m hs)]).length, i < (pl ++ [(foundL (openV tt r (y + (i : Int))) m hs)]).length, CallOK Try.prog 47 [(refRota_frA17 tt), .i (y + (i : Int)), .ls 1084] [2001, 1084] [some (refRota_frK11 tt), some (refRota_frK25 pl tt r y i m hs)] (.tup [.agg [.i 0, .i 0, .i 0, .i 0, .i 0, .i 0, .v (.slice none 0 0)], .one (.v (.bool false))]) []] (al2 (by omega) (al2 (by omega) (al2 (by omega) (al2 (by omega) (al1 (cfr (refDrill_no tt (y + (i : Int)) (ix (pl ++ [(foundL (openV tt r (y + (i : Int))) m hs)]) i) (by first | omega | (simp; done) | assumption) (by first | omega | (simp; done) | assumption) h6) [(1, 2001), (3, 1084)] (dem_cons rfl (le_ro rfl el_rfl) (dem_cons rfl (le_ro rfl el_rfl) dem_nil)))))))) ?_
     apply aw_seq
     apply aw_seq
     refine awr []
      ⟨93, [1, 2, 3], [(2, .i y), (3, .i m), (4, .ls 3), (5, .i ys), (6, .l (.ref 1006 0)), (7, .l (.ref 1007 0)), (15, .ls 2006), (16, .i (i : Int)), (23, .l (.ref 1023 0)), (89, .b true)], (refRota_frH30 r hs tt pl y i m)⟩
      [] trivial ?_
     refine aw_true rfl ?_
     apply aw_seq
     have hVV : rotL r m hs y ys.toNat t 0 [] = ([], (i : Int), 8) := by rw [← hq, show ys.toNat - i = (ys.toNat - (i + 1)) + 1 by omega]; exact rotL_f hfa (by rw [← hpi]; assumption)
     refine awr []
      ⟨93, [1, 2, 3], [(12, .l (.v (.slice none 0 0))), (13, .i (i : Int)), (14, .i 8)], []⟩
      [] trivial ?_
     exact aw_ret (ret_then (ret_block (ret_then (ret_then (ret_block (ret_then ⟨.inr rfl, eoks ⟨93, [1, 2, 3], [(12, .ls 9), (13, .i ((rotR t r y m hs ys).2.1)), (14, .i ((rotR t r y m hs ys).2.2))], [(9, some (refRota_frK31 t r y m hs ys))]⟩
         (Ent.trans (Ent.nilSlot 12 70001 57 1 (LstL 2 eS ((rotR t r y m hs ys).1)) rfl (by omega) (by kernel_rfl)) (enr [(9, 70001)] ⟨rfl, (slot_i rfl (by first | rfl | omega | assumption | (rw [hV, hVV] <;> rfl))), (slot_i rfl (by first | rfl | omega | assumption | (rw [hV, hVV] <;> rfl))), trivial⟩ (conts_cons rfl (le_vec (by first | rfl | omega | assumption | (rw [hV, hVV] <;> rfl)) el_rfl) trivial))) (wrs_cons rfl trivial wrs_nil)⟩))))))
  ·
   have h2p : (hs.length : Int) ≤ (k : Int) := dlt h2
   refine awr [(4, .dec false)]
    ⟨93, [1, 2, 3], [(2, .i y), (3, .i m), (4, .ls 3), (5, .i ys), (6, .l (.ref 1006 0)), (7, .l (.ref 1007 0)), (15, .ls 2006), (16, .i (i : Int)), (17, .b b), (18, .i (k : Int)), (38, .b false)], (refRota_frH15 r hs tt p2)⟩
    [decide ((k : Int) < (hs.length : Int)) = false] (al1 h2) ?_
   refine aw_false rfl ?_
   refine aw_exit (exit_then (exit_then (exit_in ?_)))
   apply aw_seq
   apply aw_seq
   refine awr []
    ⟨93, [1, 2, 3], [(2, .i y), (3, .i m), (4, .ls 3), (5, .i ys), (6, .l (.ref 1006 0)), (7, .l (.ref 1007 0)), (15, .ls 2006), (16, .i (i : Int)), (74, .b (!b))], (refRota_frH15 r hs tt p2)⟩
    [] trivial ?_
   refine aw_cond (b := (!b)) rfl (fun h7 => ?_) (fun h7 => ?_)
   ·
    apply aw_seq
    have hVV : rotL r m hs y ys.toNat t 0 [] = ([], (i : Int), 7) := by rw [← hq, show ys.toNat - i = (ys.toNat - (i + 1)) + 1 by omega]; exact rotL_n (srch_end hS (by omega) (by assumption))
    refine awr []
     ⟨93, [1, 2, 3], [(12, .l (.v (.slice none 0 0))), (13, .i (i : Int)), (14, .i 7)], []⟩
     [] trivial ?_
    exact aw_ret (ret_then (ret_block (ret_then (ret_then (ret_block (ret_then ⟨.inr rfl, eoks ⟨93, [1, 2, 3], [(12, .ls 9), (13, .i ((rotR t r y m hs ys).2.1)), (14, .i ((rotR t r y m hs ys).2.2))], [(9, some (refRota_frK31 t r y m hs ys))]⟩
        (Ent.trans (Ent.nilSlot 12 70002 57 1 (LstL 2 eS ((rotR t r y m hs ys).1)) rfl (by omega) (by kernel_rfl)) (enr [(9, 70002)] ⟨rfl, (slot_i rfl (by first | rfl | omega | assumption | (rw [hV, hVV] <;> rfl))), (slot_i rfl (by first | rfl | omega | assumption | (rw [hV, hVV] <;> rfl))), trivial⟩ (conts_cons rfl (le_vec (by first | rfl | omega | assumption | (rw [hV, hVV] <;> rfl)) el_rfl) trivial))) (wrs_cons rfl trivial wrs_nil)⟩))))))
   ·
    apply aw_skip
    apply aw_seq
    rcases Bool.eq_false_or_eq_true (drillB tt (y + (i : Int)) (ix (pl ++ [(foundL (openV tt r (y + (i : Int))) m hs)]) i)) with h8 | h8
    ·
     obtain ⟨hp2, hfa⟩ := hS.yes (by first | assumption | simpa using (by assumption : (!b) = false))
     have hpi : ix (pl ++ [(foundL (openV tt r (y + (i : Int))) m hs)]) i = (foundL (openV tt r (y + (i : Int))) m hs) := ix_last hpl
     have hpl1 : (pl ++ [(foundL (openV tt r (y + (i : Int))) m hs)]).length = i + 1 := by rw [List.length_append, hpl]; rfl
     obtain ⟨hfB, hfl, hfk⟩ := found_B hxo hm20.1 hhB hfa
     have hsl2 : spotsB (ix (pl ++ [(foundL (openV tt r (y + (i : Int))) m hs)]) i) = true := by rw [hpi]; exact hfB
     have hsl3 : ((ix (pl ++ [(foundL (openV tt r (y + (i : Int))) m hs)]) i).length : Int) = m := by rw [hpi]; exact hfl
     refine aw_ent (T := ⟨93, [1, 2, 3], [(2, .i y), (3, .i m), (4, .ls 3), (5, .i ys), (6, .l (.ref 1006 0)), (7, .l (.ref 1007 0)), (15, .ls 2006), (16, .i (i : Int)), (74, .b (!b))], (refRota_frH23 r hs tt pl y i m)⟩)
         (enr [] ⟨rfl, rfl, rfl, rfl, rfl, rfl, rfl, rfl, rfl, trivial⟩ (cro rfl (cro rfl (cbl rfl rfl (cbl rfl rfl (cro rfl (conts_cons rfl (le_vec (by first | rfl | omega | assumption | (exact hp2) | (rw [hp2]) | (rw [hV, hVV] <;> rfl)) (lstL_eq (by first | rfl | omega | assumption | (exact hp2) | (rw [hp2]) | (rw [hV, hVV] <;> rfl)))) trivial))))))) ?_
     refine awd [(6, .idx i), (7, .many [1084]), (8, .call [2001, 1084] (.tup [.agg [.i ((drillV tt (y + (i : Int)) (ix (pl ++ [(foundL (openV tt r (y + (i : Int))) m hs)]) i)).year), .i ((drillV tt (y + (i : Int)) (ix (pl ++ [(foundL (openV tt r (y + (i : Int))) m hs)]) i)).glo), .i ((drillV tt (y + (i : Int)) (ix (pl ++ [(foundL (openV tt r (y + (i : Int))) m hs)]) i)).ghi), .i ((drillV tt (y + (i : Int)) (ix (pl ++ [(foundL (openV tt r (y + (i : Int))) m hs)]) i)).wlo), .i ((drillV tt (y + (i : Int)) (ix (pl ++ [(foundL (openV tt r (y + (i : Int))) m hs)]) i)).whi), .i ((drillV tt (y + (i : Int)) (ix (pl ++ [(foundL (openV tt r (y + (i : Int))) m hs)]) i)).health), .ls 10850], .one (.v (.bool true))]) [(10850, some (refRota_frK24 tt y i pl r m hs))]), (12, .new 1023)]
      ⟨93, [1, 2, 3], [(2, .i y), (3, .i m), (4, .ls 3), (5, .i ys), (6, .l (.ref 1006 0)), (7, .l (.ref 1007 0)), (15, .ls 2006), (16, .i (i : Int)), (23, .l (.ref 1023 0)), (24, .b true)], (refRota_frH27 r hs tt y i pl m)⟩
      [-9223372036854775808 ≤ (y + (i : Int)) ∧ (y + (i : Int)) < 9223372036854775808, (i : Int) = (i : Int), i < (pl ++ [(foundL (openV tt r (y + (i : Int))) m hs)]).length, i < (pl ++ [(foundL (openV tt r (y + (i : Int))) m hs)]).length, CallOK Try.prog 47 [(refRota_frA17 tt), .i (y + (i : Int)), .ls 1084] [2001, 1084] [some (refRota_frK11 tt), some (refRota_frK25 pl tt r y i m hs)] (.tup [.agg [.i ((drillV tt (y + (i : Int)) (ix (pl ++ [(foundL (openV tt r (y + (i : Int))) m hs)]) i)).year), .i ((drillV tt (y + (i : Int)) (ix (pl ++ [(foundL (openV tt r (y + (i : Int))) m hs)]) i)).glo), .i ((drillV tt (y + (i : Int)) (ix (pl ++ [(foundL (openV tt r (y + (i : Int))) m hs)]) i)).ghi), .i ((drillV tt (y + (i : Int)) (ix (pl ++ [(foundL (openV tt r (y + (i : Int))) m hs)]) i)).wlo), .i ((drillV tt (y + (i : Int)) (ix (pl ++ [(foundL (openV tt r (y + (i : Int))) m hs)]) i)).whi), .i ((drillV tt (y + (i : Int)) (ix (pl ++ [(foundL (openV tt r (y + (i : Int))) m hs)]) i)).health), .ls 10850], .one (.v (.bool true))]) [(10850, some (refRota_frK24 tt y i pl r m hs))]] (al2 (by omega) (al2 (by omega) (al2 (by omega) (al2 (by omega) (al1 (cfr (refDrill_ok tt (y + (i : Int)) (ix (pl ++ [(foundL (openV tt r (y + (i : Int))) m hs)]) i) (by first | omega | (simp; done) | assumption) (by first | omega | (simp; done) | assumption) h8) [(1, 2001), (3, 1084), (9, 10850)] (dem_cons rfl (le_ro rfl el_rfl) (dem_cons rfl (le_ro rfl el_rfl) dem_nil)))))))) ?_
     apply aw_seq
     apply aw_seq
     refine awr []
      ⟨93, [1, 2, 3], [(2, .i y), (3, .i m), (4, .ls 3), (5, .i ys), (6, .l (.ref 1006 0)), (7, .l (.ref 1007 0)), (15, .ls 2006), (16, .i (i : Int)), (23, .l (.ref 1023 0)), (89, .b false)], (refRota_frH27 r hs tt y i pl m)⟩
      [] trivial ?_
     refine aw_false rfl ?_
     apply aw_skip
     refine awr []
      ⟨93, [1, 2, 3], [(2, .i y), (3, .i m), (4, .ls 3), (5, .i ys), (6, .l (.ref 1006 0)), (7, .l (.ref 1007 0)), (15, .ls 2006), (16, .i (i : Int))], (refRota_frH28 r hs tt y i pl m)⟩
      [] trivial ?_
     refine awr [(1, .num (((i + 1) : Nat) : Int))]
      ⟨93, [1, 2, 3], [(2, .i y), (3, .i m), (4, .ls 3), (5, .i ys), (6, .l (.ref 1006 0)), (7, .l (.ref 1007 0)), (15, .ls 2006), (16, .i (((i + 1) : Nat) : Int))], (refRota_frH28 r hs tt y i pl m)⟩
      [((i : Int) + 1) = (((i + 1) : Nat) : Int), -9223372036854775808 ≤ (((i + 1) : Nat) : Int) ∧ (((i + 1) : Nat) : Int) < 9223372036854775808] (al2 (by omega) (al1 (by omega))) ?_
     exact ⟨((i + 1), (drillV tt (y + (i : Int)) (foundL (openV tt r (y + (i : Int))) m hs)), (pl ++ [(foundL (openV tt r (y + (i : Int))) m hs)])), ⟨(by (try dsimp only); first | omega | rfl | assumption | (simp; done)), (by (try dsimp only); intro h1; exact (by have q := drill_start hst2 hfB (by rw [← hpi]; assumption) (by omega); rw [show y + (((i + 1) : Nat) : Int) = y + (i : Int) + 1 by omega]; exact q)), (by (try dsimp only); exact drill_len (by rw [← hpi]; assumption)), (by (try dsimp only); (rw [List.length_append, hpl]; rfl)), (by (try dsimp only); rw [← hq, show ys.toNat - i = (ys.toNat - (i + 1)) + 1 by omega]; exact (rotL_s hfa (by rw [← hpi]; assumption)).symm)⟩, (show ys.toNat - (i + 1) < ys.toNat - i by first | omega | rfl | assumption),
         (enr [(2005, 2006), (2001, 10850)] ⟨rfl, rfl, rfl, rfl, rfl, rfl, rfl, rfl, trivial⟩ (cro rfl (cro rfl (cbl rfl (by exact (cells_cons (cell_i (by first | rfl | omega | assumption | (rw [hpi]) | (rfl) | ((simp; done)) | (rw [hV, hVV] <;> rfl))) (cells_cons (cell_i (by first | rfl | omega | assumption | (rw [hpi]) | (rfl) | ((simp; done)) | (rw [hV, hVV] <;> rfl))) (cells_cons (cell_i (by first | rfl | omega | assumption | (rw [hpi]) | (rfl) | ((simp; done)) | (rw [hV, hVV] <;> rfl))) (cells_cons (cell_i (by first | rfl | omega | assumption | (rw [hpi]) | (rfl) | ((simp; done)) | (rw [hV, hVV] <;> rfl))) (cells_cons (cell_i (by first | rfl | omega | assumption | (rw [hpi]) | (rfl) | ((simp; done)) | (rw [hV, hVV] <;> rfl))) (cells_cons (cell_i (by first | rfl | omega | assumption | (rw [hpi]) | (rfl) | ((simp; done)) | (rw [hV, hVV] <;> rfl))) (cells_cons rfl rfl)))))))) (cbl rfl rfl (conts_cons rfl (le_vec_ro (by first | rfl | omega | assumption | (rw [hpi]) | (rfl) | ((simp; done)) | (rw [hV, hVV] <;> rfl)) (lst_eq (by first | rfl | omega | assumption | (rw [hpi]) | (rfl) | ((simp; done)) | (rw [hV, hVV] <;> rfl)))) (cve rfl trivial)))))))⟩
    ·
     obtain ⟨hp2, hfa⟩ := hS.yes (by first | assumption | simpa using (by assumption : (!b) = false))
     have hpi : ix (pl ++ [(foundL (openV tt r (y + (i : Int))) m hs)]) i = (foundL (openV tt r (y + (i : Int))) m hs) := ix_last hpl
     have hpl1 : (pl ++ [(foundL (openV tt r (y + (i : Int))) m hs)]).length = i + 1 := by rw [List.length_append, hpl]; rfl
     obtain ⟨hfB, hfl, hfk⟩ := found_B hxo hm20.1 hhB hfa
     have hsl2 : spotsB (ix (pl ++ [(foundL (openV tt r (y + (i : Int))) m hs)]) i) = true := by rw [hpi]; exact hfB
     have hsl3 : ((ix (pl ++ [(foundL (openV tt r (y + (i : Int))) m hs)]) i).length : Int) = m := by rw [hpi]; exact hfl
     refine aw_ent (T := ⟨93, [1, 2, 3], [(2, .i y), (3, .i m), (4, .ls 3), (5, .i ys), (6, .l (.ref 1006 0)), (7, .l (.ref 1007 0)), (15, .ls 2006), (16, .i (i : Int)), (74, .b (!b))], (refRota_frH23 r hs tt pl y i m)⟩)
         (enr [] ⟨rfl, rfl, rfl, rfl, rfl, rfl, rfl, rfl, rfl, trivial⟩ (cro rfl (cro rfl (cbl rfl rfl (cbl rfl rfl (cro rfl (conts_cons rfl (le_vec (by first | rfl | omega | assumption | (exact hp2) | (rw [hp2]) | (rw [hV, hVV] <;> rfl)) (lstL_eq (by first | rfl | omega | assumption | (exact hp2) | (rw [hp2]) | (rw [hV, hVV] <;> rfl)))) trivial))))))) ?_
     refine awd [(6, .idx i), (7, .many [1084]), (8, .call [2001, 1084] (.tup [.agg [.i 0, .i 0, .i 0, .i 0, .i 0, .i 0, .v (.slice none 0 0)], .one (.v (.bool false))]) []), (12, .new 1023)]
      ⟨93, [1, 2, 3], [(2, .i y), (3, .i m), (4, .ls 3), (5, .i ys), (6, .l (.ref 1006 0)), (7, .l (.ref 1007 0)), (15, .ls 2006), (16, .i (i : Int)), (23, .l (.ref 1023 0)), (24, .b false)], (refRota_frH30 r hs tt pl y i m)⟩
      [-9223372036854775808 ≤ (y + (i : Int)) ∧ (y + (i : Int)) < 9223372036854775808, (i : Int) = (i : Int), i < (pl ++ [(foundL (openV tt r (y + (i : Int))) m hs)]).length, i < (pl ++ [(foundL (openV tt r (y + (i : Int))) m hs)]).length, CallOK Try.prog 47 [(refRota_frA17 tt), .i (y + (i : Int)), .ls 1084] [2001, 1084] [some (refRota_frK11 tt), some (refRota_frK25 pl tt r y i m hs)] (.tup [.agg [.i 0, .i 0, .i 0, .i 0, .i 0, .i 0, .v (.slice none 0 0)], .one (.v (.bool false))]) []] (al2 (by omega) (al2 (by omega) (al2 (by omega) (al2 (by omega) (al1 (cfr (refDrill_no tt (y + (i : Int)) (ix (pl ++ [(foundL (openV tt r (y + (i : Int))) m hs)]) i) (by first | omega | (simp; done) | assumption) (by first | omega | (simp; done) | assumption) h8) [(1, 2001), (3, 1084)] (dem_cons rfl (le_ro rfl el_rfl) (dem_cons rfl (le_ro rfl el_rfl) dem_nil)))))))) ?_
     apply aw_seq
     apply aw_seq
     refine awr []
      ⟨93, [1, 2, 3], [(2, .i y), (3, .i m), (4, .ls 3), (5, .i ys), (6, .l (.ref 1006 0)), (7, .l (.ref 1007 0)), (15, .ls 2006), (16, .i (i : Int)), (23, .l (.ref 1023 0)), (89, .b true)], (refRota_frH30 r hs tt pl y i m)⟩
      [] trivial ?_
     refine aw_true rfl ?_
     apply aw_seq
     have hVV : rotL r m hs y ys.toNat t 0 [] = ([], (i : Int), 8) := by rw [← hq, show ys.toNat - i = (ys.toNat - (i + 1)) + 1 by omega]; exact rotL_f hfa (by rw [← hpi]; assumption)
     refine awr []
      ⟨93, [1, 2, 3], [(12, .l (.v (.slice none 0 0))), (13, .i (i : Int)), (14, .i 8)], []⟩
      [] trivial ?_
     exact aw_ret (ret_then (ret_block (ret_then (ret_then (ret_block (ret_then ⟨.inr rfl, eoks ⟨93, [1, 2, 3], [(12, .ls 9), (13, .i ((rotR t r y m hs ys).2.1)), (14, .i ((rotR t r y m hs ys).2.2))], [(9, some (refRota_frK31 t r y m hs ys))]⟩
         (Ent.trans (Ent.nilSlot 12 70003 57 1 (LstL 2 eS ((rotR t r y m hs ys).1)) rfl (by omega) (by kernel_rfl)) (enr [(9, 70003)] ⟨rfl, (slot_i rfl (by first | rfl | omega | assumption | (rw [hV, hVV] <;> rfl))), (slot_i rfl (by first | rfl | omega | assumption | (rw [hV, hVV] <;> rfl))), trivial⟩ (conts_cons rfl (le_vec (by first | rfl | omega | assumption | (rw [hV, hVV] <;> rfl)) el_rfl) trivial))) (wrs_cons rfl trivial wrs_nil)⟩))))))
 ·
  have h1p : ys ≤ (i : Int) := dlt h1
  refine aw_exit (exit_then (exit_then (exit_in ?_)))
  apply aw_seq
  have hVV : rotL r m hs y ys.toNat t 0 [] = (pl, 0, 0) := by rw [← hq, show ys.toNat - i = 0 by omega]; rfl
  refine awr []
   ⟨93, [1, 2, 3], [(12, .ls 2005), (13, .i 0), (14, .i 0)], [(2005, some (refRota_frK12 pl))]⟩
   [] trivial ?_
  exact aw_ret ⟨.inr rfl, eoks ⟨93, [1, 2, 3], [(12, .ls 9), (13, .i ((rotR t r y m hs ys).2.1)), (14, .i ((rotR t r y m hs ys).2.2))], [(9, some (refRota_frK31 t r y m hs ys))]⟩
      (enr [(9, 2005)] ⟨rfl, (slot_i rfl (by first | rfl | omega | assumption | (rw [hV, hVV] <;> rfl))), (slot_i rfl (by first | rfl | omega | assumption | (rw [hV, hVV] <;> rfl))), trivial⟩ (conts_cons rfl (le_vec (by first | rfl | omega | assumption | (rw [hV, hVV] <;> rfl)) (lstL_eq (by first | rfl | omega | assumption | (rw [hV, hVV] <;> rfl)))) trivial)) (wrs_cons rfl trivial wrs_nil)⟩
end Go.Proofs.Ytbpblhmigijkaaa
