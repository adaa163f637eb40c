/- TrunkNever, walked. -/
import Derived.Test.YtbpblhmigijkaaaTw
import Derived.Test.YtbpblhmigijkaaaTva
import Derived.Test.YtbpblhmigijkaaaTrw
import Derived.Test.YtbpblhmigijkaaaTnv
namespace Go.Proofs.Ytbpblhmigijkaaa
open Go.RowKit
set_option linter.unusedVariables false
set_option linter.unusedSimpArgs false
def never_frA1 (t : TreeV) : SV := .agg [.i t.year, .i t.glo, .i t.ghi, .i t.wlo, .i t.whi, .i t.health, .ls 1]
def never_frA2 (r : RuleV) : SV := .agg [.i r.slo, .i r.shi, .i r.ulo, .i r.uhi, .i r.hlo, .i r.hhi, .i r.apart, .i r.blo, .i r.bhi, .ls 2, .i r.n0, .i r.n1, .i r.n2, .i r.n3, .i r.n4, .i r.opn]
def never_frK3 (t : TreeV) : Cn := .ro 3 t.holes.length (Lst eH t.holes)
def never_frK4 (r : RuleV) : Cn := .ro 2 r.sizes.length (Lst eZ r.sizes)
def never_frH5 (t : TreeV) (r : RuleV) (hs : List Int) : List (Nat × Option Cn) := [(1, some (never_frK3 t)), (2, some (never_frK4 r)), (3, some (.ro 1 hs.length (Lst eI hs)))]
def never_frK6 (t : TreeV) : Cn := .blk 26 [.i t.year, .i t.glo, .i t.ghi, .i t.wlo, .i t.whi, .i t.health, .ls 1]
def never_frK7 (r : RuleV) : Cn := .blk 30 [.i r.slo, .i r.shi, .i r.ulo, .i r.uhi, .i r.hlo, .i r.hhi, .i r.apart, .i r.blo, .i r.bhi, .ls 2, .i r.n0, .i r.n1, .i r.n2, .i r.n3, .i r.n4, .i r.opn]
def never_frK8 (y : Int) (m : Int) (ys : Int) : Cn := .blk 101 [.i y, .i m, .ls 3, .i ys]
def never_frH9 (t : TreeV) (r : RuleV) (hs : List Int) (y : Int) (m : Int) (ys : Int) : List (Nat × Option Cn) := [(1, some (never_frK3 t)), (2, some (never_frK4 r)), (3, some (.ro 1 hs.length (Lst eI hs))), (1003, some (never_frK6 t)), (1004, some (never_frK7 r)), (1005, some (never_frK8 y m ys))]
def never_frA10 (t : TreeV) : SV := .agg [.i t.year, .i t.glo, .i t.ghi, .i t.wlo, .i t.whi, .i t.health, .ls 10800]
def never_frK11 (t : TreeV) : Cn := .vec 74 3 ((t.holes).length) (Lst eH t.holes)
def never_frA12 (r : RuleV) : SV := .agg [.i r.slo, .i r.shi, .i r.ulo, .i r.uhi, .i r.hlo, .i r.hhi, .i r.apart, .i r.blo, .i r.bhi, .ls 10820, .i r.n0, .i r.n1, .i r.n2, .i r.n3, .i r.n4, .i r.opn]
def never_frK13 (r : RuleV) : Cn := .vec 45 2 ((r.sizes).length) (Lst eZ r.sizes)
def never_frK14 (t : TreeV) (r : RuleV) (y : Int) (m : Int) (hs : List Int) (ys : Int) : Cn := .vec 57 1 (((rotR t r y m hs ys).1).length) (LstL 2 eS ((rotR t r y m hs ys).1))
def never_frH15 (t : TreeV) (r : RuleV) (hs : List Int) (y : Int) (m : Int) (ys : Int) : List (Nat × Option Cn) := [(1, some (never_frK3 t)), (2, some (never_frK4 r)), (3, some (.ro 1 hs.length (Lst eI hs))), (1003, some (never_frK6 t)), (1004, some (never_frK7 r)), (1005, some (never_frK8 y m ys)), (10930, some (never_frK14 t r y m hs ys))]
def never_frA16 (t : TreeV) : SV := .agg [.i t.year, .i t.glo, .i t.ghi, .i t.wlo, .i t.whi, .i t.health, .ls 11320]
def never_frA17 (r : RuleV) : SV := .agg [.i r.slo, .i r.shi, .i r.ulo, .i r.uhi, .i r.hlo, .i r.hhi, .i r.apart, .i r.blo, .i r.bhi, .ls 11340, .i r.n0, .i r.n1, .i r.n2, .i r.n3, .i r.n4, .i r.opn]
def never_frK18 (t : TreeV) (r : RuleV) (y : Int) (m : Int) (hs : List Int) (q : List (List Spt)) : Cn := .vec 57 1 (((rotR t r y m hs ((q.length : Nat) : Int)).1).length) (LstL 2 eS ((rotR t r y m hs ((q.length : Nat) : Int)).1))
def never_frH19 (t : TreeV) (r : RuleV) (hs : List Int) (y : Int) (m : Int) (ys : Int) (q : List (List Spt)) : List (Nat × Option Cn) := [(1, some (never_frK3 t)), (2, some (never_frK4 r)), (3, some (.ro 1 hs.length (Lst eI hs))), (1003, some (never_frK6 t)), (1004, some (never_frK7 r)), (1005, some (never_frK8 y m ys)), (11440, some (never_frK18 t r y m hs q))]
def never_frH20 (t : TreeV) (r : RuleV) (hs : List Int) (y : Int) (m : Int) (ys : Int) (q : List (List Spt)) : List (Nat × Option Cn) := [(1, some (never_frK3 t)), (2, some (never_frK4 r)), (3, some (.ro 1 hs.length (Lst eI hs))), (1003, some (never_frK6 t)), (1004, some (never_frK7 r)), (1005, some (never_frK8 y m ys)), (11440, some (.vec 57 1 q.length (LstL 2 eS q)))]
def never_frA21 (t : TreeV) : SV := .agg [.i t.year, .i t.glo, .i t.ghi, .i t.wlo, .i t.whi, .i t.health, .ls 11540]
def never_frA22 (r : RuleV) : SV := .agg [.i r.slo, .i r.shi, .i r.ulo, .i r.uhi, .i r.hlo, .i r.hhi, .i r.apart, .i r.blo, .i r.bhi, .ls 11560, .i r.n0, .i r.n1, .i r.n2, .i r.n3, .i r.n4, .i r.opn]
def never_frA23 (t : TreeV) : SV := .agg [.i t.year, .i t.glo, .i t.ghi, .i t.wlo, .i t.whi, .i t.health, .ls 11860]
def never_frK24 (t : TreeV) : Cn := .blk 26 [.i t.year, .i t.glo, .i t.ghi, .i t.wlo, .i t.whi, .i t.health, .ls 11860]
def never_frH25 (r : RuleV) (hs : List Int) (y : Int) (m : Int) (ys : Int) (t : TreeV) (q : List (List Spt)) : List (Nat × Option Cn) := [(2, some (never_frK4 r)), (3, some (.ro 1 hs.length (Lst eI hs))), (1004, some (never_frK7 r)), (1005, some (never_frK8 y m ys)), (1018, some (never_frK24 t)), (11440, some (.vec 57 1 q.length (LstL 2 eS q))), (11860, some (never_frK11 t))]
def never_frK26 (tt : TreeV) : Cn := .blk 26 [.i tt.year, .i tt.glo, .i tt.ghi, .i tt.wlo, .i tt.whi, .i tt.health, .ls 2001]
def never_frK27 (tt : TreeV) : Cn := .ro 3 tt.holes.length (Lst eH tt.holes)
def never_frH28 (r : RuleV) (hs : List Int) (y : Int) (m : Int) (ys : Int) (tt : TreeV) (q : List (List Spt)) : List (Nat × Option Cn) := [(2, some (never_frK4 r)), (3, some (.ro 1 hs.length (Lst eI hs))), (1004, some (never_frK7 r)), (1005, some (never_frK8 y m ys)), (1018, some (never_frK26 tt)), (2001, some (never_frK27 tt)), (11440, some (.vec 57 1 q.length (LstL 2 eS q)))]
def never_frA29 (tt : TreeV) : SV := .agg [.i tt.year, .i tt.glo, .i tt.ghi, .i tt.wlo, .i tt.whi, .i tt.health, .ls 12060]
def never_frK30 (tt : TreeV) : Cn := .vec 74 3 ((tt.holes).length) (Lst eH tt.holes)
def never_frA31 (tt : TreeV) : SV := .agg [.i tt.year, .i tt.glo, .i tt.ghi, .i tt.wlo, .i tt.whi, .i tt.health, .ls 2001]
def never_frA32 (r : RuleV) : SV := .agg [.i r.slo, .i r.shi, .i r.ulo, .i r.uhi, .i r.hlo, .i r.hhi, .i r.apart, .i r.blo, .i r.bhi, .ls 12080, .i r.n0, .i r.n1, .i r.n2, .i r.n3, .i r.n4, .i r.opn]
def never_frK33 (q : List (List Spt)) (i : Nat) (m : Int) : Cn := .vec 72 2 ((((ix q i).take ((m - 1).toNat))).length) (Lst eS ((ix q i).take ((m - 1).toNat)))
def never_frK34 (m : Int) (q : List (List Spt)) (i : Nat) : Cn := .ro 2 ((m - 1).toNat - 0) (fun i_ j_ => (Lst eS (ix q i)) (0 + i_) j_)
def never_frA35 (tt : TreeV) : SV := .agg [.i tt.year, .i tt.glo, .i tt.ghi, .i tt.wlo, .i tt.whi, .i tt.health, .ls 12460]
def never_frA36 (r : RuleV) : SV := .agg [.i r.slo, .i r.shi, .i r.ulo, .i r.uhi, .i r.hlo, .i r.hhi, .i r.apart, .i r.blo, .i r.bhi, .ls 12480, .i r.n0, .i r.n1, .i r.n2, .i r.n3, .i r.n4, .i r.opn]
def never_frK37 (q : List (List Spt)) (i : Nat) : Cn := .vec 72 2 (((ix q i)).length) (Lst eS (ix q i))
def never_frK38 (q : List (List Spt)) (i : Nat) : Cn := .ro 2 ((ix q i).length) (Lst eS (ix q i))
def never_frK39 (q : List (List Spt)) (i : Nat) : Cn := .vec 72 2 (((ix q i)).length + 1) (Lst eS ((ix q i) ++ [(⟨(ix (ix q i) 0).angle, (ix (ix q i) 0).height⟩ : Spt)]))
def never_frA40 (tt : TreeV) : SV := .agg [.i tt.year, .i tt.glo, .i tt.ghi, .i tt.wlo, .i tt.whi, .i tt.health, .ls 12840]
def never_frK41 (tt : TreeV) (y : Int) (i : Nat) (q : List (List Spt)) : Cn := .vec 74 3 (((drillR tt (y + ((i : Nat) : Int)) (ix q i)).holes).length) (Lst eH ((drillR tt (y + ((i : Nat) : Int)) (ix q i)).holes))
def never_frK42 (tt : TreeV) (y : Int) (i : Nat) (q : List (List Spt)) : Cn := .blk 26 [.i ((drillR tt (y + ((i : Nat) : Int)) (ix q i)).year), .i ((drillR tt (y + ((i : Nat) : Int)) (ix q i)).glo), .i ((drillR tt (y + ((i : Nat) : Int)) (ix q i)).ghi), .i ((drillR tt (y + ((i : Nat) : Int)) (ix q i)).wlo), .i ((drillR tt (y + ((i : Nat) : Int)) (ix q i)).whi), .i ((drillR tt (y + ((i : Nat) : Int)) (ix q i)).health), .ls 12940]
def never_frH43 (r : RuleV) (hs : List Int) (y : Int) (m : Int) (ys : Int) (tt : TreeV) (i : Nat) (q : List (List Spt)) : List (Nat × Option Cn) := [(2, some (never_frK4 r)), (3, some (.ro 1 hs.length (Lst eI hs))), (1004, some (never_frK7 r)), (1005, some (never_frK8 y m ys)), (1018, some (never_frK26 tt)), (1026, some (never_frK42 tt y i q)), (2001, some (never_frK27 tt)), (11440, some (.vec 57 1 q.length (LstL 2 eS q))), (12940, some (never_frK41 tt y i q))]
def never_frK44 (tt : TreeV) (y : Int) (i : Nat) (q : List (List Spt)) : Cn := .blk 26 [.i ((drillV tt (y + ((i : Nat) : Int)) (ix q i)).year), .i ((drillV tt (y + ((i : Nat) : Int)) (ix q i)).glo), .i ((drillV tt (y + ((i : Nat) : Int)) (ix q i)).ghi), .i ((drillV tt (y + ((i : Nat) : Int)) (ix q i)).wlo), .i ((drillV tt (y + ((i : Nat) : Int)) (ix q i)).whi), .i ((drillV tt (y + ((i : Nat) : Int)) (ix q i)).health), .ls 12940]
def never_frK45 (tt : TreeV) (y : Int) (i : Nat) (q : List (List Spt)) : Cn := .vec 74 3 (((drillV tt (y + ((i : Nat) : Int)) (ix q i)).holes).length) (Lst eH ((drillV tt (y + ((i : Nat) : Int)) (ix q i)).holes))
def never_frH46 (r : RuleV) (hs : List Int) (y : Int) (m : Int) (ys : Int) (tt : TreeV) (i : Nat) (q : List (List Spt)) : List (Nat × Option Cn) := [(2, some (never_frK4 r)), (3, some (.ro 1 hs.length (Lst eI hs))), (1004, some (never_frK7 r)), (1005, some (never_frK8 y m ys)), (1018, some (never_frK26 tt)), (1026, some (never_frK44 tt y i q)), (2001, some (never_frK27 tt)), (11440, some (.vec 57 1 q.length (LstL 2 eS q))), (12940, some (never_frK45 tt y i q))]
def never_frH47 (r : RuleV) (hs : List Int) (y : Int) (m : Int) (ys : Int) (tt : TreeV) (i : Nat) (q : List (List Spt)) : List (Nat × Option Cn) := [(2, some (never_frK4 r)), (3, some (.ro 1 hs.length (Lst eI hs))), (1004, some (never_frK7 r)), (1005, some (never_frK8 y m ys)), (1018, some (never_frK44 tt y i q)), (11440, some (.vec 57 1 q.length (LstL 2 eS q))), (12940, some (never_frK45 tt y i q))]
def never_frH48 (r : RuleV) (hs : List Int) (y : Int) (m : Int) (ys : Int) (tt : TreeV) : List (Nat × Option Cn) := [(2, some (never_frK4 r)), (3, some (.ro 1 hs.length (Lst eI hs))), (1004, some (never_frK7 r)), (1005, some (never_frK8 y m ys)), (1018, some (never_frK26 tt)), (2001, some (never_frK27 tt))]
def never_frA49 (tt : TreeV) : SV := .agg [.i tt.year, .i tt.glo, .i tt.ghi, .i tt.wlo, .i tt.whi, .i tt.health, .ls 13240]
def never_frA50 (r : RuleV) : SV := .agg [.i r.slo, .i r.shi, .i r.ulo, .i r.uhi, .i r.hlo, .i r.hhi, .i r.apart, .i r.blo, .i r.bhi, .ls 13260, .i r.n0, .i r.n1, .i r.n2, .i r.n3, .i r.n4, .i r.opn]
def never_frK51 (tt : TreeV) (r : RuleV) (y : Int) (q : List (List Spt)) (hs : List Int) (j : Nat) (m : Int) : Cn := .vec 72 2 ((spotsR tt r (y + ((q.length : Nat) : Int)) (ix hs j) m).length) (Lst eS (spotsR tt r (y + ((q.length : Nat) : Int)) (ix hs j) m))
def never_frH52 (r : RuleV) (hs : List Int) (y : Int) (m : Int) (ys : Int) (tt : TreeV) (q : List (List Spt)) (j : Nat) : List (Nat × Option Cn) := [(2, some (never_frK4 r)), (3, some (.ro 1 hs.length (Lst eI hs))), (1004, some (never_frK7 r)), (1005, some (never_frK8 y m ys)), (1018, some (never_frK26 tt)), (2001, some (never_frK27 tt)), (13380, some (never_frK51 tt r y q hs j m))]
def never_frK53 (tt : TreeV) (r : RuleV) (y : Int) (q : List (List Spt)) (hs : List Int) (j : Nat) (m : Int) : Cn := .vec 72 2 ((spotsL (openV tt r (y + ((q.length : Nat) : Int))) (ix hs j) m).length) (Lst eS (spotsL (openV tt r (y + ((q.length : Nat) : Int))) (ix hs j) m))
def never_frH54 (r : RuleV) (hs : List Int) (y : Int) (m : Int) (ys : Int) (tt : TreeV) (q : List (List Spt)) (j : Nat) : List (Nat × Option Cn) := [(2, some (never_frK4 r)), (3, some (.ro 1 hs.length (Lst eI hs))), (1004, some (never_frK7 r)), (1005, some (never_frK8 y m ys)), (1018, some (never_frK26 tt)), (2001, some (never_frK27 tt)), (13380, some (never_frK53 tt r y q hs j m))]
def never_frA55 (tt : TreeV) : SV := .agg [.i tt.year, .i tt.glo, .i tt.ghi, .i tt.wlo, .i tt.whi, .i tt.health, .ls 13510]
def never_frA56 (r : RuleV) : SV := .agg [.i r.slo, .i r.shi, .i r.ulo, .i r.uhi, .i r.hlo, .i r.hhi, .i r.apart, .i r.blo, .i r.bhi, .ls 13530, .i r.n0, .i r.n1, .i r.n2, .i r.n3, .i r.n4, .i r.opn]
set_option maxHeartbeats 16000000 in
set_option maxRecDepth 100000 in
theorem never_fr (t : TreeV) (r : RuleV) (y m : Int) (hs : List Int) (ys : Int) (ht : t.holes.length ≤ 9223372036854775807) (hr : r.sizes.length ≤ 9223372036854775807) (hl : hs.length ≤ 9223372036854775807) : CallFr Try.prog 12 [(never_frA1 t), (never_frA2 r), .agg [.i y, .i m, .ls 3, .i ys]] [1, 2, 3] [some (.ro 3 t.holes.length (Lst eH t.holes)), some (.ro 2 r.sizes.length (Lst eZ r.sizes)), some (.ro 1 hs.length (Lst eI hs))] (.b true) [] := by
 refine callFr_of (fn := Try.f12) (by kernel_rfl) rfl (by kernel_rfl) (by kernel_rfl) fun E => ?_
 refine aw_ent (T := ⟨370, [1, 2, 3], [(0, (never_frA1 t)), (1, (never_frA2 r)), (2, .agg [.i y, .i m, .ls 3, .i ys])], (never_frH5 t r hs)⟩) (Ent.refl _) ?_
 apply aw_seq
 refine awr [(0, .new 1003), (1, .new 1004), (2, .new 1005)]
  ⟨370, [1, 2, 3], [(3, .l (.ref 1003 0)), (4, .l (.ref 1004 0)), (5, .l (.ref 1005 0))], (never_frH9 t r hs y m ys)⟩
  [] trivial ?_
 apply aw_seq
 apply aw_seq
 rcases Bool.eq_false_or_eq_true (decide (startE t r y = 0)) with h1 | h1
 ·
  have hs0 : startE t r y = 0 := dtr h1
  have h2 : (!(decide (startE t r y = 0))) = false := by rw [h1] <;> rfl
  rcases Bool.eq_false_or_eq_true (decide (((hs.length : Nat) : Int) < 1)) with h3 | h3
  ·
   have h3p : ((hs.length : Nat) : Int) < 1 := dtr h3
   refine awr [(4, .call [1, 2] (.b (decide (startE t r y = 0))) []), (6, .dec false), (12, .dec true)]
    ⟨370, [1, 2, 3], [(3, .l (.ref 1003 0)), (4, .l (.ref 1004 0)), (5, .l (.ref 1005 0)), (76, .b true)], (never_frH9 t r hs y m ys)⟩
    [CallOK Try.prog 36 [(never_frA1 t), (never_frA2 r), .i y] [1, 2] [some (never_frK3 t), some (never_frK4 r)] (.b (decide (startE t r y = 0))) [], (!(decide (startE t r y = 0))) = false, decide (((hs.length : Nat) : Int) < 1) = true] (al2 (cfr (valid_fr t r y (by first | omega | assumption) (by first | omega | assumption)) [(1, 1), (2, 2)] (dem_cons rfl (le_ro rfl el_rfl) (dem_cons rfl (le_ro rfl el_rfl) dem_nil))) (al2 h2 (al1 h3))) ?_
   refine aw_true rfl ?_
   apply aw_seq
   refine awr [(0, .call [] (.b true) [])]
    ⟨370, [1, 2, 3], [(6, .b true)], []⟩
    [CallOK Try.prog 14 [] [] [] (.b true) []] (al1 (cfr (known_fr ) [] dem_nil)) ?_
   exact aw_ret (ret_then ⟨.inr rfl, eok ⟨370, [1, 2, 3], [(6, .b true)], []⟩
       (enr [] ⟨rfl, trivial⟩ trivial) wr_nil⟩)
  ·
   have h3p : 1 ≤ ((hs.length : Nat) : Int) := dlt h3
   rcases Bool.eq_false_or_eq_true (decide (5 < ((hs.length : Nat) : Int))) with h4 | h4
   ·
    have h4p : 5 < ((hs.length : Nat) : Int) := dtr h4
    refine awr [(4, .call [1, 2] (.b (decide (startE t r y = 0))) []), (6, .dec false), (12, .dec false), (18, .dec true)]
     ⟨370, [1, 2, 3], [(3, .l (.ref 1003 0)), (4, .l (.ref 1004 0)), (5, .l (.ref 1005 0)), (76, .b true)], (never_frH9 t r hs y m ys)⟩
     [CallOK Try.prog 36 [(never_frA1 t), (never_frA2 r), .i y] [1, 2] [some (never_frK3 t), some (never_frK4 r)] (.b (decide (startE t r y = 0))) [], (!(decide (startE t r y = 0))) = false, decide (((hs.length : Nat) : Int) < 1) = false, decide (5 < ((hs.length : Nat) : Int)) = true] (al2 (cfr (valid_fr t r y (by first | omega | assumption) (by first | omega | assumption)) [(1, 1), (2, 2)] (dem_cons rfl (le_ro rfl el_rfl) (dem_cons rfl (le_ro rfl el_rfl) dem_nil))) (al2 h2 (al2 h3 (al1 h4)))) ?_
    refine aw_true rfl ?_
    apply aw_seq
    refine awr [(0, .call [] (.b true) [])]
     ⟨370, [1, 2, 3], [(6, .b true)], []⟩
     [CallOK Try.prog 14 [] [] [] (.b true) []] (al1 (cfr (known_fr ) [] dem_nil)) ?_
    exact aw_ret (ret_then ⟨.inr rfl, eok ⟨370, [1, 2, 3], [(6, .b true)], []⟩
        (enr [] ⟨rfl, trivial⟩ trivial) wr_nil⟩)
   ·
    have h4p : ((hs.length : Nat) : Int) ≤ 5 := dlt h4
    rcases Bool.eq_false_or_eq_true (decide (ys < 0)) with h5 | h5
    ·
     have h5p : ys < 0 := dtr h5
     refine awr [(4, .call [1, 2] (.b (decide (startE t r y = 0))) []), (6, .dec false), (12, .dec false), (18, .dec false), (23, .dec true)]
      ⟨370, [1, 2, 3], [(3, .l (.ref 1003 0)), (4, .l (.ref 1004 0)), (5, .l (.ref 1005 0)), (76, .b true)], (never_frH9 t r hs y m ys)⟩
      [CallOK Try.prog 36 [(never_frA1 t), (never_frA2 r), .i y] [1, 2] [some (never_frK3 t), some (never_frK4 r)] (.b (decide (startE t r y = 0))) [], (!(decide (startE t r y = 0))) = false, decide (((hs.length : Nat) : Int) < 1) = false, decide (5 < ((hs.length : Nat) : Int)) = false, decide (ys < 0) = true] (al2 (cfr (valid_fr t r y (by first | omega | assumption) (by first | omega | assumption)) [(1, 1), (2, 2)] (dem_cons rfl (le_ro rfl el_rfl) (dem_cons rfl (le_ro rfl el_rfl) dem_nil))) (al2 h2 (al2 h3 (al2 h4 (al1 h5))))) ?_
     refine aw_true rfl ?_
     apply aw_seq
     refine awr [(0, .call [] (.b true) [])]
      ⟨370, [1, 2, 3], [(6, .b true)], []⟩
      [CallOK Try.prog 14 [] [] [] (.b true) []] (al1 (cfr (known_fr ) [] dem_nil)) ?_
     exact aw_ret (ret_then ⟨.inr rfl, eok ⟨370, [1, 2, 3], [(6, .b true)], []⟩
         (enr [] ⟨rfl, trivial⟩ trivial) wr_nil⟩)
    ·
     have h5p : 0 ≤ ys := dlt h5
     rcases Bool.eq_false_or_eq_true (decide (12 < ys)) with h6 | h6
     ·
      have h6p : 12 < ys := dtr h6
      refine awr [(4, .call [1, 2] (.b (decide (startE t r y = 0))) []), (6, .dec false), (12, .dec false), (18, .dec false), (23, .dec false), (28, .dec true)]
       ⟨370, [1, 2, 3], [(3, .l (.ref 1003 0)), (4, .l (.ref 1004 0)), (5, .l (.ref 1005 0)), (76, .b true)], (never_frH9 t r hs y m ys)⟩
       [CallOK Try.prog 36 [(never_frA1 t), (never_frA2 r), .i y] [1, 2] [some (never_frK3 t), some (never_frK4 r)] (.b (decide (startE t r y = 0))) [], (!(decide (startE t r y = 0))) = false, decide (((hs.length : Nat) : Int) < 1) = false, decide (5 < ((hs.length : Nat) : Int)) = false, decide (ys < 0) = false, decide (12 < ys) = true] (al2 (cfr (valid_fr t r y (by first | omega | assumption) (by first | omega | assumption)) [(1, 1), (2, 2)] (dem_cons rfl (le_ro rfl el_rfl) (dem_cons rfl (le_ro rfl el_rfl) dem_nil))) (al2 h2 (al2 h3 (al2 h4 (al2 h5 (al1 h6)))))) ?_
      refine aw_true rfl ?_
      apply aw_seq
      refine awr [(0, .call [] (.b true) [])]
       ⟨370, [1, 2, 3], [(6, .b true)], []⟩
       [CallOK Try.prog 14 [] [] [] (.b true) []] (al1 (cfr (known_fr ) [] dem_nil)) ?_
      exact aw_ret (ret_then ⟨.inr rfl, eok ⟨370, [1, 2, 3], [(6, .b true)], []⟩
          (enr [] ⟨rfl, trivial⟩ trivial) wr_nil⟩)
     ·
      have h6p : ys ≤ 12 := dlt h6
      rcases Bool.eq_false_or_eq_true (decide (9979 < y)) with h7 | h7
      ·
       have h7p : 9979 < y := dtr h7
       refine awr [(4, .call [1, 2] (.b (decide (startE t r y = 0))) []), (6, .dec false), (12, .dec false), (18, .dec false), (23, .dec false), (28, .dec false), (33, .dec true)]
        ⟨370, [1, 2, 3], [(3, .l (.ref 1003 0)), (4, .l (.ref 1004 0)), (5, .l (.ref 1005 0)), (76, .b true)], (never_frH9 t r hs y m ys)⟩
        [CallOK Try.prog 36 [(never_frA1 t), (never_frA2 r), .i y] [1, 2] [some (never_frK3 t), some (never_frK4 r)] (.b (decide (startE t r y = 0))) [], (!(decide (startE t r y = 0))) = false, decide (((hs.length : Nat) : Int) < 1) = false, decide (5 < ((hs.length : Nat) : Int)) = false, decide (ys < 0) = false, decide (12 < ys) = false, decide (9979 < y) = true] (al2 (cfr (valid_fr t r y (by first | omega | assumption) (by first | omega | assumption)) [(1, 1), (2, 2)] (dem_cons rfl (le_ro rfl el_rfl) (dem_cons rfl (le_ro rfl el_rfl) dem_nil))) (al2 h2 (al2 h3 (al2 h4 (al2 h5 (al2 h6 (al1 h7))))))) ?_
       refine aw_true rfl ?_
       apply aw_seq
       refine awr [(0, .call [] (.b true) [])]
        ⟨370, [1, 2, 3], [(6, .b true)], []⟩
        [CallOK Try.prog 14 [] [] [] (.b true) []] (al1 (cfr (known_fr ) [] dem_nil)) ?_
       exact aw_ret (ret_then ⟨.inr rfl, eok ⟨370, [1, 2, 3], [(6, .b true)], []⟩
           (enr [] ⟨rfl, trivial⟩ trivial) wr_nil⟩)
      ·
       have h7p : y ≤ 9979 := dlt h7
       rcases Bool.eq_false_or_eq_true (decide (m < 0)) with h8 | h8
       ·
        have h8p : m < 0 := dtr h8
        refine awr [(4, .call [1, 2] (.b (decide (startE t r y = 0))) []), (6, .dec false), (12, .dec false), (18, .dec false), (23, .dec false), (28, .dec false), (33, .dec false), (38, .dec true)]
         ⟨370, [1, 2, 3], [(3, .l (.ref 1003 0)), (4, .l (.ref 1004 0)), (5, .l (.ref 1005 0)), (76, .b true)], (never_frH9 t r hs y m ys)⟩
         [CallOK Try.prog 36 [(never_frA1 t), (never_frA2 r), .i y] [1, 2] [some (never_frK3 t), some (never_frK4 r)] (.b (decide (startE t r y = 0))) [], (!(decide (startE t r y = 0))) = false, decide (((hs.length : Nat) : Int) < 1) = false, decide (5 < ((hs.length : Nat) : Int)) = false, decide (ys < 0) = false, decide (12 < ys) = false, decide (9979 < y) = false, decide (m < 0) = true] (al2 (cfr (valid_fr t r y (by first | omega | assumption) (by first | omega | assumption)) [(1, 1), (2, 2)] (dem_cons rfl (le_ro rfl el_rfl) (dem_cons rfl (le_ro rfl el_rfl) dem_nil))) (al2 h2 (al2 h3 (al2 h4 (al2 h5 (al2 h6 (al2 h7 (al1 h8)))))))) ?_
        refine aw_true rfl ?_
        apply aw_seq
        refine awr [(0, .call [] (.b true) [])]
         ⟨370, [1, 2, 3], [(6, .b true)], []⟩
         [CallOK Try.prog 14 [] [] [] (.b true) []] (al1 (cfr (known_fr ) [] dem_nil)) ?_
        exact aw_ret (ret_then ⟨.inr rfl, eok ⟨370, [1, 2, 3], [(6, .b true)], []⟩
            (enr [] ⟨rfl, trivial⟩ trivial) wr_nil⟩)
       ·
        have h8p : 0 ≤ m := dlt h8
        refine awr [(4, .call [1, 2] (.b (decide (startE t r y = 0))) []), (6, .dec false), (12, .dec false), (18, .dec false), (23, .dec false), (28, .dec false), (33, .dec false), (38, .dec false)]
         ⟨370, [1, 2, 3], [(3, .l (.ref 1003 0)), (4, .l (.ref 1004 0)), (5, .l (.ref 1005 0)), (76, .b (decide (20 < m)))], (never_frH9 t r hs y m ys)⟩
         [CallOK Try.prog 36 [(never_frA1 t), (never_frA2 r), .i y] [1, 2] [some (never_frK3 t), some (never_frK4 r)] (.b (decide (startE t r y = 0))) [], (!(decide (startE t r y = 0))) = false, decide (((hs.length : Nat) : Int) < 1) = false, decide (5 < ((hs.length : Nat) : Int)) = false, decide (ys < 0) = false, decide (12 < ys) = false, decide (9979 < y) = false, decide (m < 0) = false] (al2 (cfr (valid_fr t r y (by first | omega | assumption) (by first | omega | assumption)) [(1, 1), (2, 2)] (dem_cons rfl (le_ro rfl el_rfl) (dem_cons rfl (le_ro rfl el_rfl) dem_nil))) (al2 h2 (al2 h3 (al2 h4 (al2 h5 (al2 h6 (al2 h7 (al1 h8)))))))) ?_
        refine aw_cond (b := decide (20 < m)) rfl (fun h9 => ?_) (fun h9 => ?_)
        ·
         have h9p : 20 < m := dtr h9
         apply aw_seq
         refine awr [(0, .call [] (.b true) [])]
          ⟨370, [1, 2, 3], [(6, .b true)], []⟩
          [CallOK Try.prog 14 [] [] [] (.b true) []] (al1 (cfr (known_fr ) [] dem_nil)) ?_
         exact aw_ret (ret_then ⟨.inr rfl, eok ⟨370, [1, 2, 3], [(6, .b true)], []⟩
             (enr [] ⟨rfl, trivial⟩ trivial) wr_nil⟩)
        ·
         have h9p : m ≤ 20 := dlt h9
         apply aw_skip
         apply aw_seq
         obtain ⟨j1, j2, j3⟩ := startE_0.1 hs0
         have n1 := j1.len
         have n2 := j2.len
         have hyr := j1.year
         have hl5 : hs.length ≤ 5 := by omega
         have hm20 : 0 ≤ m ∧ m ≤ 20 := by omega
         have hys : 0 ≤ ys ∧ ys ≤ 12 := by omega
         have hy79 : y ≤ 9979 := by omega
         refine awd [(1, .call [1] ((never_frA10 t)) [(10800, some (never_frK11 t))]), (3, .call [2] ((never_frA12 r)) [(10820, some (never_frK13 r))]), (8, .new 1087), (11, .lst 1090 hs.length (Lst eI hs)), (14, .call [10800, 10820, 1090] (.tup [.one (.ls 10930), .one (.i ((rotR t r y m hs ys).2.1)), .one (.i ((rotR t r y m hs ys).2.2))]) [(10800, none), (10820, none), (1090, none), (10930, some (never_frK14 t r y m hs ys))])]
          ⟨370, [1, 2, 3], [(3, .l (.ref 1003 0)), (4, .l (.ref 1004 0)), (5, .l (.ref 1005 0)), (7, .ls 10930), (8, .i ((rotR t r y m hs ys).2.1)), (9, .i ((rotR t r y m hs ys).2.2))], (never_frH15 t r hs y m ys)⟩
          [CallOK Try.prog 15 [(never_frA1 t)] [1] [some (never_frK3 t)] ((never_frA10 t)) [(10800, some (never_frK11 t))], CallOK Try.prog 16 [(never_frA2 r)] [2] [some (never_frK4 r)] ((never_frA12 r)) [(10820, some (never_frK13 r))], 0 + hs.length ≤ 1000000000000, (0 + hs.length) * 8 ≤ 140737488355328, AppOk 1 0 hs.length (exEl 1 []) (Lst eI hs) hs.length (Lst eI hs), CallOK Try.prog 49 [(never_frA10 t), (never_frA12 r), .i y, .i m, .ls 1090, .i ys] [10800, 10820, 1090] [some (never_frK11 t), some (never_frK13 r), some (.vec 3 1 hs.length (Lst eI hs))] (.tup [.one (.ls 10930), .one (.i ((rotR t r y m hs ys).2.1)), .one (.i ((rotR t r y m hs ys).2.2))]) [(10800, none), (10820, none), (1090, none), (10930, some (never_frK14 t r y m hs ys))]] (al2 (cfr (own_fr t (by first | omega | (simp; done) | assumption)) [(1, 1), (2, 10800)] (dem_cons rfl (le_ro rfl el_rfl) dem_nil)) (al2 (cfr (tapsc_fr r (by first | omega | (simp; done) | assumption)) [(1, 2), (2, 10820)] (dem_cons rfl (le_ro rfl el_rfl) dem_nil)) (al2 (by omega) (al2 (by omega) (al2 (app_nil (by first | omega | rfl | assumption)) (al1 (cfs (Rota_fr t r y (by first | omega | (simp; done) | assumption) (by first | omega | (simp; done) | assumption) m hs ys (by omega)) [(1, 10800), (2, 10820), (3, 1090), (9, 10930)] (dem_cons rfl (le_vec rfl el_rfl) (dem_cons rfl (le_vec rfl el_rfl) (dem_cons rfl (le_vec rfl el_rfl) dem_nil)))))))))) ?_
         apply aw_seq
         apply aw_seq
         refine awr []
          ⟨370, [1, 2, 3], [(3, .l (.ref 1003 0)), (4, .l (.ref 1004 0)), (5, .l (.ref 1005 0)), (7, .ls 10930), (8, .i ((rotR t r y m hs ys).2.1)), (9, .i ((rotR t r y m hs ys).2.2)), (98, .b (decide ((rotR t r y m hs ys).2.2 = 3)))], (never_frH15 t r hs y m ys)⟩
          [] trivial ?_
         refine aw_cond (b := decide ((rotR t r y m hs ys).2.2 = 3)) rfl (fun h10 => ?_) (fun h10 => ?_)
         ·
          have h10p : (rotR t r y m hs ys).2.2 = 3 := dtr h10
          apply aw_seq
          have hR0 := rot_3 hs0 hl5 hm20 hys hy79 (by assumption)
          have h11 : (decide (((((rotR t r y m hs ys).1).length : Nat) : Int) = 0)) = true := by exact decide_eq_true (by rw [hR0]; rfl)
          refine awr [(3, .dec true), (4, .call [] (.b true) [])]
           ⟨370, [1, 2, 3], [(6, .b true)], []⟩
           [decide (((((rotR t r y m hs ys).1).length : Nat) : Int) = 0) = true, CallOK Try.prog 14 [] [] [] (.b true) []] (al2 h11 (al1 (cfr (known_fr ) [] dem_nil))) ?_
          exact aw_ret (ret_then ⟨.inr rfl, eok ⟨370, [1, 2, 3], [(6, .b true)], []⟩
              (enr [] ⟨rfl, trivial⟩ trivial) wr_nil⟩)
         ·
          have h10p : (rotR t r y m hs ys).2.2 ≠ 3 := deq h10
          apply aw_skip
          apply aw_seq
          have hE0 := rot_not3 hs0 hl5 hm20 hys hy79 (by assumption)
          obtain ⟨q, ⟨hP, hqy, hRq⟩, hcase⟩ := rot_main hs0 hl5 hm20 hys hy79 hE0
          have hcase : RotCase t r y m ys hs q := hcase
          refine awr []
           ⟨370, [1, 2, 3], [(3, .l (.ref 1003 0)), (4, .l (.ref 1004 0)), (5, .l (.ref 1005 0)), (7, .ls 10930), (8, .i ((rotR t r y m hs ys).2.1)), (9, .i ((rotR t r y m hs ys).2.2)), (10, .i ys)], (never_frH15 t r hs y m ys)⟩
           [] trivial ?_
          refine aw_seqJ ⟨370, [1, 2, 3], [(3, .l (.ref 1003 0)), (4, .l (.ref 1004 0)), (5, .l (.ref 1005 0)), (7, .ls 11440), (8, .i ((rotR t r y m hs ys).2.1)), (9, .i ((rotR t r y m hs ys).2.2)), (10, .i ((q.length : Nat) : Int))], (never_frH20 t r hs y m ys q)⟩ ?_ ?_
          ·
           apply aw_seq
           refine awr []
            ⟨370, [1, 2, 3], [(3, .l (.ref 1003 0)), (4, .l (.ref 1004 0)), (5, .l (.ref 1005 0)), (7, .ls 10930), (8, .i ((rotR t r y m hs ys).2.1)), (9, .i ((rotR t r y m hs ys).2.2)), (10, .i ys), (108, .b (decide ((rotR t r y m hs ys).2.2 ≠ 0)))], (never_frH15 t r hs y m ys)⟩
            [] trivial ?_
           refine aw_cond (b := decide ((rotR t r y m hs ys).2.2 ≠ 0)) rfl (fun h12 => ?_) (fun h12 => ?_)
           ·
            have h12p : (rotR t r y m hs ys).2.2 ≠ 0 := dtr h12
            apply aw_seq
            apply aw_seq
            have hc2 := rot_c2 hcase (by assumption)
            rcases Bool.eq_false_or_eq_true (decide ((rotR t r y m hs ys).2.2 ≠ 7)) with h13 | h13
            ·
             have h13p : (rotR t r y m hs ys).2.2 ≠ 7 := dtr h13
             have h14 : (decide ((rotR t r y m hs ys).2.2 ≠ 8)) = false := by exact decide_eq_false (by omega)
             have h15 : (decide ((rotR t r y m hs ys).2.1 < 0)) = false := by exact decide_eq_false (by omega)
             have h16 : (decide (ys ≤ (rotR t r y m hs ys).2.1)) = false := by exact decide_eq_false (by omega)
             refine awr [(2, .dec true), (6, .dec false), (10, .dec false), (16, .dec false)]
              ⟨370, [1, 2, 3], [(3, .l (.ref 1003 0)), (4, .l (.ref 1004 0)), (5, .l (.ref 1005 0)), (8, .i ((rotR t r y m hs ys).2.1)), (9, .i ((rotR t r y m hs ys).2.2)), (129, .b (decide (((((rotR t r y m hs ys).1).length : Nat) : Int) ≠ 0)))], (never_frH9 t r hs y m ys)⟩
              [decide ((rotR t r y m hs ys).2.2 ≠ 7) = true, decide ((rotR t r y m hs ys).2.2 ≠ 8) = false, decide ((rotR t r y m hs ys).2.1 < 0) = false, decide (ys ≤ (rotR t r y m hs ys).2.1) = false] (al2 h13 (al2 h14 (al2 h15 (al1 h16)))) ?_
             have h17 : (decide (((((rotR t r y m hs ys).1).length : Nat) : Int) ≠ 0)) = false := by exact decide_eq_false (by omega)
             refine aw_cond (b := decide (((((rotR t r y m hs ys).1).length : Nat) : Int) ≠ 0)) rfl (fun h => Bool.noConfusion (h17.symm.trans h)) (fun _ => ?_)
             apply aw_skip
             apply aw_seq
             refine aw_ent (T := ⟨370, [1, 2, 3], [(3, .l (.ref 1003 0)), (4, .l (.ref 1004 0)), (5, .l (.ref 1005 0)), (8, .i ((q.length : Nat) : Int)), (9, .i ((rotR t r y m hs ys).2.2)), (129, .b (decide (((((rotR t r y m hs ys).1).length : Nat) : Int) ≠ 0)))], (never_frH9 t r hs y m ys)⟩)
                 (enr [] ⟨rfl, rfl, rfl, (slot_i rfl (by first | rfl | omega | assumption | (omega))), rfl, rfl, trivial⟩ (cro rfl (cro rfl (cro rfl (cbl rfl rfl (cbl rfl rfl (cbl rfl rfl trivial))))))) ?_
             refine awd [(1, .call [1] ((never_frA16 t)) [(11320, some (never_frK11 t))]), (3, .call [2] ((never_frA17 r)) [(11340, some (never_frK13 r))]), (8, .new 1139), (11, .lst 1142 hs.length (Lst eI hs)), (13, .call [11320, 11340, 1142] (.tup [.one (.ls 11440), .one (.i ((rotR t r y m hs ((q.length : Nat) : Int)).2.1)), .one (.i ((rotR t r y m hs ((q.length : Nat) : Int)).2.2))]) [(11320, none), (11340, none), (1142, none), (11440, some (never_frK18 t r y m hs q))])]
              ⟨370, [1, 2, 3], [(3, .l (.ref 1003 0)), (4, .l (.ref 1004 0)), (5, .l (.ref 1005 0)), (8, .i ((q.length : Nat) : Int)), (9, .i ((rotR t r y m hs ys).2.2)), (11, .ls 11440), (13, .i ((rotR t r y m hs ((q.length : Nat) : Int)).2.2))], (never_frH19 t r hs y m ys q)⟩
              [CallOK Try.prog 15 [(never_frA1 t)] [1] [some (never_frK3 t)] ((never_frA16 t)) [(11320, some (never_frK11 t))], CallOK Try.prog 16 [(never_frA2 r)] [2] [some (never_frK4 r)] ((never_frA17 r)) [(11340, some (never_frK13 r))], 0 + hs.length ≤ 1000000000000, (0 + hs.length) * 8 ≤ 140737488355328, AppOk 1 0 hs.length (exEl 1 []) (Lst eI hs) hs.length (Lst eI hs), CallOK Try.prog 49 [(never_frA16 t), (never_frA17 r), .i y, .i m, .ls 1142, .i ((q.length : Nat) : Int)] [11320, 11340, 1142] [some (never_frK11 t), some (never_frK13 r), some (.vec 3 1 hs.length (Lst eI hs))] (.tup [.one (.ls 11440), .one (.i ((rotR t r y m hs ((q.length : Nat) : Int)).2.1)), .one (.i ((rotR t r y m hs ((q.length : Nat) : Int)).2.2))]) [(11320, none), (11340, none), (1142, none), (11440, some (never_frK18 t r y m hs q))]] (al2 (cfr (own_fr t (by first | omega | (simp; done) | assumption)) [(1, 1), (2, 11320)] (dem_cons rfl (le_ro rfl el_rfl) dem_nil)) (al2 (cfr (tapsc_fr r (by first | omega | (simp; done) | assumption)) [(1, 2), (2, 11340)] (dem_cons rfl (le_ro rfl el_rfl) dem_nil)) (al2 (by omega) (al2 (by omega) (al2 (app_nil (by first | omega | rfl | assumption)) (al1 (cfs (Rota_fr t r y (by first | omega | (simp; done) | assumption) (by first | omega | (simp; done) | assumption) m hs ((q.length : Nat) : Int) (by omega)) [(1, 11320), (2, 11340), (3, 1142), (9, 11440)] (dem_cons rfl (le_vec rfl el_rfl) (dem_cons rfl (le_vec rfl el_rfl) (dem_cons rfl (le_vec rfl el_rfl) dem_nil)))))))))) ?_
             apply aw_seq
             apply aw_seq
             refine awr []
              ⟨370, [1, 2, 3], [(3, .l (.ref 1003 0)), (4, .l (.ref 1004 0)), (5, .l (.ref 1005 0)), (8, .i ((q.length : Nat) : Int)), (9, .i ((rotR t r y m hs ys).2.2)), (11, .ls 11440), (149, .b (decide ((rotR t r y m hs ((q.length : Nat) : Int)).2.2 ≠ 0)))], (never_frH19 t r hs y m ys q)⟩
              [] trivial ?_
             have h18 : (decide ((rotR t r y m hs ((q.length : Nat) : Int)).2.2 ≠ 0)) = false := by exact decide_eq_false (by first | (rw [hRq]; exact fun h => h rfl))
             refine aw_cond (b := decide ((rotR t r y m hs ((q.length : Nat) : Int)).2.2 ≠ 0)) rfl (fun h => Bool.noConfusion (h18.symm.trans h)) (fun _ => ?_)
             apply aw_skip
             refine awr []
              ⟨370, [1, 2, 3], [(3, .l (.ref 1003 0)), (4, .l (.ref 1004 0)), (5, .l (.ref 1005 0)), (7, .ls 11440), (8, .i ((q.length : Nat) : Int)), (9, .i ((rotR t r y m hs ys).2.2)), (10, .i ((q.length : Nat) : Int))], (never_frH19 t r hs y m ys q)⟩
              [] trivial ?_
             have hc2 := rot_c2 hcase (by omega)
             exact (enr [] ⟨rfl, rfl, rfl, rfl, (slot_i rfl (by first | rfl | omega | assumption | (rw [hRa]; done) | (rw [hRq]; done) | (rw [hRa]; rfl) | (rw [hRq]; rfl))), rfl, rfl, trivial⟩ (cro rfl (cro rfl (cro rfl (cbl rfl rfl (cbl rfl rfl (cbl rfl rfl (conts_cons rfl (le_vec (by first | rfl | omega | assumption | (rw [hRa]; done) | (rw [hRq]; done) | (rw [hRa]; rfl) | (rw [hRq]; rfl)) (lstL_eq (by first | rfl | omega | assumption | (rw [hRa]; done) | (rw [hRq]; done) | (rw [hRa]; rfl) | (rw [hRq]; rfl)))) trivial))))))))
            ·
             have h13p : (rotR t r y m hs ys).2.2 = 7 := dne h13
             have h19 : (decide ((rotR t r y m hs ys).2.1 < 0)) = false := by exact decide_eq_false (by omega)
             have h20 : (decide (ys ≤ (rotR t r y m hs ys).2.1)) = false := by exact decide_eq_false (by omega)
             refine awr [(2, .dec false), (10, .dec false), (16, .dec false)]
              ⟨370, [1, 2, 3], [(3, .l (.ref 1003 0)), (4, .l (.ref 1004 0)), (5, .l (.ref 1005 0)), (8, .i ((rotR t r y m hs ys).2.1)), (9, .i ((rotR t r y m hs ys).2.2)), (129, .b (decide (((((rotR t r y m hs ys).1).length : Nat) : Int) ≠ 0)))], (never_frH9 t r hs y m ys)⟩
              [decide ((rotR t r y m hs ys).2.2 ≠ 7) = false, decide ((rotR t r y m hs ys).2.1 < 0) = false, decide (ys ≤ (rotR t r y m hs ys).2.1) = false] (al2 h13 (al2 h19 (al1 h20))) ?_
             have h21 : (decide (((((rotR t r y m hs ys).1).length : Nat) : Int) ≠ 0)) = false := by exact decide_eq_false (by omega)
             refine aw_cond (b := decide (((((rotR t r y m hs ys).1).length : Nat) : Int) ≠ 0)) rfl (fun h => Bool.noConfusion (h21.symm.trans h)) (fun _ => ?_)
             apply aw_skip
             apply aw_seq
             refine aw_ent (T := ⟨370, [1, 2, 3], [(3, .l (.ref 1003 0)), (4, .l (.ref 1004 0)), (5, .l (.ref 1005 0)), (8, .i ((q.length : Nat) : Int)), (9, .i ((rotR t r y m hs ys).2.2)), (129, .b (decide (((((rotR t r y m hs ys).1).length : Nat) : Int) ≠ 0)))], (never_frH9 t r hs y m ys)⟩)
                 (enr [] ⟨rfl, rfl, rfl, (slot_i rfl (by first | rfl | omega | assumption | (omega))), rfl, rfl, trivial⟩ (cro rfl (cro rfl (cro rfl (cbl rfl rfl (cbl rfl rfl (cbl rfl rfl trivial))))))) ?_
             refine awd [(1, .call [1] ((never_frA16 t)) [(11320, some (never_frK11 t))]), (3, .call [2] ((never_frA17 r)) [(11340, some (never_frK13 r))]), (8, .new 1139), (11, .lst 1142 hs.length (Lst eI hs)), (13, .call [11320, 11340, 1142] (.tup [.one (.ls 11440), .one (.i ((rotR t r y m hs ((q.length : Nat) : Int)).2.1)), .one (.i ((rotR t r y m hs ((q.length : Nat) : Int)).2.2))]) [(11320, none), (11340, none), (1142, none), (11440, some (never_frK18 t r y m hs q))])]
              ⟨370, [1, 2, 3], [(3, .l (.ref 1003 0)), (4, .l (.ref 1004 0)), (5, .l (.ref 1005 0)), (8, .i ((q.length : Nat) : Int)), (9, .i ((rotR t r y m hs ys).2.2)), (11, .ls 11440), (13, .i ((rotR t r y m hs ((q.length : Nat) : Int)).2.2))], (never_frH19 t r hs y m ys q)⟩
              [CallOK Try.prog 15 [(never_frA1 t)] [1] [some (never_frK3 t)] ((never_frA16 t)) [(11320, some (never_frK11 t))], CallOK Try.prog 16 [(never_frA2 r)] [2] [some (never_frK4 r)] ((never_frA17 r)) [(11340, some (never_frK13 r))], 0 + hs.length ≤ 1000000000000, (0 + hs.length) * 8 ≤ 140737488355328, AppOk 1 0 hs.length (exEl 1 []) (Lst eI hs) hs.length (Lst eI hs), CallOK Try.prog 49 [(never_frA16 t), (never_frA17 r), .i y, .i m, .ls 1142, .i ((q.length : Nat) : Int)] [11320, 11340, 1142] [some (never_frK11 t), some (never_frK13 r), some (.vec 3 1 hs.length (Lst eI hs))] (.tup [.one (.ls 11440), .one (.i ((rotR t r y m hs ((q.length : Nat) : Int)).2.1)), .one (.i ((rotR t r y m hs ((q.length : Nat) : Int)).2.2))]) [(11320, none), (11340, none), (1142, none), (11440, some (never_frK18 t r y m hs q))]] (al2 (cfr (own_fr t (by first | omega | (simp; done) | assumption)) [(1, 1), (2, 11320)] (dem_cons rfl (le_ro rfl el_rfl) dem_nil)) (al2 (cfr (tapsc_fr r (by first | omega | (simp; done) | assumption)) [(1, 2), (2, 11340)] (dem_cons rfl (le_ro rfl el_rfl) dem_nil)) (al2 (by omega) (al2 (by omega) (al2 (app_nil (by first | omega | rfl | assumption)) (al1 (cfs (Rota_fr t r y (by first | omega | (simp; done) | assumption) (by first | omega | (simp; done) | assumption) m hs ((q.length : Nat) : Int) (by omega)) [(1, 11320), (2, 11340), (3, 1142), (9, 11440)] (dem_cons rfl (le_vec rfl el_rfl) (dem_cons rfl (le_vec rfl el_rfl) (dem_cons rfl (le_vec rfl el_rfl) dem_nil)))))))))) ?_
             apply aw_seq
             apply aw_seq
             refine awr []
              ⟨370, [1, 2, 3], [(3, .l (.ref 1003 0)), (4, .l (.ref 1004 0)), (5, .l (.ref 1005 0)), (8, .i ((q.length : Nat) : Int)), (9, .i ((rotR t r y m hs ys).2.2)), (11, .ls 11440), (149, .b (decide ((rotR t r y m hs ((q.length : Nat) : Int)).2.2 ≠ 0)))], (never_frH19 t r hs y m ys q)⟩
              [] trivial ?_
             have h22 : (decide ((rotR t r y m hs ((q.length : Nat) : Int)).2.2 ≠ 0)) = false := by exact decide_eq_false (by first | (rw [hRq]; exact fun h => h rfl))
             refine aw_cond (b := decide ((rotR t r y m hs ((q.length : Nat) : Int)).2.2 ≠ 0)) rfl (fun h => Bool.noConfusion (h22.symm.trans h)) (fun _ => ?_)
             apply aw_skip
             refine awr []
              ⟨370, [1, 2, 3], [(3, .l (.ref 1003 0)), (4, .l (.ref 1004 0)), (5, .l (.ref 1005 0)), (7, .ls 11440), (8, .i ((q.length : Nat) : Int)), (9, .i ((rotR t r y m hs ys).2.2)), (10, .i ((q.length : Nat) : Int))], (never_frH19 t r hs y m ys q)⟩
              [] trivial ?_
             have hc2 := rot_c2 hcase (by omega)
             exact (enr [] ⟨rfl, rfl, rfl, rfl, (slot_i rfl (by first | rfl | omega | assumption | (rw [hRa]; done) | (rw [hRq]; done) | (rw [hRa]; rfl) | (rw [hRq]; rfl))), rfl, rfl, trivial⟩ (cro rfl (cro rfl (cro rfl (cbl rfl rfl (cbl rfl rfl (cbl rfl rfl (conts_cons rfl (le_vec (by first | rfl | omega | assumption | (rw [hRa]; done) | (rw [hRq]; done) | (rw [hRa]; rfl) | (rw [hRq]; rfl)) (lstL_eq (by first | rfl | omega | assumption | (rw [hRa]; done) | (rw [hRq]; done) | (rw [hRa]; rfl) | (rw [hRq]; rfl)))) trivial))))))))
           ·
            have h12p : (rotR t r y m hs ys).2.2 = 0 := dne h12
            apply aw_skip
            obtain ⟨hRa, hqs⟩ := rot_c1 hcase (by omega)
            exact (enr [(11440, 10930)] ⟨rfl, rfl, rfl, rfl, rfl, rfl, (slot_i rfl (by first | rfl | omega | assumption | (rw [hRa]; done) | (rw [hRq]; done) | (rw [hRa]; rfl) | (rw [hRq]; rfl))), trivial⟩ (cro rfl (cro rfl (cro rfl (cbl rfl rfl (cbl rfl rfl (cbl rfl rfl (conts_cons rfl (le_vec (by first | rfl | omega | assumption | (rw [hRa]; done) | (rw [hRq]; done) | (rw [hRa]; rfl) | (rw [hRq]; rfl)) (lstL_eq (by first | rfl | omega | assumption | (rw [hRa]; done) | (rw [hRq]; done) | (rw [hRa]; rfl) | (rw [hRq]; rfl)))) trivial))))))))
          ·
           apply aw_seq
           obtain ⟨hver, hsh20⟩ := plan_ver hs0 hm20.2 (by omega) (by omega) hP
           have hsh : shortP 1000 q := fun l hl => by have := hsh20 l hl; omega
           refine awd [(1, .call [1] ((never_frA21 t)) [(11540, some (never_frK11 t))]), (3, .call [2] ((never_frA22 r)) [(11560, some (never_frK13 r))]), (7, .call [11540, 11560, 11440] (.tup [.one (.i ((verR t r y q).1)), .one (.i ((verR t r y q).2.1)), .one (.i ((verR t r y q).2.2.1)), .one (.i ((verR t r y q).2.2.2))]) [])]
            ⟨370, [1, 2, 3], [(3, .l (.ref 1003 0)), (4, .l (.ref 1004 0)), (5, .l (.ref 1005 0)), (7, .ls 11440), (8, .i ((rotR t r y m hs ys).2.1)), (9, .i ((rotR t r y m hs ys).2.2)), (10, .i ((q.length : Nat) : Int)), (14, .i ((verR t r y q).1)), (15, .i ((verR t r y q).2.1)), (16, .i ((verR t r y q).2.2.1)), (17, .i ((verR t r y q).2.2.2))], (never_frH20 t r hs y m ys q)⟩
            [CallOK Try.prog 15 [(never_frA1 t)] [1] [some (never_frK3 t)] ((never_frA21 t)) [(11540, some (never_frK11 t))], CallOK Try.prog 16 [(never_frA2 r)] [2] [some (never_frK4 r)] ((never_frA22 r)) [(11560, some (never_frK13 r))], CallOK Try.prog 51 [(never_frA21 t), (never_frA22 r), .i y, .ls 11440] [11540, 11560, 11440] [some (never_frK11 t), some (never_frK13 r), some (.vec 57 1 q.length (LstL 2 eS q))] (.tup [.one (.i ((verR t r y q).1)), .one (.i ((verR t r y q).2.1)), .one (.i ((verR t r y q).2.2.1)), .one (.i ((verR t r y q).2.2.2))]) []] (al2 (cfr (own_fr t (by first | omega | (simp; done) | assumption)) [(1, 1), (2, 11540)] (dem_cons rfl (le_ro rfl el_rfl) dem_nil)) (al2 (cfr (tapsc_fr r (by first | omega | (simp; done) | assumption)) [(1, 2), (2, 11560)] (dem_cons rfl (le_ro rfl el_rfl) dem_nil)) (al1 (cfr (Verify_fr t r y (by first | omega | (simp; done) | assumption) (by first | omega | (simp; done) | assumption) q (by omega) (by assumption)) [(1, 11540), (2, 11560), (3, 11440)] (dem_cons rfl (le_vec_ro rfl el_rfl) (dem_cons rfl (le_vec_ro rfl el_rfl) (dem_cons rfl (le_vec_ro rfl el_rfl) dem_nil))))))) ?_
           apply aw_seq
           apply aw_seq
           have h23 : (decide (((q.length : Nat) : Int) ≠ ((q.length : Nat) : Int))) = false := by simp
           have h24 : (decide ((verR t r y q).2.2.2 ≠ 0)) = false := by exact decide_eq_false (by first | (rw [hver]; decide) | (omega))
           have h25 : (decide ((verR t r y q).1 ≠ (-1))) = false := by exact decide_eq_false (by first | (rw [hver]; decide) | (omega))
           have h26 : (decide ((verR t r y q).2.1 ≠ 0)) = false := by exact decide_eq_false (by first | (rw [hver]; decide) | (omega))
           refine awr [(4, .dec false), (8, .dec false), (12, .dec false), (16, .dec false)]
            ⟨370, [1, 2, 3], [(3, .l (.ref 1003 0)), (4, .l (.ref 1004 0)), (5, .l (.ref 1005 0)), (7, .ls 11440), (8, .i ((rotR t r y m hs ys).2.1)), (9, .i ((rotR t r y m hs ys).2.2)), (184, .b (decide ((verR t r y q).2.2.1 ≠ 0)))], (never_frH20 t r hs y m ys q)⟩
            [decide (((q.length : Nat) : Int) ≠ ((q.length : Nat) : Int)) = false, decide ((verR t r y q).2.2.2 ≠ 0) = false, decide ((verR t r y q).1 ≠ (-1)) = false, decide ((verR t r y q).2.1 ≠ 0) = false] (al2 h23 (al2 h24 (al2 h25 (al1 h26)))) ?_
           have h27 : (decide ((verR t r y q).2.2.1 ≠ 0)) = false := by exact decide_eq_false (by first | (rw [hver]; decide) | (omega))
           refine aw_cond (b := decide ((verR t r y q).2.2.1 ≠ 0)) rfl (fun h => Bool.noConfusion (h27.symm.trans h)) (fun _ => ?_)
           apply aw_skip
           apply aw_seq
           refine awr [(1, .call [1] ((never_frA23 t)) [(11860, some (never_frK11 t))]), (2, .new 1018)]
            ⟨370, [1, 2, 3], [(4, .l (.ref 1004 0)), (5, .l (.ref 1005 0)), (7, .ls 11440), (8, .i ((rotR t r y m hs ys).2.1)), (9, .i ((rotR t r y m hs ys).2.2)), (18, .l (.ref 1018 0))], (never_frH25 r hs y m ys t q)⟩
            [CallOK Try.prog 15 [(never_frA1 t)] [1] [some (never_frK3 t)] ((never_frA23 t)) [(11860, some (never_frK11 t))]] (al1 (cfr (own_fr t (by first | omega | (simp; done) | assumption)) [(1, 1), (2, 11860)] (dem_cons rfl (le_ro rfl el_rfl) dem_nil))) ?_
           apply aw_seq
           apply aw_seq
           refine awr []
            ⟨370, [1, 2, 3], [(4, .l (.ref 1004 0)), (5, .l (.ref 1005 0)), (7, .ls 11440), (8, .i ((rotR t r y m hs ys).2.1)), (9, .i ((rotR t r y m hs ys).2.2)), (18, .l (.ref 1018 0)), (19, .i 0)], (never_frH25 r hs y m ys t q)⟩
            [] trivial ?_
           apply aw_block
           refine aw_loop (ι := Nat × TreeV) (fun zz => ⟨370, [1, 2, 3], [(4, .l (.ref 1004 0)), (5, .l (.ref 1005 0)), (7, .ls 11440), (8, .i ((rotR t r y m hs ys).2.1)), (9, .i ((rotR t r y m hs ys).2.2)), (18, .l (.ref 1018 0)), (19, .i ((zz.1 : Nat) : Int))], (never_frH28 r hs y m ys zz.2 q)⟩) (fun zz => (zz.1 ≤ q.length) ∧ (PlanOk r m y zz.2 zz.1 (q.drop zz.1)) ∧ (afterT y zz.2 zz.1 (q.drop zz.1) = afterT y t 0 q) ∧ (zz.2.holes.length ≤ 60)) (fun zz => q.length - zz.1) (0, t) ⟨(by (try dsimp only); first | omega | rfl | assumption | (simp; done)), (by (try dsimp only); exact hP), (by (try dsimp only); rfl), (by (try dsimp only); first | omega | rfl | assumption | (simp; done))⟩
               (enr [(2001, 11860)] ⟨rfl, rfl, rfl, rfl, rfl, rfl, rfl, trivial⟩ (cro rfl (cro rfl (cbl rfl rfl (cbl rfl rfl (cbl rfl rfl (cvr rfl (cve rfl trivial)))))))) fun zz hp => ?_
           obtain ⟨i, tt⟩ := zz
           obtain ⟨hiL, hPi, hrun, hlt⟩ := hp
           dsimp only at hiL hPi hrun hlt
           show AW _ E _ _ ⟨370, [1, 2, 3], [(4, .l (.ref 1004 0)), (5, .l (.ref 1005 0)), (7, .ls 11440), (8, .i ((rotR t r y m hs ys).2.1)), (9, .i ((rotR t r y m hs ys).2.2)), (18, .l (.ref 1018 0)), (19, .i ((i : Nat) : Int))], (never_frH28 r hs y m ys tt q)⟩
           apply aw_seq
           apply aw_seq
           refine awr []
            ⟨370, [1, 2, 3], [(4, .l (.ref 1004 0)), (5, .l (.ref 1005 0)), (7, .ls 11440), (8, .i ((rotR t r y m hs ys).2.1)), (9, .i ((rotR t r y m hs ys).2.2)), (18, .l (.ref 1018 0)), (19, .i ((i : Nat) : Int)), (190, .b (decide (((i : Nat) : Int) < ((q.length : Nat) : Int))))], (never_frH28 r hs y m ys tt q)⟩
            [] trivial ?_
           refine aw_cond (b := decide (((i : Nat) : Int) < ((q.length : Nat) : Int))) rfl (fun h28 => ?_) (fun h28 => ?_)
           ·
            have h28p : ((i : Nat) : Int) < ((q.length : Nat) : Int) := dtr h28
            apply aw_skip
            apply aw_seq
            apply aw_block
            apply aw_seq
            apply aw_seq
            obtain ⟨⟨⟨f1, f1b⟩, f2, f3, f5⟩, hPn, hrn⟩ := plan_step hPi (by omega)
            have fL : (ix q i).length ≤ 20 := by omega
            have hy3 := (startE_0.1 f1).2.2
            refine awd [(2, .idx i), (3, .many [1196])]
             ⟨370, [1, 2, 3], [(4, .l (.ref 1004 0)), (5, .l (.ref 1005 0)), (7, .ls 11440), (8, .i ((rotR t r y m hs ys).2.1)), (9, .i ((rotR t r y m hs ys).2.2)), (18, .l (.ref 1018 0)), (19, .i ((i : Nat) : Int)), (200, .b (decide ((((ix q i).length : Nat) : Int) ≠ m)))], (never_frH28 r hs y m ys tt q)⟩
             [((i : Nat) : Int) = ((i : Nat) : Int), i < q.length, i < q.length] (al2 (by omega) (al2 (by omega) (al1 (by omega)))) ?_
            have h29 : (decide ((((ix q i).length : Nat) : Int) ≠ m)) = false := by exact decide_eq_false (by omega)
            refine aw_cond (b := decide ((((ix q i).length : Nat) : Int) ≠ m)) rfl (fun h => Bool.noConfusion (h29.symm.trans h)) (fun _ => ?_)
            apply aw_skip
            refine aw_seqJ ⟨370, [1, 2, 3], [(4, .l (.ref 1004 0)), (5, .l (.ref 1005 0)), (7, .ls 11440), (8, .i ((rotR t r y m hs ys).2.1)), (9, .i ((rotR t r y m hs ys).2.2)), (18, .l (.ref 1018 0)), (19, .i ((i : Nat) : Int))], (never_frH28 r hs y m ys tt q)⟩ ?_ ?_
            ·
             apply aw_seq
             refine awr []
              ⟨370, [1, 2, 3], [(4, .l (.ref 1004 0)), (5, .l (.ref 1005 0)), (7, .ls 11440), (8, .i ((rotR t r y m hs ys).2.1)), (9, .i ((rotR t r y m hs ys).2.2)), (18, .l (.ref 1018 0)), (19, .i ((i : Nat) : Int)), (203, .b (decide (0 < m)))], (never_frH28 r hs y m ys tt q)⟩
              [] trivial ?_
             refine aw_cond (b := decide (0 < m)) rfl (fun h30 => ?_) (fun h30 => ?_)
             ·
              have h30p : 0 < m := dtr h30
              apply aw_seq
              have htl : ((ix q i).take (m - 1).toNat).length ≤ 1000000 := by rw [List.length_take]; omega
              have hkt := keepsE_ok (r := r) f1 (l := (ix q i).take (m - 1).toNat) (by rw [List.length_take]; omega) (spots_take f1b)
              have hkt2 : keepsV (openV tt r (y + ((i : Nat) : Int))) ((ix q i).take (m - 1).toNat) = ⟨-1, 0⟩ := keeps_take f3
              refine awd [(1, .call [2001] ((never_frA29 tt)) [(12060, some (never_frK30 tt))]), (3, .call [2] ((never_frA32 r)) [(12080, some (never_frK13 r))]), (10, .idx i), (11, .many [1216]), (15, .cut 1220 0 ((m - 1).toNat)), (16, .call [1220] (.ls 12210) [(12210, some (never_frK33 q i m))]), (17, .call [12060, 12080, 12210] (.tup [.one (.i ((keepsR tt r (y + ((i : Nat) : Int)) ((ix q i).take ((m - 1).toNat))).at_)), .one (.i ((keepsR tt r (y + ((i : Nat) : Int)) ((ix q i).take ((m - 1).toNat))).rule)), .one (.i (keepsE tt r (y + ((i : Nat) : Int)) ((ix q i).take ((m - 1).toNat))))]) [])]
               ⟨370, [1, 2, 3], [(4, .l (.ref 1004 0)), (5, .l (.ref 1005 0)), (7, .ls 11440), (8, .i ((rotR t r y m hs ys).2.1)), (9, .i ((rotR t r y m hs ys).2.2)), (18, .l (.ref 1018 0)), (19, .i ((i : Nat) : Int)), (20, .i ((keepsR tt r (y + ((i : Nat) : Int)) ((ix q i).take ((m - 1).toNat))).at_)), (21, .i ((keepsR tt r (y + ((i : Nat) : Int)) ((ix q i).take ((m - 1).toNat))).rule)), (22, .i (keepsE tt r (y + ((i : Nat) : Int)) ((ix q i).take ((m - 1).toNat))))], (never_frH28 r hs y m ys tt q)⟩
               [CallOK Try.prog 15 [(never_frA31 tt)] [2001] [some (never_frK27 tt)] ((never_frA29 tt)) [(12060, some (never_frK30 tt))], CallOK Try.prog 16 [(never_frA2 r)] [2] [some (never_frK4 r)] ((never_frA32 r)) [(12080, some (never_frK13 r))], -9223372036854775808 ≤ (y + ((i : Nat) : Int)) ∧ (y + ((i : Nat) : Int)) < 9223372036854775808, ((i : Nat) : Int) = ((i : Nat) : Int), i < q.length, i < q.length, -9223372036854775808 ≤ (m - 1) ∧ (m - 1) < 9223372036854775808, 0 = 0, (m - 1) = (((m - 1).toNat : Nat) : Int), 0 ≤ (m - 1).toNat, (m - 1).toNat ≤ (ix q i).length, CallOK Try.prog 44 [.ls 1220] [1220] [some (never_frK34 m q i)] (.ls 12210) [(12210, some (never_frK33 q i m))], CallOK Try.prog 45 [(never_frA29 tt), (never_frA32 r), .i (y + ((i : Nat) : Int)), .ls 12210] [12060, 12080, 12210] [some (never_frK30 tt), some (never_frK13 r), some (never_frK33 q i m)] (.tup [.one (.i ((keepsR tt r (y + ((i : Nat) : Int)) ((ix q i).take ((m - 1).toNat))).at_)), .one (.i ((keepsR tt r (y + ((i : Nat) : Int)) ((ix q i).take ((m - 1).toNat))).rule)), .one (.i (keepsE tt r (y + ((i : Nat) : Int)) ((ix q i).take ((m - 1).toNat))))]) []] (al2 (cfr (own_fr tt (by first | omega | (simp; done) | assumption)) [(1, 2001), (2, 12060)] (dem_cons rfl (le_ro rfl el_rfl) dem_nil)) (al2 (cfr (tapsc_fr r (by first | omega | (simp; done) | assumption)) [(1, 2), (2, 12080)] (dem_cons rfl (le_ro rfl el_rfl) dem_nil)) (al2 (by omega) (al2 (by omega) (al2 (by omega) (al2 (by omega) (al2 (by omega) (al2 rfl (al2 (by omega) (al2 (by omega) (al2 (by omega) (al2 (cfr (spotsc_fr ((ix q i).take ((m - 1).toNat)) (by omega)) [(1, 1220), (2, 12210)] (dem_cons rfl (le_ro (by rw [List.length_take]; omega) (sub_take (by omega))) dem_nil)) (al1 (cfr (Keeps_fr tt r (y + ((i : Nat) : Int)) ((ix q i).take ((m - 1).toNat)) (by first | omega | (simp; done) | assumption) (by first | omega | (simp; done) | assumption) (by first | omega | (simp; done) | assumption)) [(1, 12060), (2, 12080), (3, 12210)] (dem_cons rfl (le_vec_ro rfl el_rfl) (dem_cons rfl (le_vec_ro rfl el_rfl) (dem_cons rfl (le_vec_ro rfl el_rfl) dem_nil))))))))))))))))) ?_
              apply aw_seq
              have h31 : (decide ((keepsE tt r (y + ((i : Nat) : Int)) ((ix q i).take ((m - 1).toNat))) ≠ 0)) = false := by exact decide_eq_false (by first | (rw [hkt.1]; decide) | (rw [hkt.2, hkt2]; decide) | (rw [hkt.2, hkt2]; exact fun h => h f2) | (rw [hkt.2, hkt2]; exact fun h => h rfl))
              have h32 : (decide ((keepsR tt r (y + ((i : Nat) : Int)) ((ix q i).take ((m - 1).toNat))).at_ ≠ (-1))) = false := by exact decide_eq_false (by first | (rw [hkt.1]; decide) | (rw [hkt.2, hkt2]; decide) | (rw [hkt.2, hkt2]; exact fun h => h f2) | (rw [hkt.2, hkt2]; exact fun h => h rfl))
              refine awr [(2, .dec false), (6, .dec false)]
               ⟨370, [1, 2, 3], [(4, .l (.ref 1004 0)), (5, .l (.ref 1005 0)), (7, .ls 11440), (8, .i ((rotR t r y m hs ys).2.1)), (9, .i ((rotR t r y m hs ys).2.2)), (18, .l (.ref 1018 0)), (19, .i ((i : Nat) : Int)), (235, .b (decide ((keepsR tt r (y + ((i : Nat) : Int)) ((ix q i).take ((m - 1).toNat))).rule ≠ 0)))], (never_frH28 r hs y m ys tt q)⟩
               [decide ((keepsE tt r (y + ((i : Nat) : Int)) ((ix q i).take ((m - 1).toNat))) ≠ 0) = false, decide ((keepsR tt r (y + ((i : Nat) : Int)) ((ix q i).take ((m - 1).toNat))).at_ ≠ (-1)) = false] (al2 h31 (al1 h32)) ?_
              have h33 : (decide ((keepsR tt r (y + ((i : Nat) : Int)) ((ix q i).take ((m - 1).toNat))).rule ≠ 0)) = false := by exact decide_eq_false (by first | (rw [hkt.1]; decide) | (rw [hkt.2, hkt2]; decide) | (rw [hkt.2, hkt2]; exact fun h => h f2) | (rw [hkt.2, hkt2]; exact fun h => h rfl))
              refine aw_cond (b := decide ((keepsR tt r (y + ((i : Nat) : Int)) ((ix q i).take ((m - 1).toNat))).rule ≠ 0)) rfl (fun h => Bool.noConfusion (h33.symm.trans h)) (fun _ => ?_)
              apply aw_skip
              exact (enr [] ⟨rfl, rfl, rfl, rfl, rfl, rfl, rfl, trivial⟩ (cro rfl (cro rfl (cbl rfl rfl (cbl rfl rfl (cbl rfl rfl (cro rfl (cve rfl trivial))))))))
             ·
              have h30p : m ≤ 0 := dlt h30
              apply aw_skip
              exact (enr [] ⟨rfl, rfl, rfl, rfl, rfl, rfl, rfl, trivial⟩ (cro rfl (cro rfl (cbl rfl rfl (cbl rfl rfl (cbl rfl rfl (cro rfl (cve rfl trivial))))))))
            ·
             refine aw_seqJ ⟨370, [1, 2, 3], [(4, .l (.ref 1004 0)), (5, .l (.ref 1005 0)), (7, .ls 11440), (8, .i ((rotR t r y m hs ys).2.1)), (9, .i ((rotR t r y m hs ys).2.2)), (18, .l (.ref 1018 0)), (19, .i ((i : Nat) : Int))], (never_frH28 r hs y m ys tt q)⟩ ?_ ?_
             ·
              apply aw_seq
              rcases Bool.eq_false_or_eq_true (decide (0 < m)) with h34 | h34
              ·
               have h34p : 0 < m := dtr h34
               refine awr [(3, .dec true)]
                ⟨370, [1, 2, 3], [(4, .l (.ref 1004 0)), (5, .l (.ref 1005 0)), (7, .ls 11440), (8, .i ((rotR t r y m hs ys).2.1)), (9, .i ((rotR t r y m hs ys).2.2)), (18, .l (.ref 1018 0)), (19, .i ((i : Nat) : Int)), (243, .b (decide (m < 20)))], (never_frH28 r hs y m ys tt q)⟩
                [decide (0 < m) = true] (al1 h34) ?_
               refine aw_cond (b := decide (m < 20)) rfl (fun h35 => ?_) (fun h35 => ?_)
               ·
                have h35p : m < 20 := dtr h35
                apply aw_seq
                have hq0 : 0 < (ix q i).length := by omega
                have htn : (ix q i).length + 1 = ((ix q i) ++ [(⟨(ix (ix q i) 0).angle, (ix (ix q i) 0).height⟩ : Spt)]).length := by rw [List.length_append, List.length_singleton]
                have htl : ((ix q i) ++ [(⟨(ix (ix q i) 0).angle, (ix (ix q i) 0).height⟩ : Spt)]).length ≤ 1000000 := by rw [List.length_append, List.length_singleton]; omega
                have hkt := keepsE_ok (r := r) f1 (l := (ix q i) ++ [⟨(ix (ix q i) 0).angle, (ix (ix q i) 0).height⟩]) (by rw [List.length_append, List.length_singleton]; omega) (spots_snoc f1b hq0)
                have hkt2 := keeps_twice (open_ok f1) f3 hq0
                refine awd [(1, .call [2001] ((never_frA35 tt)) [(12460, some (never_frK30 tt))]), (3, .call [2] ((never_frA36 r)) [(12480, some (never_frK13 r))]), (10, .idx i), (11, .many [1256]), (12, .call [1256] (.ls 12570) [(12570, some (never_frK37 q i))]), (15, .idx i), (16, .many [1261]), (17, .idx 0), (19, .new 1264), (20, .lst 1265 (((ix q i)).length + 1) (Lst eS ((ix q i) ++ [(⟨(ix (ix q i) 0).angle, (ix (ix q i) 0).height⟩ : Spt)]))), (21, .call [12460, 12480, 1265] (.tup [.one (.i ((keepsR tt r (y + ((i : Nat) : Int)) ((ix q i) ++ [(⟨(ix (ix q i) 0).angle, (ix (ix q i) 0).height⟩ : Spt)])).at_)), .one (.i ((keepsR tt r (y + ((i : Nat) : Int)) ((ix q i) ++ [(⟨(ix (ix q i) 0).angle, (ix (ix q i) 0).height⟩ : Spt)])).rule)), .one (.i (keepsE tt r (y + ((i : Nat) : Int)) ((ix q i) ++ [(⟨(ix (ix q i) 0).angle, (ix (ix q i) 0).height⟩ : Spt)])))]) [])]
                 ⟨370, [1, 2, 3], [(4, .l (.ref 1004 0)), (5, .l (.ref 1005 0)), (7, .ls 11440), (8, .i ((rotR t r y m hs ys).2.1)), (9, .i ((rotR t r y m hs ys).2.2)), (18, .l (.ref 1018 0)), (19, .i ((i : Nat) : Int)), (23, .i ((keepsR tt r (y + ((i : Nat) : Int)) ((ix q i) ++ [(⟨(ix (ix q i) 0).angle, (ix (ix q i) 0).height⟩ : Spt)])).at_)), (24, .i ((keepsR tt r (y + ((i : Nat) : Int)) ((ix q i) ++ [(⟨(ix (ix q i) 0).angle, (ix (ix q i) 0).height⟩ : Spt)])).rule)), (25, .i (keepsE tt r (y + ((i : Nat) : Int)) ((ix q i) ++ [(⟨(ix (ix q i) 0).angle, (ix (ix q i) 0).height⟩ : Spt)])))], (never_frH28 r hs y m ys tt q)⟩
                 [CallOK Try.prog 15 [(never_frA31 tt)] [2001] [some (never_frK27 tt)] ((never_frA35 tt)) [(12460, some (never_frK30 tt))], CallOK Try.prog 16 [(never_frA2 r)] [2] [some (never_frK4 r)] ((never_frA36 r)) [(12480, some (never_frK13 r))], -9223372036854775808 ≤ (y + ((i : Nat) : Int)) ∧ (y + ((i : Nat) : Int)) < 9223372036854775808, ((i : Nat) : Int) = ((i : Nat) : Int), i < q.length, i < q.length, CallOK Try.prog 44 [.ls 1256] [1256] [some (never_frK38 q i)] (.ls 12570) [(12570, some (never_frK37 q i))], ((i : Nat) : Int) = ((i : Nat) : Int), i < q.length, i < q.length, 0 = ((0 : Nat) : Int), 0 < (ix q i).length, 0 < (ix q i).length, ((ix q i)).length + 1 ≤ 1000000000000, (((ix q i)).length + 1) * 16 ≤ 140737488355328, AppOk 2 (((ix q i)).length) 1 (Lst eS (ix q i)) (exEl 2 [.i ((ix (ix q i) 0).angle), .i ((ix (ix q i) 0).height)]) (((ix q i)).length + 1) (Lst eS ((ix q i) ++ [(⟨(ix (ix q i) 0).angle, (ix (ix q i) 0).height⟩ : Spt)])), CallOK Try.prog 45 [(never_frA35 tt), (never_frA36 r), .i (y + ((i : Nat) : Int)), .ls 1265] [12460, 12480, 1265] [some (never_frK30 tt), some (never_frK13 r), some (never_frK39 q i)] (.tup [.one (.i ((keepsR tt r (y + ((i : Nat) : Int)) ((ix q i) ++ [(⟨(ix (ix q i) 0).angle, (ix (ix q i) 0).height⟩ : Spt)])).at_)), .one (.i ((keepsR tt r (y + ((i : Nat) : Int)) ((ix q i) ++ [(⟨(ix (ix q i) 0).angle, (ix (ix q i) 0).height⟩ : Spt)])).rule)), .one (.i (keepsE tt r (y + ((i : Nat) : Int)) ((ix q i) ++ [(⟨(ix (ix q i) 0).angle, (ix (ix q i) 0).height⟩ : Spt)])))]) []] (al2 (cfr (own_fr tt (by first | omega | (simp; done) | assumption)) [(1, 2001), (2, 12460)] (dem_cons rfl (le_ro rfl el_rfl) dem_nil)) (al2 (cfr (tapsc_fr r (by first | omega | (simp; done) | assumption)) [(1, 2), (2, 12480)] (dem_cons rfl (le_ro rfl el_rfl) dem_nil)) (al2 (by omega) (al2 (by omega) (al2 (by omega) (al2 (by omega) (al2 (cfr (spotsc_fr (ix q i) (by omega)) [(1, 1256), (2, 12570)] (dem_cons rfl (le_ro rfl el_rfl) dem_nil)) (al2 (by omega) (al2 (by omega) (al2 (by omega) (al2 (by omega) (al2 (by omega) (al2 (by omega) (al2 (by omega) (al2 (by omega) (al2 (app_one (by first | omega | rfl | assumption) (by first | omega | rfl | assumption) (fun | 0, _ => rfl | 1, _ => rfl | (n + 2), h => absurd h (by omega))) (al1 (cfr (Keeps_fr tt r (y + ((i : Nat) : Int)) ((ix q i) ++ [(⟨(ix (ix q i) 0).angle, (ix (ix q i) 0).height⟩ : Spt)]) (by first | omega | (simp; done) | assumption) (by first | omega | (simp; done) | assumption) (by first | omega | (simp; done) | assumption)) [(1, 12460), (2, 12480), (3, 1265)] (dem_cons rfl (le_vec_ro rfl el_rfl) (dem_cons rfl (le_vec_ro rfl el_rfl) (dem_cons rfl (le_vec_ro (by first | omega | rfl | assumption) el_rfl) dem_nil))))))))))))))))))))) ?_
                apply aw_seq
                have h36 : (decide ((keepsE tt r (y + ((i : Nat) : Int)) ((ix q i) ++ [(⟨(ix (ix q i) 0).angle, (ix (ix q i) 0).height⟩ : Spt)])) ≠ 0)) = false := by exact decide_eq_false (by first | (rw [hkt.1]; decide) | (rw [hkt.2, hkt2]; decide) | (rw [hkt.2, hkt2]; exact fun h => h f2) | (rw [hkt.2, hkt2]; exact fun h => h rfl))
                have h37 : (decide ((keepsR tt r (y + ((i : Nat) : Int)) ((ix q i) ++ [(⟨(ix (ix q i) 0).angle, (ix (ix q i) 0).height⟩ : Spt)])).at_ ≠ m)) = false := by exact decide_eq_false (by first | (rw [hkt.1]; decide) | (rw [hkt.2, hkt2]; decide) | (rw [hkt.2, hkt2]; exact fun h => h f2) | (rw [hkt.2, hkt2]; exact fun h => h rfl))
                refine awr [(2, .dec false), (8, .dec false)]
                 ⟨370, [1, 2, 3], [(4, .l (.ref 1004 0)), (5, .l (.ref 1005 0)), (7, .ls 11440), (8, .i ((rotR t r y m hs ys).2.1)), (9, .i ((rotR t r y m hs ys).2.2)), (18, .l (.ref 1018 0)), (19, .i ((i : Nat) : Int)), (281, .b (decide ((keepsR tt r (y + ((i : Nat) : Int)) ((ix q i) ++ [(⟨(ix (ix q i) 0).angle, (ix (ix q i) 0).height⟩ : Spt)])).rule ≠ 3)))], (never_frH28 r hs y m ys tt q)⟩
                 [decide ((keepsE tt r (y + ((i : Nat) : Int)) ((ix q i) ++ [(⟨(ix (ix q i) 0).angle, (ix (ix q i) 0).height⟩ : Spt)])) ≠ 0) = false, decide ((keepsR tt r (y + ((i : Nat) : Int)) ((ix q i) ++ [(⟨(ix (ix q i) 0).angle, (ix (ix q i) 0).height⟩ : Spt)])).at_ ≠ m) = false] (al2 h36 (al1 h37)) ?_
                have h38 : (decide ((keepsR tt r (y + ((i : Nat) : Int)) ((ix q i) ++ [(⟨(ix (ix q i) 0).angle, (ix (ix q i) 0).height⟩ : Spt)])).rule ≠ 3)) = false := by exact decide_eq_false (by first | (rw [hkt.1]; decide) | (rw [hkt.2, hkt2]; decide) | (rw [hkt.2, hkt2]; exact fun h => h f2) | (rw [hkt.2, hkt2]; exact fun h => h rfl))
                refine aw_cond (b := decide ((keepsR tt r (y + ((i : Nat) : Int)) ((ix q i) ++ [(⟨(ix (ix q i) 0).angle, (ix (ix q i) 0).height⟩ : Spt)])).rule ≠ 3)) rfl (fun h => Bool.noConfusion (h38.symm.trans h)) (fun _ => ?_)
                apply aw_skip
                exact (enr [] ⟨rfl, rfl, rfl, rfl, rfl, rfl, rfl, trivial⟩ (cro rfl (cro rfl (cbl rfl rfl (cbl rfl rfl (cbl rfl rfl (cro rfl (cve rfl trivial))))))))
               ·
                have h35p : 20 ≤ m := dlt h35
                apply aw_skip
                exact (enr [] ⟨rfl, rfl, rfl, rfl, rfl, rfl, rfl, trivial⟩ (cro rfl (cro rfl (cbl rfl rfl (cbl rfl rfl (cbl rfl rfl (cro rfl (cve rfl trivial))))))))
              ·
               have h34p : m ≤ 0 := dlt h34
               refine awr [(3, .dec false)]
                ⟨370, [1, 2, 3], [(4, .l (.ref 1004 0)), (5, .l (.ref 1005 0)), (7, .ls 11440), (8, .i ((rotR t r y m hs ys).2.1)), (9, .i ((rotR t r y m hs ys).2.2)), (18, .l (.ref 1018 0)), (19, .i ((i : Nat) : Int)), (243, .b false)], (never_frH28 r hs y m ys tt q)⟩
                [decide (0 < m) = false] (al1 h34) ?_
               refine aw_false rfl ?_
               apply aw_skip
               exact (enr [] ⟨rfl, rfl, rfl, rfl, rfl, rfl, rfl, trivial⟩ (cro rfl (cro rfl (cbl rfl rfl (cbl rfl rfl (cbl rfl rfl (cro rfl (cve rfl trivial))))))))
             ·
              apply aw_seq
              have hdr := drillE_ok (r := r) f1 fL f1b f5
              have hdl := drill_count (t := tt) (y := (y + ((i : Nat) : Int))) (l := (ix q i))
              refine awd [(1, .call [2001] ((never_frA40 tt)) [(12840, some (never_frK30 tt))]), (8, .idx i), (9, .many [1292]), (10, .call [1292] (.ls 12930) [(12930, some (never_frK37 q i))]), (11, .call [12840, 12930] (.tup [.agg [.i ((drillR tt (y + ((i : Nat) : Int)) (ix q i)).year), .i ((drillR tt (y + ((i : Nat) : Int)) (ix q i)).glo), .i ((drillR tt (y + ((i : Nat) : Int)) (ix q i)).ghi), .i ((drillR tt (y + ((i : Nat) : Int)) (ix q i)).wlo), .i ((drillR tt (y + ((i : Nat) : Int)) (ix q i)).whi), .i ((drillR tt (y + ((i : Nat) : Int)) (ix q i)).health), .ls 12940], .one (.i (drillE tt (y + ((i : Nat) : Int)) (ix q i)))]) [(12940, some (never_frK41 tt y i q))]), (15, .new 1026)]
               ⟨370, [1, 2, 3], [(4, .l (.ref 1004 0)), (5, .l (.ref 1005 0)), (7, .ls 11440), (8, .i ((rotR t r y m hs ys).2.1)), (9, .i ((rotR t r y m hs ys).2.2)), (18, .l (.ref 1018 0)), (19, .i ((i : Nat) : Int)), (26, .l (.ref 1026 0)), (27, .i (drillE tt (y + ((i : Nat) : Int)) (ix q i)))], (never_frH43 r hs y m ys tt i q)⟩
               [CallOK Try.prog 15 [(never_frA31 tt)] [2001] [some (never_frK27 tt)] ((never_frA40 tt)) [(12840, some (never_frK30 tt))], -9223372036854775808 ≤ (y + ((i : Nat) : Int)) ∧ (y + ((i : Nat) : Int)) < 9223372036854775808, ((i : Nat) : Int) = ((i : Nat) : Int), i < q.length, i < q.length, CallOK Try.prog 44 [.ls 1292] [1292] [some (never_frK38 q i)] (.ls 12930) [(12930, some (never_frK37 q i))], CallOK Try.prog 46 [(never_frA40 tt), .i (y + ((i : Nat) : Int)), .ls 12930] [12840, 12930] [some (never_frK30 tt), some (never_frK37 q i)] (.tup [.agg [.i ((drillR tt (y + ((i : Nat) : Int)) (ix q i)).year), .i ((drillR tt (y + ((i : Nat) : Int)) (ix q i)).glo), .i ((drillR tt (y + ((i : Nat) : Int)) (ix q i)).ghi), .i ((drillR tt (y + ((i : Nat) : Int)) (ix q i)).wlo), .i ((drillR tt (y + ((i : Nat) : Int)) (ix q i)).whi), .i ((drillR tt (y + ((i : Nat) : Int)) (ix q i)).health), .ls 12940], .one (.i (drillE tt (y + ((i : Nat) : Int)) (ix q i)))]) [(12940, some (never_frK41 tt y i q))]] (al2 (cfr (own_fr tt (by first | omega | (simp; done) | assumption)) [(1, 2001), (2, 12840)] (dem_cons rfl (le_ro rfl el_rfl) dem_nil)) (al2 (by omega) (al2 (by omega) (al2 (by omega) (al2 (by omega) (al2 (cfr (spotsc_fr (ix q i) (by omega)) [(1, 1292), (2, 12930)] (dem_cons rfl (le_ro rfl el_rfl) dem_nil)) (al1 (cfr (Drill_fr tt (y + ((i : Nat) : Int)) (ix q i) (by first | omega | (simp; done) | assumption) (by first | omega | (simp; done) | assumption)) [(1, 12840), (3, 12930), (9, 12940)] (dem_cons rfl (le_vec_ro rfl el_rfl) (dem_cons rfl (le_vec_ro rfl el_rfl) dem_nil)))))))))) ?_
              apply aw_seq
              apply aw_seq
              refine aw_ent (T := ⟨370, [1, 2, 3], [(4, .l (.ref 1004 0)), (5, .l (.ref 1005 0)), (7, .ls 11440), (8, .i ((rotR t r y m hs ys).2.1)), (9, .i ((rotR t r y m hs ys).2.2)), (18, .l (.ref 1018 0)), (19, .i ((i : Nat) : Int)), (26, .l (.ref 1026 0)), (27, .i 0)], (never_frH46 r hs y m ys tt i q)⟩)
                  (enr [] ⟨rfl, rfl, rfl, rfl, rfl, rfl, rfl, rfl, (slot_i rfl (by first | rfl | omega | assumption | (rw [hdr.2]) | (rw [hdr.1]))), trivial⟩ (cro rfl (cro rfl (cbl rfl rfl (cbl rfl rfl (cbl rfl rfl (cbl rfl (by exact (cells_cons (cell_i (by first | rfl | omega | assumption | (rw [hdr.2]) | (rw [hdr.1]))) (cells_cons (cell_i (by first | rfl | omega | assumption | (rw [hdr.2]) | (rw [hdr.1]))) (cells_cons (cell_i (by first | rfl | omega | assumption | (rw [hdr.2]) | (rw [hdr.1]))) (cells_cons (cell_i (by first | rfl | omega | assumption | (rw [hdr.2]) | (rw [hdr.1]))) (cells_cons (cell_i (by first | rfl | omega | assumption | (rw [hdr.2]) | (rw [hdr.1]))) (cells_cons (cell_i (by first | rfl | omega | assumption | (rw [hdr.2]) | (rw [hdr.1]))) (cells_cons rfl rfl)))))))) (cro rfl (cve rfl (conts_cons rfl (le_vec (by first | rfl | omega | assumption | (rw [hdr.2]) | (rw [hdr.1])) (lst_eq (by first | rfl | omega | assumption | (rw [hdr.2]) | (rw [hdr.1])))) trivial)))))))))) ?_
              have h39 : (decide ((0 : Int) ≠ (0 : Int))) = false := by decide
              refine awr [(2, .dec false)]
               ⟨370, [1, 2, 3], [(4, .l (.ref 1004 0)), (5, .l (.ref 1005 0)), (7, .ls 11440), (8, .i ((rotR t r y m hs ys).2.1)), (9, .i ((rotR t r y m hs ys).2.2)), (18, .l (.ref 1018 0)), (19, .i ((i : Nat) : Int)), (26, .l (.ref 1026 0)), (310, .b (decide (((((drillV tt (y + ((i : Nat) : Int)) (ix q i)).holes).length : Nat) : Int) ≠ (((tt.holes.length : Nat) : Int) + m))))], (never_frH46 r hs y m ys tt i q)⟩
               [decide ((0 : Int) ≠ (0 : Int)) = false, -9223372036854775808 ≤ (((tt.holes.length : Nat) : Int) + m) ∧ (((tt.holes.length : Nat) : Int) + m) < 9223372036854775808] (al2 h39 (al1 (by omega))) ?_
              have h40 : (decide (((((drillV tt (y + ((i : Nat) : Int)) (ix q i)).holes).length : Nat) : Int) ≠ (((tt.holes.length : Nat) : Int) + m))) = false := by exact decide_eq_false (by omega)
              refine aw_cond (b := decide (((((drillV tt (y + ((i : Nat) : Int)) (ix q i)).holes).length : Nat) : Int) ≠ (((tt.holes.length : Nat) : Int) + m))) rfl (fun h => Bool.noConfusion (h40.symm.trans h)) (fun _ => ?_)
              apply aw_skip
              refine awr []
               ⟨370, [1, 2, 3], [(4, .l (.ref 1004 0)), (5, .l (.ref 1005 0)), (7, .ls 11440), (8, .i ((rotR t r y m hs ys).2.1)), (9, .i ((rotR t r y m hs ys).2.2)), (18, .l (.ref 1018 0)), (19, .i ((i : Nat) : Int))], (never_frH47 r hs y m ys tt i q)⟩
               [] trivial ?_
              refine awr [(1, .num (((i + 1) : Nat) : Int))]
               ⟨370, [1, 2, 3], [(4, .l (.ref 1004 0)), (5, .l (.ref 1005 0)), (7, .ls 11440), (8, .i ((rotR t r y m hs ys).2.1)), (9, .i ((rotR t r y m hs ys).2.2)), (18, .l (.ref 1018 0)), (19, .i (((i + 1) : Nat) : Int))], (never_frH47 r hs y m ys tt i q)⟩
               [(((i : Nat) : Int) + 1) = (((i + 1) : Nat) : Int), -9223372036854775808 ≤ (((i + 1) : Nat) : Int) ∧ (((i + 1) : Nat) : Int) < 9223372036854775808] (al2 (by omega) (al1 (by omega))) ?_
              exact ⟨((i + 1), (drillV tt (y + ((i : Nat) : Int)) (ix q i))), ⟨(by (try dsimp only); first | omega | rfl | assumption | (simp; done)), (by (try dsimp only); exact hPn), (by (try dsimp only); exact hrn.symm.trans hrun), (by (try dsimp only); exact drill_len f5)⟩, (show q.length - (i + 1) < q.length - i by first | omega | rfl | assumption),
                  (enr [(2001, 12940)] ⟨rfl, rfl, rfl, rfl, rfl, rfl, rfl, trivial⟩ (cro rfl (cro rfl (cbl rfl rfl (cbl rfl rfl (cbl rfl rfl (cvr rfl (cve rfl trivial))))))))⟩
           ·
            have h28p : ((q.length : Nat) : Int) ≤ ((i : Nat) : Int) := dlt h28
            refine aw_exit (exit_then (exit_then (exit_in ?_)))
            apply aw_seq
            apply aw_seq
            refine awr []
             ⟨370, [1, 2, 3], [(4, .l (.ref 1004 0)), (5, .l (.ref 1005 0)), (8, .i ((rotR t r y m hs ys).2.1)), (18, .l (.ref 1018 0)), (313, .b (decide ((rotR t r y m hs ys).2.2 ≠ 7)))], (never_frH48 r hs y m ys tt)⟩
             [] trivial ?_
            refine aw_cond (b := decide ((rotR t r y m hs ys).2.2 ≠ 7)) rfl (fun h41 => ?_) (fun h41 => ?_)
            ·
             have h41p : (rotR t r y m hs ys).2.2 ≠ 7 := dtr h41
             apply aw_seq
             refine awr [(0, .call [] (.b true) [])]
              ⟨370, [1, 2, 3], [(6, .b true)], []⟩
              [CallOK Try.prog 14 [] [] [] (.b true) []] (al1 (cfr (known_fr ) [] dem_nil)) ?_
             exact aw_ret (ret_then ⟨.inr rfl, eok ⟨370, [1, 2, 3], [(6, .b true)], []⟩
                 (enr [] ⟨rfl, trivial⟩ trivial) wr_nil⟩)
            ·
             have h41p : (rotR t r y m hs ys).2.2 = 7 := dne h41
             apply aw_skip
             apply aw_seq
             apply aw_seq
             have hdone : tt = afterT y t 0 q := by rw [← hrun, List.drop_eq_nil_of_le (by omega)]; rfl
             obtain ⟨hat, hst7, hno7⟩ := rot_c7 hcase (by omega)
             rw [← hdone] at hst7 hno7
             obtain ⟨_, _, hhs, _, _, _⟩ := rotE_0 hE0
             refine aw_ent (T := ⟨370, [1, 2, 3], [(4, .l (.ref 1004 0)), (5, .l (.ref 1005 0)), (8, .i ((q.length : Nat) : Int)), (18, .l (.ref 1018 0)), (313, .b (decide ((rotR t r y m hs ys).2.2 ≠ 7)))], (never_frH48 r hs y m ys tt)⟩)
                 (enr [] ⟨rfl, rfl, (slot_i rfl (by first | rfl | omega | assumption | (omega))), rfl, rfl, trivial⟩ (cro rfl (cro rfl (cbl rfl rfl (cbl rfl rfl (cbl rfl rfl (cro rfl trivial))))))) ?_
             refine awr []
              ⟨370, [1, 2, 3], [(4, .l (.ref 1004 0)), (5, .l (.ref 1005 0)), (8, .i ((q.length : Nat) : Int)), (18, .l (.ref 1018 0)), (28, .i 0)], (never_frH48 r hs y m ys tt)⟩
              [] trivial ?_
             apply aw_block
             refine aw_loop (ι := Nat) (fun zz => ⟨370, [1, 2, 3], [(4, .l (.ref 1004 0)), (5, .l (.ref 1005 0)), (8, .i ((q.length : Nat) : Int)), (18, .l (.ref 1018 0)), (28, .i ((zz : Nat) : Int))], (never_frH48 r hs y m ys tt)⟩) (fun zz => (zz ≤ hs.length)) (fun zz => hs.length - zz) 0 (by first | omega | rfl | assumption | (simp; done))
                 (enr [] ⟨rfl, rfl, rfl, rfl, rfl, trivial⟩ (cro rfl (cro rfl (cbl rfl rfl (cbl rfl rfl (cbl rfl rfl (cro rfl trivial))))))) fun zz hp => ?_
             obtain ⟨j, rfl⟩ : ∃ x, x = zz := ⟨_, rfl⟩
             have hjL := hp
             show AW _ E _ _ ⟨370, [1, 2, 3], [(4, .l (.ref 1004 0)), (5, .l (.ref 1005 0)), (8, .i ((q.length : Nat) : Int)), (18, .l (.ref 1018 0)), (28, .i ((j : Nat) : Int))], (never_frH48 r hs y m ys tt)⟩
             apply aw_seq
             apply aw_seq
             refine awr []
              ⟨370, [1, 2, 3], [(4, .l (.ref 1004 0)), (5, .l (.ref 1005 0)), (8, .i ((q.length : Nat) : Int)), (18, .l (.ref 1018 0)), (28, .i ((j : Nat) : Int)), (319, .b (decide (((j : Nat) : Int) < ((hs.length : Nat) : Int))))], (never_frH48 r hs y m ys tt)⟩
              [] trivial ?_
             refine aw_cond (b := decide (((j : Nat) : Int) < ((hs.length : Nat) : Int))) rfl (fun h42 => ?_) (fun h42 => ?_)
             ·
              have h42p : ((j : Nat) : Int) < ((hs.length : Nat) : Int) := dtr h42
              apply aw_skip
              apply aw_seq
              apply aw_block
              apply aw_seq
              have hej := hhs _ (ix_mem (l := hs) (i := j) (by omega))
              have h07 := spotsE_07 (m := m) hst7 hej hm20
              refine awd [(1, .call [2001] ((never_frA49 tt)) [(13240, some (never_frK30 tt))]), (3, .call [2] ((never_frA50 r)) [(13260, some (never_frK13 r))]), (11, .idx j), (15, .call [13240, 13260] (.tup [.one (.ls 13380), .one (.i (spotsE tt r (y + ((q.length : Nat) : Int)) (ix hs j) m))]) [(13380, some (never_frK51 tt r y q hs j m))])]
               ⟨370, [1, 2, 3], [(4, .l (.ref 1004 0)), (5, .l (.ref 1005 0)), (8, .i ((q.length : Nat) : Int)), (18, .l (.ref 1018 0)), (28, .i ((j : Nat) : Int)), (29, .ls 13380), (30, .i (spotsE tt r (y + ((q.length : Nat) : Int)) (ix hs j) m))], (never_frH52 r hs y m ys tt q j)⟩
               [CallOK Try.prog 15 [(never_frA31 tt)] [2001] [some (never_frK27 tt)] ((never_frA49 tt)) [(13240, some (never_frK30 tt))], CallOK Try.prog 16 [(never_frA2 r)] [2] [some (never_frK4 r)] ((never_frA50 r)) [(13260, some (never_frK13 r))], -9223372036854775808 ≤ (y + ((q.length : Nat) : Int)) ∧ (y + ((q.length : Nat) : Int)) < 9223372036854775808, ((j : Nat) : Int) = ((j : Nat) : Int), j < hs.length, j < hs.length, CallOK Try.prog 30 [(never_frA49 tt), (never_frA50 r), .i (y + ((q.length : Nat) : Int)), .i (ix hs j), .i m] [13240, 13260] [some (never_frK30 tt), some (never_frK13 r)] (.tup [.one (.ls 13380), .one (.i (spotsE tt r (y + ((q.length : Nat) : Int)) (ix hs j) m))]) [(13380, some (never_frK51 tt r y q hs j m))]] (al2 (cfr (own_fr tt (by first | omega | (simp; done) | assumption)) [(1, 2001), (2, 13240)] (dem_cons rfl (le_ro rfl el_rfl) dem_nil)) (al2 (cfr (tapsc_fr r (by first | omega | (simp; done) | assumption)) [(1, 2), (2, 13260)] (dem_cons rfl (le_ro rfl el_rfl) dem_nil)) (al2 (by omega) (al2 (by omega) (al2 (by omega) (al2 (by omega) (al1 (cfr (Spots_fr tt r (y + ((q.length : Nat) : Int)) (ix hs j) m (by first | omega | (simp; done) | assumption) (by first | omega | (simp; done) | assumption)) [(1, 13240), (2, 13260), (3, 13380)] (dem_cons rfl (le_vec_ro rfl el_rfl) (dem_cons rfl (le_vec_ro rfl el_rfl) dem_nil)))))))))) ?_
              apply aw_seq
              apply aw_seq
              rcases Bool.eq_false_or_eq_true (decide ((spotsE tt r (y + ((q.length : Nat) : Int)) (ix hs j) m) ≠ 0)) with h43 | h43
              ·
               have h43p : (spotsE tt r (y + ((q.length : Nat) : Int)) (ix hs j) m) ≠ 0 := dtr h43
               refine awr [(2, .dec true)]
                ⟨370, [1, 2, 3], [(4, .l (.ref 1004 0)), (5, .l (.ref 1005 0)), (8, .i ((q.length : Nat) : Int)), (18, .l (.ref 1018 0)), (28, .i ((j : Nat) : Int)), (29, .ls 13380), (30, .i (spotsE tt r (y + ((q.length : Nat) : Int)) (ix hs j) m)), (346, .b (decide ((spotsE tt r (y + ((q.length : Nat) : Int)) (ix hs j) m) ≠ 7)))], (never_frH52 r hs y m ys tt q j)⟩
                [decide ((spotsE tt r (y + ((q.length : Nat) : Int)) (ix hs j) m) ≠ 0) = true] (al1 h43) ?_
               have h44 : (decide ((spotsE tt r (y + ((q.length : Nat) : Int)) (ix hs j) m) ≠ 7)) = false := by exact decide_eq_false (by rcases h07 with ⟨h, _⟩ | h <;> omega)
               refine aw_cond (b := decide ((spotsE tt r (y + ((q.length : Nat) : Int)) (ix hs j) m) ≠ 7)) rfl (fun h => Bool.noConfusion (h44.symm.trans h)) (fun _ => ?_)
               apply aw_skip
               apply aw_seq
               refine awr []
                ⟨370, [1, 2, 3], [(4, .l (.ref 1004 0)), (5, .l (.ref 1005 0)), (8, .i ((q.length : Nat) : Int)), (18, .l (.ref 1018 0)), (28, .i ((j : Nat) : Int)), (29, .ls 13380), (348, .b (decide ((spotsE tt r (y + ((q.length : Nat) : Int)) (ix hs j) m) = 0)))], (never_frH52 r hs y m ys tt q j)⟩
                [] trivial ?_
               have h45 : (decide ((spotsE tt r (y + ((q.length : Nat) : Int)) (ix hs j) m) = 0)) = false := by exact decide_eq_false (by omega)
               refine aw_cond (b := decide ((spotsE tt r (y + ((q.length : Nat) : Int)) (ix hs j) m) = 0)) rfl (fun h => Bool.noConfusion (h45.symm.trans h)) (fun _ => ?_)
               apply aw_skip
               refine awr [(1, .num (((j + 1) : Nat) : Int))]
                ⟨370, [1, 2, 3], [(4, .l (.ref 1004 0)), (5, .l (.ref 1005 0)), (8, .i ((q.length : Nat) : Int)), (18, .l (.ref 1018 0)), (28, .i (((j + 1) : Nat) : Int))], (never_frH48 r hs y m ys tt)⟩
                [(((j : Nat) : Int) + 1) = (((j + 1) : Nat) : Int), -9223372036854775808 ≤ (((j + 1) : Nat) : Int) ∧ (((j + 1) : Nat) : Int) < 9223372036854775808] (al2 (by omega) (al1 (by omega))) ?_
               exact ⟨(j + 1), (by first | omega | rfl | assumption | (simp; done)), (show hs.length - (j + 1) < hs.length - j by first | omega | rfl | assumption),
                   (enr [] ⟨rfl, rfl, rfl, rfl, rfl, trivial⟩ (cro rfl (cro rfl (cbl rfl rfl (cbl rfl rfl (cbl rfl rfl (cro rfl trivial)))))))⟩
              ·
               have h43p : (spotsE tt r (y + ((q.length : Nat) : Int)) (ix hs j) m) = 0 := dne h43
               refine awr [(2, .dec false)]
                ⟨370, [1, 2, 3], [(4, .l (.ref 1004 0)), (5, .l (.ref 1005 0)), (8, .i ((q.length : Nat) : Int)), (18, .l (.ref 1018 0)), (28, .i ((j : Nat) : Int)), (29, .ls 13380), (30, .i (spotsE tt r (y + ((q.length : Nat) : Int)) (ix hs j) m)), (346, .b false)], (never_frH52 r hs y m ys tt q j)⟩
                [decide ((spotsE tt r (y + ((q.length : Nat) : Int)) (ix hs j) m) ≠ 0) = false] (al1 h43) ?_
               refine aw_false rfl ?_
               apply aw_skip
               apply aw_seq
               refine awr []
                ⟨370, [1, 2, 3], [(4, .l (.ref 1004 0)), (5, .l (.ref 1005 0)), (8, .i ((q.length : Nat) : Int)), (18, .l (.ref 1018 0)), (28, .i ((j : Nat) : Int)), (29, .ls 13380), (348, .b (decide ((spotsE tt r (y + ((q.length : Nat) : Int)) (ix hs j) m) = 0)))], (never_frH52 r hs y m ys tt q j)⟩
                [] trivial ?_
               have h46 : (decide ((spotsE tt r (y + ((q.length : Nat) : Int)) (ix hs j) m) = 0)) = true := by exact decide_eq_true (by omega)
               refine aw_cond (b := decide ((spotsE tt r (y + ((q.length : Nat) : Int)) (ix hs j) m) = 0)) rfl (fun _ => ?_) (fun h => Bool.noConfusion (h46.symm.trans h))
               apply aw_seq
               have h08 := spots_0 h07 (by omega)
               have htl : (spotsL (openV tt r (y + ((q.length : Nat) : Int))) (ix hs j) m).length ≤ 1000000 := by have := spotsL_len (e := ix hs j) (open_ok hst7) hm20.1; omega
               have hnr := no_room hno7 (ix_mem (l := hs) (i := j) (by omega)) h08.1
               have hxo := open_ok hst7
               have hkt := keepsE_ok hst7 (l := (spotsL (openV tt r (y + ((q.length : Nat) : Int))) (ix hs j) m)) (by have := spotsL_len (e := ix hs j) hxo hm20.1; omega) (spotsB_iff.2 (spotsL_B hxo hm20.1 hej))
               refine aw_ent (T := ⟨370, [1, 2, 3], [(4, .l (.ref 1004 0)), (5, .l (.ref 1005 0)), (8, .i ((q.length : Nat) : Int)), (18, .l (.ref 1018 0)), (28, .i ((j : Nat) : Int)), (29, .ls 13380), (348, .b (decide ((spotsE tt r (y + ((q.length : Nat) : Int)) (ix hs j) m) = 0)))], (never_frH54 r hs y m ys tt q j)⟩)
                   (enr [] ⟨rfl, rfl, rfl, rfl, rfl, rfl, rfl, trivial⟩ (cro rfl (cro rfl (cbl rfl rfl (cbl rfl rfl (cbl rfl rfl (cro rfl (conts_cons rfl (le_vec (by first | rfl | omega | assumption | (rw [h08.2])) (lst_eq (by first | rfl | omega | assumption | (rw [h08.2])))) trivial)))))))) ?_
               refine awd [(1, .call [2001] ((never_frA55 tt)) [(13510, some (never_frK30 tt))]), (3, .call [2] ((never_frA56 r)) [(13530, some (never_frK13 r))]), (9, .call [13510, 13530, 13380] (.tup [.one (.i ((keepsR tt r (y + ((q.length : Nat) : Int)) (spotsL (openV tt r (y + ((q.length : Nat) : Int))) (ix hs j) m)).at_)), .one (.i ((keepsR tt r (y + ((q.length : Nat) : Int)) (spotsL (openV tt r (y + ((q.length : Nat) : Int))) (ix hs j) m)).rule)), .one (.i (keepsE tt r (y + ((q.length : Nat) : Int)) (spotsL (openV tt r (y + ((q.length : Nat) : Int))) (ix hs j) m)))]) [])]
                ⟨370, [1, 2, 3], [(4, .l (.ref 1004 0)), (5, .l (.ref 1005 0)), (8, .i ((q.length : Nat) : Int)), (18, .l (.ref 1018 0)), (28, .i ((j : Nat) : Int)), (31, .i ((keepsR tt r (y + ((q.length : Nat) : Int)) (spotsL (openV tt r (y + ((q.length : Nat) : Int))) (ix hs j) m)).at_)), (33, .i (keepsE tt r (y + ((q.length : Nat) : Int)) (spotsL (openV tt r (y + ((q.length : Nat) : Int))) (ix hs j) m)))], (never_frH48 r hs y m ys tt)⟩
                [CallOK Try.prog 15 [(never_frA31 tt)] [2001] [some (never_frK27 tt)] ((never_frA55 tt)) [(13510, some (never_frK30 tt))], CallOK Try.prog 16 [(never_frA2 r)] [2] [some (never_frK4 r)] ((never_frA56 r)) [(13530, some (never_frK13 r))], -9223372036854775808 ≤ (y + ((q.length : Nat) : Int)) ∧ (y + ((q.length : Nat) : Int)) < 9223372036854775808, CallOK Try.prog 45 [(never_frA55 tt), (never_frA56 r), .i (y + ((q.length : Nat) : Int)), .ls 13380] [13510, 13530, 13380] [some (never_frK30 tt), some (never_frK13 r), some (never_frK53 tt r y q hs j m)] (.tup [.one (.i ((keepsR tt r (y + ((q.length : Nat) : Int)) (spotsL (openV tt r (y + ((q.length : Nat) : Int))) (ix hs j) m)).at_)), .one (.i ((keepsR tt r (y + ((q.length : Nat) : Int)) (spotsL (openV tt r (y + ((q.length : Nat) : Int))) (ix hs j) m)).rule)), .one (.i (keepsE tt r (y + ((q.length : Nat) : Int)) (spotsL (openV tt r (y + ((q.length : Nat) : Int))) (ix hs j) m)))]) []] (al2 (cfr (own_fr tt (by first | omega | (simp; done) | assumption)) [(1, 2001), (2, 13510)] (dem_cons rfl (le_ro rfl el_rfl) dem_nil)) (al2 (cfr (tapsc_fr r (by first | omega | (simp; done) | assumption)) [(1, 2), (2, 13530)] (dem_cons rfl (le_ro rfl el_rfl) dem_nil)) (al2 (by omega) (al1 (cfr (Keeps_fr tt r (y + ((q.length : Nat) : Int)) (spotsL (openV tt r (y + ((q.length : Nat) : Int))) (ix hs j) m) (by first | omega | (simp; done) | assumption) (by first | omega | (simp; done) | assumption) (by first | omega | (simp; done) | assumption)) [(1, 13510), (2, 13530), (3, 13380)] (dem_cons rfl (le_vec_ro rfl el_rfl) (dem_cons rfl (le_vec_ro rfl el_rfl) (dem_cons rfl (le_vec_ro rfl el_rfl) dem_nil)))))))) ?_
               apply aw_seq
               have h47 : (decide ((keepsE tt r (y + ((q.length : Nat) : Int)) (spotsL (openV tt r (y + ((q.length : Nat) : Int))) (ix hs j) m)) ≠ 0)) = false := by exact decide_eq_false (by first | (rw [hkt.1]; decide) | (rw [hkt.2]; omega))
               refine awr [(2, .dec false)]
                ⟨370, [1, 2, 3], [(4, .l (.ref 1004 0)), (5, .l (.ref 1005 0)), (8, .i ((q.length : Nat) : Int)), (18, .l (.ref 1018 0)), (28, .i ((j : Nat) : Int)), (368, .b (decide ((keepsR tt r (y + ((q.length : Nat) : Int)) (spotsL (openV tt r (y + ((q.length : Nat) : Int))) (ix hs j) m)).at_ < 0)))], (never_frH48 r hs y m ys tt)⟩
                [decide ((keepsE tt r (y + ((q.length : Nat) : Int)) (spotsL (openV tt r (y + ((q.length : Nat) : Int))) (ix hs j) m)) ≠ 0) = false] (al1 h47) ?_
               have h48 : (decide ((keepsR tt r (y + ((q.length : Nat) : Int)) (spotsL (openV tt r (y + ((q.length : Nat) : Int))) (ix hs j) m)).at_ < 0)) = false := by exact decide_eq_false (by first | (rw [hkt.1]; decide) | (rw [hkt.2]; omega))
               refine aw_cond (b := decide ((keepsR tt r (y + ((q.length : Nat) : Int)) (spotsL (openV tt r (y + ((q.length : Nat) : Int))) (ix hs j) m)).at_ < 0)) rfl (fun h => Bool.noConfusion (h48.symm.trans h)) (fun _ => ?_)
               apply aw_skip
               refine awr [(1, .num (((j + 1) : Nat) : Int))]
                ⟨370, [1, 2, 3], [(4, .l (.ref 1004 0)), (5, .l (.ref 1005 0)), (8, .i ((q.length : Nat) : Int)), (18, .l (.ref 1018 0)), (28, .i (((j + 1) : Nat) : Int))], (never_frH48 r hs y m ys tt)⟩
                [(((j : Nat) : Int) + 1) = (((j + 1) : Nat) : Int), -9223372036854775808 ≤ (((j + 1) : Nat) : Int) ∧ (((j + 1) : Nat) : Int) < 9223372036854775808] (al2 (by omega) (al1 (by omega))) ?_
               exact ⟨(j + 1), (by first | omega | rfl | assumption | (simp; done)), (show hs.length - (j + 1) < hs.length - j by first | omega | rfl | assumption),
                   (enr [] ⟨rfl, rfl, rfl, rfl, rfl, trivial⟩ (cro rfl (cro rfl (cbl rfl rfl (cbl rfl rfl (cbl rfl rfl (cro rfl trivial)))))))⟩
             ·
              have h42p : ((hs.length : Nat) : Int) ≤ ((j : Nat) : Int) := dlt h42
              refine aw_exit (exit_then (exit_then (exit_in ?_)))
              apply aw_seq
              refine awr [(0, .call [] (.b true) [])]
               ⟨370, [1, 2, 3], [(6, .b true)], []⟩
               [CallOK Try.prog 14 [] [] [] (.b true) []] (al1 (cfr (known_fr ) [] dem_nil)) ?_
              exact aw_ret ⟨.inr rfl, eok ⟨370, [1, 2, 3], [(6, .b true)], []⟩
                  (enr [] ⟨rfl, trivial⟩ trivial) wr_nil⟩
 ·
  have hs0 : startE t r y ≠ 0 := deq h1
  have h49 : (!(decide (startE t r y = 0))) = true := by rw [h1] <;> rfl
  refine awr [(4, .call [1, 2] (.b (decide (startE t r y = 0))) []), (6, .dec true)]
   ⟨370, [1, 2, 3], [(3, .l (.ref 1003 0)), (4, .l (.ref 1004 0)), (5, .l (.ref 1005 0)), (76, .b true)], (never_frH9 t r hs y m ys)⟩
   [CallOK Try.prog 36 [(never_frA1 t), (never_frA2 r), .i y] [1, 2] [some (never_frK3 t), some (never_frK4 r)] (.b (decide (startE t r y = 0))) [], (!(decide (startE t r y = 0))) = true] (al2 (cfr (valid_fr t r y (by first | omega | assumption) (by first | omega | assumption)) [(1, 1), (2, 2)] (dem_cons rfl (le_ro rfl el_rfl) (dem_cons rfl (le_ro rfl el_rfl) dem_nil))) (al1 h49)) ?_
  refine aw_true rfl ?_
  apply aw_seq
  refine awr [(0, .call [] (.b true) [])]
   ⟨370, [1, 2, 3], [(6, .b true)], []⟩
   [CallOK Try.prog 14 [] [] [] (.b true) []] (al1 (cfr (known_fr ) [] dem_nil)) ?_
  exact aw_ret (ret_then ⟨.inr rfl, eok ⟨370, [1, 2, 3], [(6, .b true)], []⟩
      (enr [] ⟨rfl, trivial⟩ trivial) wr_nil⟩)
end Go.Proofs.Ytbpblhmigijkaaa
