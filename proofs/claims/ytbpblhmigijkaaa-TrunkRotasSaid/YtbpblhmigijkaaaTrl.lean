/- TrunkRotas, walked. -/
import Derived.Test.YtbpblhmigijkaaaTw
import Derived.Test.YtbpblhmigijkaaaTrr
import Derived.Test.YtbpblhmigijkaaaTrw
namespace Go.Proofs.Ytbpblhmigijkaaa
open Go.RowKit
set_option linter.unusedVariables false
set_option linter.unusedSimpArgs false
def rotas_frA1 (t : TreeV) : SV := .agg [.i t.year, .i t.glo, .i t.ghi, .i t.wlo, .i t.whi, .i t.health, .ls 1]
def rotas_frA2 (r : RuleV) : SV := .agg [.i r.slo, .i r.shi, .i r.ulo, .i r.uhi, .i r.hlo, .i r.hhi, .i r.apart, .i r.blo, .i r.bhi, .ls 2, .i r.n0, .i r.n1, .i r.n2, .i r.n3, .i r.n4, .i r.opn]
def rotas_frK3 (t : TreeV) : Cn := .ro 3 t.holes.length (Lst eH t.holes)
def rotas_frK4 (r : RuleV) : Cn := .ro 2 r.sizes.length (Lst eZ r.sizes)
def rotas_frH5 (t : TreeV) (r : RuleV) (hs : List Int) : List (Nat × Option Cn) := [(1, some (rotas_frK3 t)), (2, some (rotas_frK4 r)), (3, some (.ro 1 hs.length (Lst eI hs)))]
def rotas_frK6 (t : TreeV) : Cn := .blk 26 [.i t.year, .i t.glo, .i t.ghi, .i t.wlo, .i t.whi, .i t.health, .ls 1]
def rotas_frK7 (r : RuleV) : Cn := .blk 30 [.i r.slo, .i r.shi, .i r.ulo, .i r.uhi, .i r.hlo, .i r.hhi, .i r.apart, .i r.blo, .i r.bhi, .ls 2, .i r.n0, .i r.n1, .i r.n2, .i r.n3, .i r.n4, .i r.opn]
def rotas_frK8 (y : Int) (m : Int) (ys : Int) : Cn := .blk 101 [.i y, .i m, .ls 3, .i ys]
def rotas_frH9 (t : TreeV) (r : RuleV) (hs : List Int) (y : Int) (m : Int) (ys : Int) : List (Nat × Option Cn) := [(1, some (rotas_frK3 t)), (2, some (rotas_frK4 r)), (3, some (.ro 1 hs.length (Lst eI hs))), (1003, some (rotas_frK6 t)), (1004, some (rotas_frK7 r)), (1005, some (rotas_frK8 y m ys))]
def rotas_frA10 (t : TreeV) : SV := .agg [.i t.year, .i t.glo, .i t.ghi, .i t.wlo, .i t.whi, .i t.health, .ls 10470]
def rotas_frK11 (t : TreeV) : Cn := .vec 74 3 ((t.holes).length) (Lst eH t.holes)
def rotas_frA12 (r : RuleV) : SV := .agg [.i r.slo, .i r.shi, .i r.ulo, .i r.uhi, .i r.hlo, .i r.hhi, .i r.apart, .i r.blo, .i r.bhi, .ls 10490, .i r.n0, .i r.n1, .i r.n2, .i r.n3, .i r.n4, .i r.opn]
def rotas_frK13 (r : RuleV) : Cn := .vec 45 2 ((r.sizes).length) (Lst eZ r.sizes)
def rotas_frK14 (t : TreeV) (r : RuleV) (y : Int) (m : Int) (hs : List Int) (ys : Int) : Cn := .vec 57 1 (((rotR t r y m hs ys).1).length) (LstL 2 eS ((rotR t r y m hs ys).1))
def rotas_frH15 (t : TreeV) (r : RuleV) (hs : List Int) (y : Int) (m : Int) (ys : Int) : List (Nat × Option Cn) := [(1, some (rotas_frK3 t)), (2, some (rotas_frK4 r)), (3, some (.ro 1 hs.length (Lst eI hs))), (1003, some (rotas_frK6 t)), (1004, some (rotas_frK7 r)), (1005, some (rotas_frK8 y m ys)), (10600, some (rotas_frK14 t r y m hs ys))]
def rotas_frH16 (t : TreeV) (r : RuleV) (y : Int) (m : Int) (hs : List Int) (ys : Int) : List (Nat × Option Cn) := [(10600, some (rotas_frK14 t r y m hs ys)), (11610, some (rotas_frK14 t r y m hs ys))]
def rotas_frK17 (t : TreeV) (r : RuleV) (y : Int) (m : Int) (hs : List Int) (ys : Int) (i : Nat) : Cn := .ro 2 ((ix ((rotR t r y m hs ys).1) i).length) (Lst eS (ix ((rotR t r y m hs ys).1) i))
set_option maxHeartbeats 8000000 in
set_option maxRecDepth 100000 in
theorem rotas_fr (t : TreeV) (r : RuleV) (y m : Int) (hs : List Int) (ys : Int) (ht : t.holes.length ≤ 9223372036854775807) (hr : r.sizes.length ≤ 9223372036854775807) (hl : hs.length ≤ 9223372036854775807) : CallFr Try.prog 10 [(rotas_frA1 t), (rotas_frA2 r), .agg [.i y, .i m, .ls 3, .i ys]] [1, 2, 3] [some (.ro 3 t.holes.length (Lst eH t.holes)), some (.ro 2 r.sizes.length (Lst eZ r.sizes)), some (.ro 1 hs.length (Lst eI hs))] (.b true) [] := by
 have hmul : 0 < ys → ys ≤ 40 → (hs.length : Int) ≤ 25 → 0 ≤ (hs.length : Int) * ys ∧ (hs.length : Int) * ys ≤ 1000 := fun h1 h2 h3 => ⟨Int.mul_nonneg (by omega) (by omega), Int.le_trans (Int.mul_le_mul h3 h2 (by omega) (by omega)) (by decide)⟩
 refine callFr_of (fn := Try.f10) (by kernel_rfl) rfl (by kernel_rfl) (by kernel_rfl) fun E => ?_
 refine aw_ent (T := ⟨197, [1, 2, 3], [(0, (rotas_frA1 t)), (1, (rotas_frA2 r)), (2, .agg [.i y, .i m, .ls 3, .i ys])], (rotas_frH5 t r hs)⟩) (Ent.refl _) ?_
 apply aw_seq
 refine awr [(0, .new 1003), (1, .new 1004), (2, .new 1005)]
  ⟨197, [1, 2, 3], [(3, .l (.ref 1003 0)), (4, .l (.ref 1004 0)), (5, .l (.ref 1005 0))], (rotas_frH9 t r hs y m ys)⟩
  [] trivial ?_
 refine aw_seqP ⟨197, [1, 2, 3], [(3, .l (.ref 1003 0)), (4, .l (.ref 1004 0)), (5, .l (.ref 1005 0))], (rotas_frH9 t r hs y m ys)⟩ ((t.holes.length ≤ 70 ∧ r.sizes.length ≤ 15) ∧ (hs.length ≤ 25)) ?_ ?_
 ·
  apply aw_seq
  rcases Bool.eq_false_or_eq_true ((largeB t r)) with h1 | h1
  ·
   refine awr [(2, .call [1, 2] (.b (largeB t r)) []), (3, .dec true)]
    ⟨197, [1, 2, 3], [(3, .l (.ref 1003 0)), (4, .l (.ref 1004 0)), (5, .l (.ref 1005 0)), (43, .b true)], (rotas_frH9 t r hs y m ys)⟩
    [CallOK Try.prog 13 [(rotas_frA1 t), (rotas_frA2 r)] [1, 2] [some (rotas_frK3 t), some (rotas_frK4 r)] (.b (largeB t r)) [], (largeB t r) = true] (al2 (cfr (large_fr t r (by first | omega | (simp; done) | assumption) (by first | omega | (simp; done) | assumption)) [(1, 1), (2, 2)] (dem_cons rfl (le_ro rfl el_rfl) (dem_cons rfl (le_ro rfl el_rfl) dem_nil))) (al1 h1)) ?_
   refine aw_true rfl ?_
   apply aw_seq
   refine awr [(0, .call [] (.b true) [])]
    ⟨197, [1, 2, 3], [(6, .b true)], []⟩
    [CallOK Try.prog 14 [] [] [] (.b true) []] (al1 (cfr (known_fr ) [] dem_nil)) ?_
   exact aw_ret (ret_then ⟨.inr rfl, eok ⟨197, [1, 2, 3], [(6, .b true)], []⟩
       (enr [] ⟨rfl, trivial⟩ trivial) wr_nil⟩)
  ·
   rcases Bool.eq_false_or_eq_true (decide (25 < (hs.length : Int))) with h2 | h2
   ·
    have h2p : 25 < (hs.length : Int) := dtr h2
    refine awr [(2, .call [1, 2] (.b (largeB t r)) []), (3, .dec false), (9, .dec true)]
     ⟨197, [1, 2, 3], [(3, .l (.ref 1003 0)), (4, .l (.ref 1004 0)), (5, .l (.ref 1005 0)), (43, .b true)], (rotas_frH9 t r hs y m ys)⟩
     [CallOK Try.prog 13 [(rotas_frA1 t), (rotas_frA2 r)] [1, 2] [some (rotas_frK3 t), some (rotas_frK4 r)] (.b (largeB t r)) [], (largeB t r) = false, decide (25 < (hs.length : Int)) = true] (al2 (cfr (large_fr t r (by first | omega | (simp; done) | assumption) (by first | omega | (simp; done) | assumption)) [(1, 1), (2, 2)] (dem_cons rfl (le_ro rfl el_rfl) (dem_cons rfl (le_ro rfl el_rfl) dem_nil))) (al2 h1 (al1 h2))) ?_
    refine aw_true rfl ?_
    apply aw_seq
    refine awr [(0, .call [] (.b true) [])]
     ⟨197, [1, 2, 3], [(6, .b true)], []⟩
     [CallOK Try.prog 14 [] [] [] (.b true) []] (al1 (cfr (known_fr ) [] dem_nil)) ?_
    exact aw_ret (ret_then ⟨.inr rfl, eok ⟨197, [1, 2, 3], [(6, .b true)], []⟩
        (enr [] ⟨rfl, trivial⟩ trivial) wr_nil⟩)
   ·
    have h2p : (hs.length : Int) ≤ 25 := dlt h2
    rcases Bool.eq_false_or_eq_true (decide (0 < ys)) with h3 | h3
    ·
     have h3p : 0 < ys := dtr h3
     rcases Bool.eq_false_or_eq_true (decide (ys ≤ 40)) with h4 | h4
     ·
      have h4p : ys ≤ 40 := dtr h4
      refine awr [(2, .call [1, 2] (.b (largeB t r)) []), (3, .dec false), (9, .dec false), (13, .dec true), (18, .dec true)]
       ⟨197, [1, 2, 3], [(3, .l (.ref 1003 0)), (4, .l (.ref 1004 0)), (5, .l (.ref 1005 0)), (43, .b (decide (60 < ((hs.length : Int) * ys))))], (rotas_frH9 t r hs y m ys)⟩
       [CallOK Try.prog 13 [(rotas_frA1 t), (rotas_frA2 r)] [1, 2] [some (rotas_frK3 t), some (rotas_frK4 r)] (.b (largeB t r)) [], (largeB t r) = false, decide (25 < (hs.length : Int)) = false, decide (0 < ys) = true, decide (ys ≤ 40) = true, -9223372036854775808 ≤ ((hs.length : Int) * ys) ∧ ((hs.length : Int) * ys) < 9223372036854775808] (al2 (cfr (large_fr t r (by first | omega | (simp; done) | assumption) (by first | omega | (simp; done) | assumption)) [(1, 1), (2, 2)] (dem_cons rfl (le_ro rfl el_rfl) (dem_cons rfl (le_ro rfl el_rfl) dem_nil))) (al2 h1 (al2 h2 (al2 h3 (al2 h4 (al1 (by omega))))))) ?_
      refine aw_cond (b := decide (60 < ((hs.length : Int) * ys))) rfl (fun h5 => ?_) (fun h5 => ?_)
      ·
       have h5p : 60 < ((hs.length : Int) * ys) := dtr h5
       apply aw_seq
       refine awr [(0, .call [] (.b true) [])]
        ⟨197, [1, 2, 3], [(6, .b true)], []⟩
        [CallOK Try.prog 14 [] [] [] (.b true) []] (al1 (cfr (known_fr ) [] dem_nil)) ?_
       exact aw_ret (ret_then ⟨.inr rfl, eok ⟨197, [1, 2, 3], [(6, .b true)], []⟩
           (enr [] ⟨rfl, trivial⟩ trivial) wr_nil⟩)
      ·
       have h5p : ((hs.length : Int) * ys) ≤ 60 := dlt h5
       apply aw_skip
       exact ⟨⟨(by exact large_no (by assumption)), (by omega)⟩, (enr [] ⟨rfl, rfl, rfl, trivial⟩ (cro rfl (cro rfl (cro rfl (cbl rfl rfl (cbl rfl rfl (cbl rfl rfl trivial)))))))⟩
     ·
      have h4p : 40 < ys := dle h4
      refine awr [(2, .call [1, 2] (.b (largeB t r)) []), (3, .dec false), (9, .dec false), (13, .dec true), (18, .dec false)]
       ⟨197, [1, 2, 3], [(3, .l (.ref 1003 0)), (4, .l (.ref 1004 0)), (5, .l (.ref 1005 0)), (43, .b false)], (rotas_frH9 t r hs y m ys)⟩
       [CallOK Try.prog 13 [(rotas_frA1 t), (rotas_frA2 r)] [1, 2] [some (rotas_frK3 t), some (rotas_frK4 r)] (.b (largeB t r)) [], (largeB t r) = false, decide (25 < (hs.length : Int)) = false, decide (0 < ys) = true, decide (ys ≤ 40) = false] (al2 (cfr (large_fr t r (by first | omega | (simp; done) | assumption) (by first | omega | (simp; done) | assumption)) [(1, 1), (2, 2)] (dem_cons rfl (le_ro rfl el_rfl) (dem_cons rfl (le_ro rfl el_rfl) dem_nil))) (al2 h1 (al2 h2 (al2 h3 (al1 h4))))) ?_
      refine aw_false rfl ?_
      apply aw_skip
      exact ⟨⟨(by exact large_no (by assumption)), (by omega)⟩, (enr [] ⟨rfl, rfl, rfl, trivial⟩ (cro rfl (cro rfl (cro rfl (cbl rfl rfl (cbl rfl rfl (cbl rfl rfl trivial)))))))⟩
    ·
     have h3p : ys ≤ 0 := dlt h3
     refine awr [(2, .call [1, 2] (.b (largeB t r)) []), (3, .dec false), (9, .dec false), (13, .dec false)]
      ⟨197, [1, 2, 3], [(3, .l (.ref 1003 0)), (4, .l (.ref 1004 0)), (5, .l (.ref 1005 0)), (43, .b false)], (rotas_frH9 t r hs y m ys)⟩
      [CallOK Try.prog 13 [(rotas_frA1 t), (rotas_frA2 r)] [1, 2] [some (rotas_frK3 t), some (rotas_frK4 r)] (.b (largeB t r)) [], (largeB t r) = false, decide (25 < (hs.length : Int)) = false, decide (0 < ys) = false] (al2 (cfr (large_fr t r (by first | omega | (simp; done) | assumption) (by first | omega | (simp; done) | assumption)) [(1, 1), (2, 2)] (dem_cons rfl (le_ro rfl el_rfl) (dem_cons rfl (le_ro rfl el_rfl) dem_nil))) (al2 h1 (al2 h2 (al1 h3)))) ?_
     refine aw_false rfl ?_
     apply aw_skip
     exact ⟨⟨(by exact large_no (by assumption)), (by omega)⟩, (enr [] ⟨rfl, rfl, rfl, trivial⟩ (cro rfl (cro rfl (cro rfl (cbl rfl rfl (cbl rfl rfl (cbl rfl rfl trivial)))))))⟩
 ·
  rintro ⟨hsz, h25⟩
  apply aw_seq
  refine awd [(1, .call [1] ((rotas_frA10 t)) [(10470, some (rotas_frK11 t))]), (3, .call [2] ((rotas_frA12 r)) [(10490, some (rotas_frK13 r))]), (8, .new 1054), (11, .lst 1057 hs.length (Lst eI hs)), (14, .call [10470, 10490, 1057] (.tup [.one (.ls 10600), .one (.i ((rotR t r y m hs ys).2.1)), .one (.i ((rotR t r y m hs ys).2.2))]) [(10470, none), (10490, none), (1057, none), (10600, some (rotas_frK14 t r y m hs ys))])]
   ⟨197, [1, 2, 3], [(3, .l (.ref 1003 0)), (4, .l (.ref 1004 0)), (5, .l (.ref 1005 0)), (7, .ls 10600), (8, .i ((rotR t r y m hs ys).2.1)), (9, .i ((rotR t r y m hs ys).2.2))], (rotas_frH15 t r hs y m ys)⟩
   [CallOK Try.prog 15 [(rotas_frA1 t)] [1] [some (rotas_frK3 t)] ((rotas_frA10 t)) [(10470, some (rotas_frK11 t))], CallOK Try.prog 16 [(rotas_frA2 r)] [2] [some (rotas_frK4 r)] ((rotas_frA12 r)) [(10490, some (rotas_frK13 r))], 0 + hs.length ≤ 1000000000000, (0 + hs.length) * 8 ≤ 140737488355328, AppOk 1 0 hs.length (exEl 1 []) (Lst eI hs) hs.length (Lst eI hs), CallOK Try.prog 49 [(rotas_frA10 t), (rotas_frA12 r), .i y, .i m, .ls 1057, .i ys] [10470, 10490, 1057] [some (rotas_frK11 t), some (rotas_frK13 r), some (.vec 3 1 hs.length (Lst eI hs))] (.tup [.one (.ls 10600), .one (.i ((rotR t r y m hs ys).2.1)), .one (.i ((rotR t r y m hs ys).2.2))]) [(10470, none), (10490, none), (1057, none), (10600, some (rotas_frK14 t r y m hs ys))]] (al2 (cfr (own_fr t (by first | omega | (simp; done) | assumption)) [(1, 1), (2, 10470)] (dem_cons rfl (le_ro rfl el_rfl) dem_nil)) (al2 (cfr (tapsc_fr r (by first | omega | (simp; done) | assumption)) [(1, 2), (2, 10490)] (dem_cons rfl (le_ro rfl el_rfl) dem_nil)) (al2 (by omega) (al2 (by omega) (al2 (app_nil (by first | omega | rfl | assumption)) (al1 (cfs (Rota_fr t r y (by first | omega | (simp; done) | assumption) (by first | omega | (simp; done) | assumption) m hs ys (by omega)) [(1, 10470), (2, 10490), (3, 1057), (9, 10600)] (dem_cons rfl (le_vec rfl el_rfl) (dem_cons rfl (le_vec rfl el_rfl) (dem_cons rfl (le_vec rfl el_rfl) dem_nil)))))))))) ?_
  apply aw_seq
  refine awr [(4, .call [1, 2] (.i (startE t r y)) [])]
   ⟨197, [1, 2, 3], [(3, .l (.ref 1003 0)), (4, .l (.ref 1004 0)), (5, .l (.ref 1005 0)), (7, .ls 10600), (8, .i ((rotR t r y m hs ys).2.1)), (9, .i ((rotR t r y m hs ys).2.2)), (10, .i (startE t r y))], (rotas_frH15 t r hs y m ys)⟩
   [CallOK Try.prog 24 [(rotas_frA1 t), (rotas_frA2 r), .i y] [1, 2] [some (rotas_frK3 t), some (rotas_frK4 r)] (.i (startE t r y)) []] (al1 (cfr (refStart_fr t r y (by first | omega | (simp; done) | assumption) (by first | omega | (simp; done) | assumption)) [(1, 1), (2, 2)] (dem_cons rfl (le_ro rfl el_rfl) (dem_cons rfl (le_ro rfl el_rfl) dem_nil)))) ?_
  refine aw_seqJ ⟨197, [1, 2, 3], [(3, .l (.ref 1003 0)), (4, .l (.ref 1004 0)), (5, .l (.ref 1005 0)), (7, .ls 10600), (8, .i ((rotR t r y m hs ys).2.1)), (9, .i ((rotR t r y m hs ys).2.2)), (10, .i (rw1 t r y ys hs))], (rotas_frH15 t r hs y m ys)⟩ ?_ ?_
  ·
   apply aw_seq
   rcases Bool.eq_false_or_eq_true (decide ((startE t r y) = 0)) with h6 | h6
   ·
    have h6p : (startE t r y) = 0 := dtr h6
    rcases Bool.eq_false_or_eq_true (decide (20 < (hs.length : Int))) with h7 | h7
    ·
     have h7p : 20 < (hs.length : Int) := dtr h7
     refine awr [(2, .dec true), (7, .dec true)]
      ⟨197, [1, 2, 3], [(3, .l (.ref 1003 0)), (4, .l (.ref 1004 0)), (5, .l (.ref 1005 0)), (7, .ls 10600), (8, .i ((rotR t r y m hs ys).2.1)), (9, .i ((rotR t r y m hs ys).2.2)), (10, .i (startE t r y)), (81, .b true)], (rotas_frH15 t r hs y m ys)⟩
      [decide ((startE t r y) = 0) = true, decide (20 < (hs.length : Int)) = true] (al2 h6 (al1 h7)) ?_
     refine aw_true rfl ?_
     refine awr []
      ⟨197, [1, 2, 3], [(3, .l (.ref 1003 0)), (4, .l (.ref 1004 0)), (5, .l (.ref 1005 0)), (7, .ls 10600), (8, .i ((rotR t r y m hs ys).2.1)), (9, .i ((rotR t r y m hs ys).2.2)), (10, .i 5)], (rotas_frH15 t r hs y m ys)⟩
      [] trivial ?_
     exact (enr [] ⟨rfl, rfl, rfl, rfl, rfl, rfl, (slot_i rfl (by first | rfl | omega | assumption | (exact rw1_a (by assumption)) | (exact rw1_b (by assumption) (by omega)) | (exact rw1_c (by assumption) (by omega) (by omega)))), trivial⟩ (cro rfl (cro rfl (cro rfl (cbl rfl rfl (cbl rfl rfl (cbl rfl rfl (cve rfl trivial))))))))
    ·
     have h7p : (hs.length : Int) ≤ 20 := dlt h7
     refine awr [(2, .dec true), (7, .dec false)]
      ⟨197, [1, 2, 3], [(3, .l (.ref 1003 0)), (4, .l (.ref 1004 0)), (5, .l (.ref 1005 0)), (7, .ls 10600), (8, .i ((rotR t r y m hs ys).2.1)), (9, .i ((rotR t r y m hs ys).2.2)), (10, .i (startE t r y)), (81, .b (decide (40 < ys)))], (rotas_frH15 t r hs y m ys)⟩
      [decide ((startE t r y) = 0) = true, decide (20 < (hs.length : Int)) = false] (al2 h6 (al1 h7)) ?_
     refine aw_cond (b := decide (40 < ys)) rfl (fun h8 => ?_) (fun h8 => ?_)
     ·
      have h8p : 40 < ys := dtr h8
      refine awr []
       ⟨197, [1, 2, 3], [(3, .l (.ref 1003 0)), (4, .l (.ref 1004 0)), (5, .l (.ref 1005 0)), (7, .ls 10600), (8, .i ((rotR t r y m hs ys).2.1)), (9, .i ((rotR t r y m hs ys).2.2)), (10, .i 5)], (rotas_frH15 t r hs y m ys)⟩
       [] trivial ?_
      exact (enr [] ⟨rfl, rfl, rfl, rfl, rfl, rfl, (slot_i rfl (by first | rfl | omega | assumption | (exact rw1_a (by assumption)) | (exact rw1_b (by assumption) (by omega)) | (exact rw1_c (by assumption) (by omega) (by omega)))), trivial⟩ (cro rfl (cro rfl (cro rfl (cbl rfl rfl (cbl rfl rfl (cbl rfl rfl (cve rfl trivial))))))))
     ·
      have h8p : ys ≤ 40 := dlt h8
      apply aw_skip
      exact (enr [] ⟨rfl, rfl, rfl, rfl, rfl, rfl, (slot_i rfl (by first | rfl | omega | assumption | (exact rw1_a (by assumption)) | (exact rw1_b (by assumption) (by omega)) | (exact rw1_c (by assumption) (by omega) (by omega)))), trivial⟩ (cro rfl (cro rfl (cro rfl (cbl rfl rfl (cbl rfl rfl (cbl rfl rfl (cve rfl trivial))))))))
   ·
    have h6p : (startE t r y) ≠ 0 := deq h6
    refine awr [(2, .dec false)]
     ⟨197, [1, 2, 3], [(3, .l (.ref 1003 0)), (4, .l (.ref 1004 0)), (5, .l (.ref 1005 0)), (7, .ls 10600), (8, .i ((rotR t r y m hs ys).2.1)), (9, .i ((rotR t r y m hs ys).2.2)), (10, .i (startE t r y)), (81, .b false)], (rotas_frH15 t r hs y m ys)⟩
     [decide ((startE t r y) = 0) = false] (al1 h6) ?_
    refine aw_false rfl ?_
    apply aw_skip
    exact (enr [] ⟨rfl, rfl, rfl, rfl, rfl, rfl, (slot_i rfl (by first | rfl | omega | assumption | (exact rw1_a (by assumption)) | (exact rw1_b (by assumption) (by omega)) | (exact rw1_c (by assumption) (by omega) (by omega)))), trivial⟩ (cro rfl (cro rfl (cro rfl (cbl rfl rfl (cbl rfl rfl (cbl rfl rfl (cve rfl trivial))))))))
  ·
   refine aw_seqJ ⟨197, [1, 2, 3], [(3, .l (.ref 1003 0)), (4, .l (.ref 1004 0)), (5, .l (.ref 1005 0)), (7, .ls 10600), (8, .i ((rotR t r y m hs ys).2.1)), (9, .i ((rotR t r y m hs ys).2.2)), (10, .i (rw2 t r y ys hs hs.length))], (rotas_frH15 t r hs y m ys)⟩ ?_ ?_
   ·
    apply aw_seq
    refine awr []
     ⟨197, [1, 2, 3], [(3, .l (.ref 1003 0)), (4, .l (.ref 1004 0)), (5, .l (.ref 1005 0)), (7, .ls 10600), (8, .i ((rotR t r y m hs ys).2.1)), (9, .i ((rotR t r y m hs ys).2.2)), (10, .i (rw1 t r y ys hs)), (11, .i 0)], (rotas_frH15 t r hs y m ys)⟩
     [] trivial ?_
    apply aw_block
    refine aw_loop (ι := Nat) (fun zz => ⟨197, [1, 2, 3], [(3, .l (.ref 1003 0)), (4, .l (.ref 1004 0)), (5, .l (.ref 1005 0)), (7, .ls 10600), (8, .i ((rotR t r y m hs ys).2.1)), (9, .i ((rotR t r y m hs ys).2.2)), (10, .i (rw2 t r y ys hs zz)), (11, .i (zz : Int))], (rotas_frH15 t r hs y m ys)⟩) (fun zz => (zz ≤ hs.length)) (fun zz => hs.length - zz) 0 (by first | omega | rfl | assumption | (simp; done))
        (enr [] ⟨rfl, rfl, rfl, rfl, rfl, rfl, (slot_i rfl (by first | rfl | omega | assumption | (exact rw2_0))), rfl, trivial⟩ (cro rfl (cro rfl (cro rfl (cbl rfl rfl (cbl rfl rfl (cbl rfl rfl (cve rfl trivial)))))))) fun zz hp => ?_
    obtain ⟨k, rfl⟩ : ∃ x, x = zz := ⟨_, rfl⟩
    have hkL := hp
    show AW _ E _ _ ⟨197, [1, 2, 3], [(3, .l (.ref 1003 0)), (4, .l (.ref 1004 0)), (5, .l (.ref 1005 0)), (7, .ls 10600), (8, .i ((rotR t r y m hs ys).2.1)), (9, .i ((rotR t r y m hs ys).2.2)), (10, .i (rw2 t r y ys hs k)), (11, .i (k : Int))], (rotas_frH15 t r hs y m ys)⟩
    apply aw_seq
    apply aw_seq
    rcases Bool.eq_false_or_eq_true (decide ((k : Int) < (hs.length : Int))) with h9 | h9
    ·
     have h9p : (k : Int) < (hs.length : Int) := dtr h9
     refine awr [(5, .dec true)]
      ⟨197, [1, 2, 3], [(3, .l (.ref 1003 0)), (4, .l (.ref 1004 0)), (5, .l (.ref 1005 0)), (7, .ls 10600), (8, .i ((rotR t r y m hs ys).2.1)), (9, .i ((rotR t r y m hs ys).2.2)), (10, .i (rw2 t r y ys hs k)), (11, .i (k : Int)), (90, .b (decide ((rw2 t r y ys hs k) = 0)))], (rotas_frH15 t r hs y m ys)⟩
      [decide ((k : Int) < (hs.length : Int)) = true] (al1 h9) ?_
     refine aw_cond (b := decide ((rw2 t r y ys hs k) = 0)) rfl (fun h10 => ?_) (fun h10 => ?_)
     ·
      have h10p : (rw2 t r y ys hs k) = 0 := dtr h10
      apply aw_skip
      apply aw_seq
      apply aw_block
      apply aw_seq
      rcases Bool.eq_false_or_eq_true (decide ((ix hs k) < 0)) with h11 | h11
      ·
       have h11p : (ix hs k) < 0 := dtr h11
       refine awr [(3, .idx k), (6, .dec true)]
        ⟨197, [1, 2, 3], [(3, .l (.ref 1003 0)), (4, .l (.ref 1004 0)), (5, .l (.ref 1005 0)), (7, .ls 10600), (8, .i ((rotR t r y m hs ys).2.1)), (9, .i ((rotR t r y m hs ys).2.2)), (10, .i (rw2 t r y ys hs k)), (11, .i (k : Int)), (106, .b true)], (rotas_frH15 t r hs y m ys)⟩
        [(k : Int) = (k : Int), k < hs.length, k < hs.length, decide ((ix hs k) < 0) = true] (al2 (by omega) (al2 (by omega) (al2 (by omega) (al1 h11)))) ?_
       refine aw_true rfl ?_
       refine awr []
        ⟨197, [1, 2, 3], [(3, .l (.ref 1003 0)), (4, .l (.ref 1004 0)), (5, .l (.ref 1005 0)), (7, .ls 10600), (8, .i ((rotR t r y m hs ys).2.1)), (9, .i ((rotR t r y m hs ys).2.2)), (10, .i 3), (11, .i (k : Int))], (rotas_frH15 t r hs y m ys)⟩
        [] trivial ?_
       refine awr [(1, .num (((k + 1) : Nat) : Int))]
        ⟨197, [1, 2, 3], [(3, .l (.ref 1003 0)), (4, .l (.ref 1004 0)), (5, .l (.ref 1005 0)), (7, .ls 10600), (8, .i ((rotR t r y m hs ys).2.1)), (9, .i ((rotR t r y m hs ys).2.2)), (10, .i 3), (11, .i (((k + 1) : Nat) : Int))], (rotas_frH15 t r hs y m ys)⟩
        [((k : Int) + 1) = (((k + 1) : Nat) : Int), -9223372036854775808 ≤ (((k + 1) : Nat) : Int) ∧ (((k + 1) : Nat) : Int) < 9223372036854775808] (al2 (by omega) (al1 (by omega))) ?_
       exact ⟨(k + 1), (by first | omega | rfl | assumption | (simp; done)), (show hs.length - (k + 1) < hs.length - k by first | omega | rfl | assumption),
           (enr [] ⟨rfl, rfl, rfl, rfl, rfl, rfl, (slot_i rfl (by first | rfl | omega | assumption | (exact rw2_out (by assumption) (by omega) (by omega)) | (exact rw2_in (by assumption) (by omega) (by omega) (by omega)))), rfl, trivial⟩ (cro rfl (cro rfl (cro rfl (cbl rfl rfl (cbl rfl rfl (cbl rfl rfl (cve rfl trivial))))))))⟩
      ·
       have h11p : 0 ≤ (ix hs k) := dlt h11
       refine awr [(3, .idx k), (6, .dec false), (10, .idx k)]
        ⟨197, [1, 2, 3], [(3, .l (.ref 1003 0)), (4, .l (.ref 1004 0)), (5, .l (.ref 1005 0)), (7, .ls 10600), (8, .i ((rotR t r y m hs ys).2.1)), (9, .i ((rotR t r y m hs ys).2.2)), (10, .i (rw2 t r y ys hs k)), (11, .i (k : Int)), (106, .b (decide (5000 < (ix hs k))))], (rotas_frH15 t r hs y m ys)⟩
        [(k : Int) = (k : Int), k < hs.length, k < hs.length, decide ((ix hs k) < 0) = false, (k : Int) = (k : Int), k < hs.length, k < hs.length] (al2 (by omega) (al2 (by omega) (al2 (by omega) (al2 h11 (al2 (by omega) (al2 (by omega) (al1 (by omega)))))))) ?_
       refine aw_cond (b := decide (5000 < (ix hs k))) rfl (fun h12 => ?_) (fun h12 => ?_)
       ·
        have h12p : 5000 < (ix hs k) := dtr h12
        refine awr []
         ⟨197, [1, 2, 3], [(3, .l (.ref 1003 0)), (4, .l (.ref 1004 0)), (5, .l (.ref 1005 0)), (7, .ls 10600), (8, .i ((rotR t r y m hs ys).2.1)), (9, .i ((rotR t r y m hs ys).2.2)), (10, .i 3), (11, .i (k : Int))], (rotas_frH15 t r hs y m ys)⟩
         [] trivial ?_
        refine awr [(1, .num (((k + 1) : Nat) : Int))]
         ⟨197, [1, 2, 3], [(3, .l (.ref 1003 0)), (4, .l (.ref 1004 0)), (5, .l (.ref 1005 0)), (7, .ls 10600), (8, .i ((rotR t r y m hs ys).2.1)), (9, .i ((rotR t r y m hs ys).2.2)), (10, .i 3), (11, .i (((k + 1) : Nat) : Int))], (rotas_frH15 t r hs y m ys)⟩
         [((k : Int) + 1) = (((k + 1) : Nat) : Int), -9223372036854775808 ≤ (((k + 1) : Nat) : Int) ∧ (((k + 1) : Nat) : Int) < 9223372036854775808] (al2 (by omega) (al1 (by omega))) ?_
        exact ⟨(k + 1), (by first | omega | rfl | assumption | (simp; done)), (show hs.length - (k + 1) < hs.length - k by first | omega | rfl | assumption),
            (enr [] ⟨rfl, rfl, rfl, rfl, rfl, rfl, (slot_i rfl (by first | rfl | omega | assumption | (exact rw2_out (by assumption) (by omega) (by omega)) | (exact rw2_in (by assumption) (by omega) (by omega) (by omega)))), rfl, trivial⟩ (cro rfl (cro rfl (cro rfl (cbl rfl rfl (cbl rfl rfl (cbl rfl rfl (cve rfl trivial))))))))⟩
       ·
        have h12p : (ix hs k) ≤ 5000 := dlt h12
        apply aw_skip
        refine awr [(1, .num (((k + 1) : Nat) : Int))]
         ⟨197, [1, 2, 3], [(3, .l (.ref 1003 0)), (4, .l (.ref 1004 0)), (5, .l (.ref 1005 0)), (7, .ls 10600), (8, .i ((rotR t r y m hs ys).2.1)), (9, .i ((rotR t r y m hs ys).2.2)), (10, .i (rw2 t r y ys hs k)), (11, .i (((k + 1) : Nat) : Int))], (rotas_frH15 t r hs y m ys)⟩
         [((k : Int) + 1) = (((k + 1) : Nat) : Int), -9223372036854775808 ≤ (((k + 1) : Nat) : Int) ∧ (((k + 1) : Nat) : Int) < 9223372036854775808] (al2 (by omega) (al1 (by omega))) ?_
        exact ⟨(k + 1), (by first | omega | rfl | assumption | (simp; done)), (show hs.length - (k + 1) < hs.length - k by first | omega | rfl | assumption),
            (enr [] ⟨rfl, rfl, rfl, rfl, rfl, rfl, (slot_i rfl (by first | rfl | omega | assumption | (exact rw2_out (by assumption) (by omega) (by omega)) | (exact rw2_in (by assumption) (by omega) (by omega) (by omega)))), rfl, trivial⟩ (cro rfl (cro rfl (cro rfl (cbl rfl rfl (cbl rfl rfl (cbl rfl rfl (cve rfl trivial))))))))⟩
     ·
      have h10p : (rw2 t r y ys hs k) ≠ 0 := deq h10
      refine aw_exit (exit_then (exit_then (exit_in ?_)))
      exact (enr [] ⟨rfl, rfl, rfl, rfl, rfl, rfl, (slot_i rfl (by first | rfl | omega | assumption | (exact rw2_full (by omega) hkL) | (exact rw2_stop (by assumption)))), trivial⟩ (cro rfl (cro rfl (cro rfl (cbl rfl rfl (cbl rfl rfl (cbl rfl rfl (cve rfl trivial))))))))
    ·
     have h9p : (hs.length : Int) ≤ (k : Int) := dlt h9
     refine awr [(5, .dec false)]
      ⟨197, [1, 2, 3], [(3, .l (.ref 1003 0)), (4, .l (.ref 1004 0)), (5, .l (.ref 1005 0)), (7, .ls 10600), (8, .i ((rotR t r y m hs ys).2.1)), (9, .i ((rotR t r y m hs ys).2.2)), (10, .i (rw2 t r y ys hs k)), (11, .i (k : Int)), (90, .b false)], (rotas_frH15 t r hs y m ys)⟩
      [decide ((k : Int) < (hs.length : Int)) = false] (al1 h9) ?_
     refine aw_false rfl ?_
     refine aw_exit (exit_then (exit_then (exit_in ?_)))
     exact (enr [] ⟨rfl, rfl, rfl, rfl, rfl, rfl, (slot_i rfl (by first | rfl | omega | assumption | (exact rw2_full (by omega) hkL) | (exact rw2_stop (by assumption)))), trivial⟩ (cro rfl (cro rfl (cro rfl (cbl rfl rfl (cbl rfl rfl (cbl rfl rfl (cve rfl trivial))))))))
   ·
    refine aw_seqJ ⟨197, [1, 2, 3], [(3, .l (.ref 1003 0)), (4, .l (.ref 1004 0)), (5, .l (.ref 1005 0)), (7, .ls 10600), (8, .i ((rotR t r y m hs ys).2.1)), (9, .i ((rotR t r y m hs ys).2.2)), (10, .i (rotE t r y m hs ys))], (rotas_frH15 t r hs y m ys)⟩ ?_ ?_
    ·
     apply aw_seq
     rcases Bool.eq_false_or_eq_true (decide ((rw2 t r y ys hs hs.length) = 0)) with h13 | h13
     ·
      have h13p : (rw2 t r y ys hs hs.length) = 0 := dtr h13
      obtain ⟨hs0, hl20, hy40, hwi⟩ := rw2_y (dtr h13)
      have hk3 := (startE_0.1 hs0).2.2
      have hk1 := (startE_0.1 hs0).1.year
      rcases Bool.eq_false_or_eq_true (decide (m < 0)) with h14 | h14
      ·
       have h14p : m < 0 := dtr h14
       refine awr [(2, .dec true), (6, .dec true)]
        ⟨197, [1, 2, 3], [(3, .l (.ref 1003 0)), (4, .l (.ref 1004 0)), (5, .l (.ref 1005 0)), (7, .ls 10600), (8, .i ((rotR t r y m hs ys).2.1)), (9, .i ((rotR t r y m hs ys).2.2)), (10, .i (rw2 t r y ys hs hs.length)), (132, .b true)], (rotas_frH15 t r hs y m ys)⟩
        [decide ((rw2 t r y ys hs hs.length) = 0) = true, decide (m < 0) = true] (al2 h13 (al1 h14)) ?_
       refine aw_true rfl ?_
       refine awr []
        ⟨197, [1, 2, 3], [(3, .l (.ref 1003 0)), (4, .l (.ref 1004 0)), (5, .l (.ref 1005 0)), (7, .ls 10600), (8, .i ((rotR t r y m hs ys).2.1)), (9, .i ((rotR t r y m hs ys).2.2)), (10, .i 3)], (rotas_frH15 t r hs y m ys)⟩
        [] trivial ?_
       exact (enr [] ⟨rfl, rfl, rfl, rfl, rfl, rfl, (slot_i rfl (by first | rfl | omega | assumption | (exact rw3_a (by assumption)) | (exact rw3_b (by assumption) (by omega)) | (exact rw3_c (by assumption) (by omega) (by omega) (by omega) (by omega)))), trivial⟩ (cro rfl (cro rfl (cro rfl (cbl rfl rfl (cbl rfl rfl (cbl rfl rfl (cve rfl trivial))))))))
      ·
       have h14p : 0 ≤ m := dlt h14
       rcases Bool.eq_false_or_eq_true (decide (20 < m)) with h15 | h15
       ·
        have h15p : 20 < m := dtr h15
        refine awr [(2, .dec true), (6, .dec false), (11, .dec true)]
         ⟨197, [1, 2, 3], [(3, .l (.ref 1003 0)), (4, .l (.ref 1004 0)), (5, .l (.ref 1005 0)), (7, .ls 10600), (8, .i ((rotR t r y m hs ys).2.1)), (9, .i ((rotR t r y m hs ys).2.2)), (10, .i (rw2 t r y ys hs hs.length)), (132, .b true)], (rotas_frH15 t r hs y m ys)⟩
         [decide ((rw2 t r y ys hs hs.length) = 0) = true, decide (m < 0) = false, decide (20 < m) = true] (al2 h13 (al2 h14 (al1 h15))) ?_
        refine aw_true rfl ?_
        refine awr []
         ⟨197, [1, 2, 3], [(3, .l (.ref 1003 0)), (4, .l (.ref 1004 0)), (5, .l (.ref 1005 0)), (7, .ls 10600), (8, .i ((rotR t r y m hs ys).2.1)), (9, .i ((rotR t r y m hs ys).2.2)), (10, .i 3)], (rotas_frH15 t r hs y m ys)⟩
         [] trivial ?_
        exact (enr [] ⟨rfl, rfl, rfl, rfl, rfl, rfl, (slot_i rfl (by first | rfl | omega | assumption | (exact rw3_a (by assumption)) | (exact rw3_b (by assumption) (by omega)) | (exact rw3_c (by assumption) (by omega) (by omega) (by omega) (by omega)))), trivial⟩ (cro rfl (cro rfl (cro rfl (cbl rfl rfl (cbl rfl rfl (cbl rfl rfl (cve rfl trivial))))))))
       ·
        have h15p : m ≤ 20 := dlt h15
        rcases Bool.eq_false_or_eq_true (decide (ys < 0)) with h16 | h16
        ·
         have h16p : ys < 0 := dtr h16
         refine awr [(2, .dec true), (6, .dec false), (11, .dec false), (16, .dec true)]
          ⟨197, [1, 2, 3], [(3, .l (.ref 1003 0)), (4, .l (.ref 1004 0)), (5, .l (.ref 1005 0)), (7, .ls 10600), (8, .i ((rotR t r y m hs ys).2.1)), (9, .i ((rotR t r y m hs ys).2.2)), (10, .i (rw2 t r y ys hs hs.length)), (132, .b true)], (rotas_frH15 t r hs y m ys)⟩
          [decide ((rw2 t r y ys hs hs.length) = 0) = true, decide (m < 0) = false, decide (20 < m) = false, decide (ys < 0) = true] (al2 h13 (al2 h14 (al2 h15 (al1 h16)))) ?_
         refine aw_true rfl ?_
         refine awr []
          ⟨197, [1, 2, 3], [(3, .l (.ref 1003 0)), (4, .l (.ref 1004 0)), (5, .l (.ref 1005 0)), (7, .ls 10600), (8, .i ((rotR t r y m hs ys).2.1)), (9, .i ((rotR t r y m hs ys).2.2)), (10, .i 3)], (rotas_frH15 t r hs y m ys)⟩
          [] trivial ?_
         exact (enr [] ⟨rfl, rfl, rfl, rfl, rfl, rfl, (slot_i rfl (by first | rfl | omega | assumption | (exact rw3_a (by assumption)) | (exact rw3_b (by assumption) (by omega)) | (exact rw3_c (by assumption) (by omega) (by omega) (by omega) (by omega)))), trivial⟩ (cro rfl (cro rfl (cro rfl (cbl rfl rfl (cbl rfl rfl (cbl rfl rfl (cve rfl trivial))))))))
        ·
         have h16p : 0 ≤ ys := dlt h16
         refine awr [(2, .dec true), (6, .dec false), (11, .dec false), (16, .dec false)]
          ⟨197, [1, 2, 3], [(3, .l (.ref 1003 0)), (4, .l (.ref 1004 0)), (5, .l (.ref 1005 0)), (7, .ls 10600), (8, .i ((rotR t r y m hs ys).2.1)), (9, .i ((rotR t r y m hs ys).2.2)), (10, .i (rw2 t r y ys hs hs.length)), (132, .b (decide (9999 < ((y + ys) - 1))))], (rotas_frH15 t r hs y m ys)⟩
          [decide ((rw2 t r y ys hs hs.length) = 0) = true, decide (m < 0) = false, decide (20 < m) = false, decide (ys < 0) = false, -9223372036854775808 ≤ (y + ys) ∧ (y + ys) < 9223372036854775808, -9223372036854775808 ≤ ((y + ys) - 1) ∧ ((y + ys) - 1) < 9223372036854775808] (al2 h13 (al2 h14 (al2 h15 (al2 h16 (al2 (by omega) (al1 (by omega))))))) ?_
         refine aw_cond (b := decide (9999 < ((y + ys) - 1))) rfl (fun h17 => ?_) (fun h17 => ?_)
         ·
          have h17p : 9999 < ((y + ys) - 1) := dtr h17
          refine awr []
           ⟨197, [1, 2, 3], [(3, .l (.ref 1003 0)), (4, .l (.ref 1004 0)), (5, .l (.ref 1005 0)), (7, .ls 10600), (8, .i ((rotR t r y m hs ys).2.1)), (9, .i ((rotR t r y m hs ys).2.2)), (10, .i 3)], (rotas_frH15 t r hs y m ys)⟩
           [] trivial ?_
          exact (enr [] ⟨rfl, rfl, rfl, rfl, rfl, rfl, (slot_i rfl (by first | rfl | omega | assumption | (exact rw3_a (by assumption)) | (exact rw3_b (by assumption) (by omega)) | (exact rw3_c (by assumption) (by omega) (by omega) (by omega) (by omega)))), trivial⟩ (cro rfl (cro rfl (cro rfl (cbl rfl rfl (cbl rfl rfl (cbl rfl rfl (cve rfl trivial))))))))
         ·
          have h17p : ((y + ys) - 1) ≤ 9999 := dlt h17
          apply aw_skip
          exact (enr [] ⟨rfl, rfl, rfl, rfl, rfl, rfl, (slot_i rfl (by first | rfl | omega | assumption | (exact rw3_a (by assumption)) | (exact rw3_b (by assumption) (by omega)) | (exact rw3_c (by assumption) (by omega) (by omega) (by omega) (by omega)))), trivial⟩ (cro rfl (cro rfl (cro rfl (cbl rfl rfl (cbl rfl rfl (cbl rfl rfl (cve rfl trivial))))))))
     ·
      have h13p : (rw2 t r y ys hs hs.length) ≠ 0 := deq h13
      refine awr [(2, .dec false)]
       ⟨197, [1, 2, 3], [(3, .l (.ref 1003 0)), (4, .l (.ref 1004 0)), (5, .l (.ref 1005 0)), (7, .ls 10600), (8, .i ((rotR t r y m hs ys).2.1)), (9, .i ((rotR t r y m hs ys).2.2)), (10, .i (rw2 t r y ys hs hs.length)), (132, .b false)], (rotas_frH15 t r hs y m ys)⟩
       [decide ((rw2 t r y ys hs hs.length) = 0) = false] (al1 h13) ?_
      refine aw_false rfl ?_
      apply aw_skip
      exact (enr [] ⟨rfl, rfl, rfl, rfl, rfl, rfl, (slot_i rfl (by first | rfl | omega | assumption | (exact rw3_a (by assumption)) | (exact rw3_b (by assumption) (by omega)) | (exact rw3_c (by assumption) (by omega) (by omega) (by omega) (by omega)))), trivial⟩ (cro rfl (cro rfl (cro rfl (cbl rfl rfl (cbl rfl rfl (cbl rfl rfl (cve rfl trivial))))))))
    ·
     apply aw_seq
     apply aw_seq
     refine awr []
      ⟨197, [1, 2, 3], [(3, .l (.ref 1003 0)), (4, .l (.ref 1004 0)), (5, .l (.ref 1005 0)), (7, .ls 10600), (8, .i ((rotR t r y m hs ys).2.1)), (9, .i ((rotR t r y m hs ys).2.2)), (10, .i (rotE t r y m hs ys)), (134, .b (decide ((rotE t r y m hs ys) ≠ 0)))], (rotas_frH15 t r hs y m ys)⟩
      [] trivial ?_
     refine aw_cond (b := decide ((rotE t r y m hs ys) ≠ 0)) rfl (fun h18 => ?_) (fun h18 => ?_)
     ·
      have h18p : (rotE t r y m hs ys) ≠ 0 := dtr h18
      apply aw_seq
      have hbad : rotE t r y m hs ys ≠ 0 := by first | assumption | simpa using (by assumption : decide (rotE t r y m hs ys ≠ 0) = true)
      have h19 : (decide ((rotR t r y m hs ys).2.2 = (rotE t r y m hs ys))) = true := by exact decide_eq_true (by rw [rotR_bad hbad])
      have h20 : (decide ((rotR t r y m hs ys).2.1 = 0)) = true := by exact decide_eq_true (by rw [rotR_bad hbad]; first | rfl | done)
      have h21 : (decide (((((rotR t r y m hs ys).1).length : Nat) : Int) = 0)) = true := by exact decide_eq_true (by rw [rotR_bad hbad]; first | rfl | done)
      refine awr [(3, .dec true), (7, .dec true), (12, .dec true), (13, .call [] (.b true) [])]
       ⟨197, [1, 2, 3], [(6, .b true)], []⟩
       [decide ((rotR t r y m hs ys).2.2 = (rotE t r y m hs ys)) = true, decide ((rotR t r y m hs ys).2.1 = 0) = true, decide (((((rotR t r y m hs ys).1).length : Nat) : Int) = 0) = true, CallOK Try.prog 14 [] [] [] (.b true) []] (al2 h19 (al2 h20 (al2 h21 (al1 (cfr (known_fr ) [] dem_nil))))) ?_
      exact aw_ret (ret_then ⟨.inr rfl, eok ⟨197, [1, 2, 3], [(6, .b true)], []⟩
          (enr [] ⟨rfl, trivial⟩ trivial) wr_nil⟩)
     ·
      have h18p : (rotE t r y m hs ys) = 0 := dne h18
      apply aw_skip
      apply aw_seq
      have hE0 : rotE t r y m hs ys = 0 := by first | assumption | simpa using (by assumption : decide (rotE t r y m hs ys ≠ 0) = false)
      obtain ⟨hsh, h40⟩ := rotR_len hE0
      refine awr [(10, .call [1, 2, 3] (.tup [.one (.ls 11610), .one (.i ((rotR t r y m hs ys).2.1)), .one (.i ((rotR t r y m hs ys).2.2))]) [(11610, some (rotas_frK14 t r y m hs ys))])]
       ⟨197, [1, 2, 3], [(7, .ls 10600), (8, .i ((rotR t r y m hs ys).2.1)), (9, .i ((rotR t r y m hs ys).2.2)), (12, .ls 11610), (13, .i ((rotR t r y m hs ys).2.1)), (14, .i ((rotR t r y m hs ys).2.2))], (rotas_frH16 t r y m hs ys)⟩
       [CallOK Try.prog 50 [(rotas_frA1 t), (rotas_frA2 r), .i y, .i m, .ls 3, .i ys] [1, 2, 3] [some (rotas_frK3 t), some (rotas_frK4 r), some (.ro 1 hs.length (Lst eI hs))] (.tup [.one (.ls 11610), .one (.i ((rotR t r y m hs ys).2.1)), .one (.i ((rotR t r y m hs ys).2.2))]) [(11610, some (rotas_frK14 t r y m hs ys))]] (al1 (cfs (refRota_fr t r y (by first | omega | (simp; done) | assumption) (by first | omega | (simp; done) | assumption) m hs ys (by omega) (by assumption)) [(1, 1), (2, 2), (3, 3), (9, 11610)] (dem_cons rfl (le_ro rfl el_rfl) (dem_cons rfl (le_ro rfl el_rfl) (dem_cons rfl (le_ro rfl el_rfl) dem_nil))))) ?_
      apply aw_seq
      apply aw_seq
      have h22 : (decide ((rotR t r y m hs ys).2.2 ≠ (rotR t r y m hs ys).2.2)) = false := by simp
      have h23 : (decide ((rotR t r y m hs ys).2.1 ≠ (rotR t r y m hs ys).2.1)) = false := by simp
      refine awr [(3, .dec false), (8, .dec false)]
       ⟨197, [1, 2, 3], [(7, .ls 10600), (12, .ls 11610), (179, .b (decide (((((rotR t r y m hs ys).1).length : Nat) : Int) ≠ ((((rotR t r y m hs ys).1).length : Nat) : Int))))], (rotas_frH16 t r y m hs ys)⟩
       [decide ((rotR t r y m hs ys).2.2 ≠ (rotR t r y m hs ys).2.2) = false, decide ((rotR t r y m hs ys).2.1 ≠ (rotR t r y m hs ys).2.1) = false] (al2 h22 (al1 h23)) ?_
      have h24 : (decide (((((rotR t r y m hs ys).1).length : Nat) : Int) ≠ ((((rotR t r y m hs ys).1).length : Nat) : Int))) = false := by simp
      refine aw_cond (b := decide (((((rotR t r y m hs ys).1).length : Nat) : Int) ≠ ((((rotR t r y m hs ys).1).length : Nat) : Int))) rfl (fun h => Bool.noConfusion (h24.symm.trans h)) (fun _ => ?_)
      apply aw_skip
      apply aw_seq
      apply aw_seq
      refine awr []
       ⟨197, [1, 2, 3], [(7, .ls 10600), (12, .ls 11610), (15, .i 0)], (rotas_frH16 t r y m hs ys)⟩
       [] trivial ?_
      apply aw_block
      refine aw_loop (ι := Nat) (fun zz => ⟨197, [1, 2, 3], [(7, .ls 10600), (12, .ls 11610), (15, .i (zz : Int))], (rotas_frH16 t r y m hs ys)⟩) (fun zz => (zz ≤ (rotR t r y m hs ys).1.length)) (fun zz => (rotR t r y m hs ys).1.length - zz) 0 (by first | omega | rfl | assumption | (simp; done))
          (enr [] ⟨rfl, rfl, rfl, trivial⟩ (cve rfl (cve rfl trivial))) fun zz hp => ?_
      obtain ⟨i, rfl⟩ : ∃ x, x = zz := ⟨_, rfl⟩
      have hiL := hp
      show AW _ E _ _ ⟨197, [1, 2, 3], [(7, .ls 10600), (12, .ls 11610), (15, .i (i : Int))], (rotas_frH16 t r y m hs ys)⟩
      apply aw_seq
      apply aw_seq
      refine awr []
       ⟨197, [1, 2, 3], [(7, .ls 10600), (12, .ls 11610), (15, .i (i : Int)), (183, .b (decide ((i : Int) < ((((rotR t r y m hs ys).1).length : Nat) : Int))))], (rotas_frH16 t r y m hs ys)⟩
       [] trivial ?_
      refine aw_cond (b := decide ((i : Int) < ((((rotR t r y m hs ys).1).length : Nat) : Int))) rfl (fun h25 => ?_) (fun h25 => ?_)
      ·
       have h25p : (i : Int) < ((((rotR t r y m hs ys).1).length : Nat) : Int) := dtr h25
       apply aw_skip
       apply aw_seq
       apply aw_block
       apply aw_seq
       have hq1 := hsh _ (ix_mem (l := (rotR t r y m hs ys).1) (i := i) (by omega))
       refine awd [(2, .idx i), (3, .many [1189]), (6, .idx i), (7, .many [1193]), (8, .call [1189, 1193] (.b true) [])]
        ⟨197, [1, 2, 3], [(7, .ls 10600), (12, .ls 11610), (15, .i (i : Int)), (195, .b false)], (rotas_frH16 t r y m hs ys)⟩
        [(i : Int) = (i : Int), i < ((rotR t r y m hs ys).1).length, i < ((rotR t r y m hs ys).1).length, (i : Int) = (i : Int), i < ((rotR t r y m hs ys).1).length, i < ((rotR t r y m hs ys).1).length, CallOK Try.prog 35 [.ls 1189, .ls 1193] [1189, 1193] [some (rotas_frK17 t r y m hs ys i), some (rotas_frK17 t r y m hs ys i)] (.b true) []] (al2 (by omega) (al2 (by omega) (al2 (by omega) (al2 (by omega) (al2 (by omega) (al2 (by omega) (al1 (cfr (spotsS_fr (ix ((rotR t r y m hs ys).1) i) (by first | omega | (simp; done) | assumption)) [(1, 1189), (2, 1193)] (dem_cons rfl (le_ro rfl el_rfl) (dem_cons rfl (le_ro rfl el_rfl) dem_nil)))))))))) ?_
       refine aw_false rfl ?_
       apply aw_skip
       refine awr [(1, .num (((i + 1) : Nat) : Int))]
        ⟨197, [1, 2, 3], [(7, .ls 10600), (12, .ls 11610), (15, .i (((i + 1) : Nat) : Int))], (rotas_frH16 t r y m hs ys)⟩
        [((i : Int) + 1) = (((i + 1) : Nat) : Int), -9223372036854775808 ≤ (((i + 1) : Nat) : Int) ∧ (((i + 1) : Nat) : Int) < 9223372036854775808] (al2 (by omega) (al1 (by omega))) ?_
       exact ⟨(i + 1), (by first | omega | rfl | assumption | (simp; done)), (show (rotR t r y m hs ys).1.length - (i + 1) < (rotR t r y m hs ys).1.length - i by first | omega | rfl | assumption),
           (enr [] ⟨rfl, rfl, rfl, trivial⟩ (cve rfl (cve rfl trivial)))⟩
      ·
       have h25p : ((((rotR t r y m hs ys).1).length : Nat) : Int) ≤ (i : Int) := dlt h25
       refine aw_exit (exit_then (exit_then (exit_in ?_)))
       apply aw_seq
       refine awr [(0, .call [] (.b true) [])]
        ⟨197, [1, 2, 3], [(6, .b true)], []⟩
        [CallOK Try.prog 14 [] [] [] (.b true) []] (al1 (cfr (known_fr ) [] dem_nil)) ?_
       exact aw_ret ⟨.inr rfl, eok ⟨197, [1, 2, 3], [(6, .b true)], []⟩
           (enr [] ⟨rfl, trivial⟩ trivial) wr_nil⟩
end Go.Proofs.Ytbpblhmigijkaaa
