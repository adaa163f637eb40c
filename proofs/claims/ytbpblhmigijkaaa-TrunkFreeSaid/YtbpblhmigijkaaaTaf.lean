/- The reference: the free angles. -/
import Derived.Test.YtbpblhmigijkaaaTag
namespace Go.Proofs.Ytbpblhmigijkaaa
open Go.RowKit
set_option linter.unusedVariables false
set_option linter.unusedSimpArgs false
def refFree_frA1 (t : TreeV) : SV := .agg [.i t.year, .i t.glo, .i t.ghi, .i t.wlo, .i t.whi, .i t.health, .ls 1]
def refFree_frA2 (r : RuleV) : SV := .agg [.i r.slo, .i r.shi, .i r.ulo, .i r.uhi, .i r.hlo, .i r.hhi, .i r.apart, .i r.blo, .i r.bhi, .ls 2, .i r.n0, .i r.n1, .i r.n2, .i r.n3, .i r.n4, .i r.opn]
def refFree_frK3 (t : TreeV) : Cn := .ro 3 t.holes.length (Lst eH t.holes)
def refFree_frK4 (r : RuleV) : Cn := .ro 2 r.sizes.length (Lst eZ r.sizes)
def refFree_frK5 (t : TreeV) : Cn := .blk 26 [.i t.year, .i t.glo, .i t.ghi, .i t.wlo, .i t.whi, .i t.health, .ls 1]
def refFree_frK6 (r : RuleV) : Cn := .blk 30 [.i r.slo, .i r.shi, .i r.ulo, .i r.uhi, .i r.hlo, .i r.hhi, .i r.apart, .i r.blo, .i r.bhi, .ls 2, .i r.n0, .i r.n1, .i r.n2, .i r.n3, .i r.n4, .i r.opn]
def refFree_frH7 (t : TreeV) (r : RuleV) : List (Nat × Option Cn) := [(1, some (refFree_frK3 t)), (2, some (refFree_frK4 r)), (1004, some (refFree_frK5 t)), (1005, some (refFree_frK6 r))]
def refFree_frK8 (t : TreeV) (r : RuleV) (y : Int) (e : Int) : Cn := .blk 131 (flagsC (angV (openV t r y) e))
def refFree_frH9 (t : TreeV) (r : RuleV) (y : Int) (e : Int) : List (Nat × Option Cn) := [(1009, some (refFree_frK8 t r y e)), (1017, some (.vec 23 2 0 (exEl 2 [])))]
def refFree_frH10 (t : TreeV) (r : RuleV) (y : Int) (e : Int) (o : List Rg) : List (Nat × Option Cn) := [(1009, some (refFree_frK8 t r y e)), (2001, some (.vec 23 2 o.length (Lst eG o)))]
def refFree_frK11 (o : List Rg) (a : Nat) : Cn := .vec 23 2 o.length (Lst eG (o.set ((((o.length : Nat) : Int) - 1).toNat) (⟨(ix o ((((o.length : Nat) : Int) - 1).toNat)).low, ((a : Nat) : Int)⟩ : Rg)))
def refFree_frH12 (t : TreeV) (r : RuleV) (y : Int) (e : Int) (o : List Rg) (a : Nat) : List (Nat × Option Cn) := [(1009, some (refFree_frK8 t r y e)), (2001, some (refFree_frK11 o a))]
def refFree_frK13 (o : List Rg) (a : Nat) : Cn := .vec 23 2 (o.length + 1) (Lst eG (o ++ [(⟨((a : Nat) : Int), ((a : Nat) : Int)⟩ : Rg)]))
def refFree_frH14 (t : TreeV) (r : RuleV) (y : Int) (e : Int) (o : List Rg) (a : Nat) : List (Nat × Option Cn) := [(1009, some (refFree_frK8 t r y e)), (1046, some (refFree_frK13 o a))]
def refFree_frK15 (t : TreeV) (r : RuleV) (y : Int) (e : Int) : Cn := .vec 23 2 ((freeV (openV t r y) e).length) (Lst eG (freeV (openV t r y) e))
set_option maxRecDepth 100000 in
theorem refFree_fr (t : TreeV) (r : RuleV) (y : Int) (ht : t.holes.length ≤ 1000000) (hr : r.sizes.length ≤ 1000000) (e : Int) (h0 : startE t r y = 0) (he : 0 ≤ e ∧ e ≤ 5000) : CallFr Try.prog 32 [(refFree_frA1 t), (refFree_frA2 r), .i y, .i e] [1, 2] [some (.ro 3 t.holes.length (Lst eH t.holes)), some (.ro 2 r.sizes.length (Lst eZ r.sizes))] (.ls 9) [(9, some (.vec 23 2 ((freeV (openV t r y) e).length) (Lst eG (freeV (openV t r y) e))))] := by
 have hx := open_ok h0
 have hfo := free_ok hx e
 have hse := free_sep hx e
 have hfl := hfo.len
 refine callFr_of (fn := Try.f32) (by kernel_rfl) rfl (by kernel_rfl) (by kernel_rfl) fun E => ?_
 refine aw_ent (T := ⟨48, [1, 2], [(0, (refFree_frA1 t)), (1, (refFree_frA2 r)), (2, .i y), (3, .i e)], [(1, some (refFree_frK3 t)), (2, some (refFree_frK4 r))]⟩) (Ent.refl _) ?_
 apply aw_seq
 refine awr [(0, .new 1004), (1, .new 1005)]
  ⟨48, [1, 2], [(2, .i y), (3, .i e), (4, .l (.ref 1004 0)), (5, .l (.ref 1005 0))], (refFree_frH7 t r)⟩
  [] trivial ?_
 apply aw_seq
 refine awr [(4, .call [1, 2] (.agg (flagsC (angV (openV t r y) e))) []), (5, .new 1017), (6, .new 1009)]
  ⟨48, [1, 2], [(9, .l (.ref 1009 0)), (10, .ls 1017)], (refFree_frH9 t r y e)⟩
  [CallOK Try.prog 70 [(refFree_frA1 t), (refFree_frA2 r), .i y, .i e] [1, 2] [some (refFree_frK3 t), some (refFree_frK4 r)] (.agg (flagsC (angV (openV t r y) e))) []] (al1 (cfr (refAngles_fr t r y (by first | omega | (simp; done) | assumption) (by first | omega | (simp; done) | assumption) e (by assumption) (by assumption)) [(1, 1), (2, 2)] (dem_cons rfl (le_ro rfl el_rfl) (dem_cons rfl (le_ro rfl el_rfl) dem_nil)))) ?_
 apply aw_seq
 apply aw_seq
 refine awr []
  ⟨48, [1, 2], [(9, .l (.ref 1009 0)), (10, .ls 1017), (11, .i 0)], (refFree_frH9 t r y e)⟩
  [] trivial ?_
 apply aw_block
 refine aw_loop (ι := Nat × List Rg) (fun zz => ⟨48, [1, 2], [(9, .l (.ref 1009 0)), (10, .ls 2001), (11, .i ((zz.1 : Nat) : Int))], (refFree_frH10 t r y e zz.2)⟩) (fun zz => (zz.1 ≤ 3600) ∧ (zz.2 = cutR (freeV (openV t r y) e) ((zz.1 : Nat) : Int)) ∧ (zz.2.length ≤ 181)) (fun zz => 3600 - zz.1) (0, []) ⟨(by (try dsimp only); first | omega | rfl | assumption | (simp; done)), (by (try dsimp only); exact (cut_none (fun r hr => by have := hfo.ok r hr; omega)).symm), (by (try dsimp only); first | omega | rfl | assumption | (simp; done))⟩
     (enr [(2001, 1017)] ⟨rfl, rfl, rfl, trivial⟩ (cbl rfl (flagsC_le rfl) (conts_cons rfl (le_vec (by first | rfl | omega | assumption | (simp only [List.length_set, List.length_append, List.length_singleton]; done) | (rw [hoq]; exact cut_all (fun r hr => by have := hfo.ok r hr; omega)) | (rw [hoq, cut_all (fun r hr => by have := hfo.ok r hr; omega)])) (fun i hi => absurd hi (by omega))) trivial))) fun zz hp => ?_
 obtain ⟨a, o⟩ := zz
 obtain ⟨haL, hoq, hol⟩ := hp
 dsimp only at haL hoq hol
 show AW _ E _ _ ⟨48, [1, 2], [(9, .l (.ref 1009 0)), (10, .ls 2001), (11, .i ((a : Nat) : Int))], (refFree_frH10 t r y e o)⟩
 apply aw_seq
 apply aw_seq
 refine awr []
  ⟨48, [1, 2], [(9, .l (.ref 1009 0)), (10, .ls 2001), (11, .i ((a : Nat) : Int)), (19, .b (decide (((a : Nat) : Int) < 3600)))], (refFree_frH10 t r y e o)⟩
  [] trivial ?_
 refine aw_cond (b := decide (((a : Nat) : Int) < 3600)) rfl (fun h1 => ?_) (fun h1 => ?_)
 ·
  have h1p : ((a : Nat) : Int) < 3600 := dtr h1
  apply aw_skip
  apply aw_seq
  apply aw_block
  apply aw_seq
  apply aw_seq
  refine awr [(1, .act [1009] (.l (.ref 1009 a)) []), (2, .act [1009] (.b ((angV (openV t r y) e) a)) [])]
   ⟨48, [1, 2], [(9, .l (.ref 1009 0)), (10, .ls 2001), (11, .i ((a : Nat) : Int)), (25, .b (!((angV (openV t r y) e) a)))], (refFree_frH10 t r y e o)⟩
   [ActOK Try.prog (.indexAddr 131 (.tmp 9) (.tmp 22)) 0 [.l (.ref 1009 0), .i ((a : Nat) : Int)] [1009] [some (refFree_frK8 t r y e)] (.l (.ref 1009 a)) [], ActOK Try.prog (.load 4 (.tmp 23)) 4 [.l (.ref 1009 a)] [1009] [some (refFree_frK8 t r y e)] (.b ((angV (openV t r y) e) a)) []] (al2 (act_idxAt2 (k := a) (n := 3600) (e := 4) (m := 1) (by kernel_rfl) (by kernel_rfl) rfl (by omega) (by omega) (by omega)) (al1 (act_loadAt (by kernel_rfl) rfl (flags_at (by omega))))) ?_
  refine aw_cond (b := (!((angV (openV t r y) e) a))) rfl (fun h2 => ?_) (fun h2 => ?_)
  ·
   refine aw_exit (exit_then (exit_in ?_))
   refine awr [(1, .num (((a + 1) : Nat) : Int))]
    ⟨48, [1, 2], [(9, .l (.ref 1009 0)), (10, .ls 2001), (11, .i (((a + 1) : Nat) : Int))], (refFree_frH10 t r y e o)⟩
    [(((a : Nat) : Int) + 1) = (((a + 1) : Nat) : Int), -9223372036854775808 ≤ (((a + 1) : Nat) : Int) ∧ (((a + 1) : Nat) : Int) < 9223372036854775808] (al2 (by omega) (al1 (by omega))) ?_
   have hnq : o = cutR (freeV (openV t r y) e) (((a + 1 : Nat) : Nat) : Int) := by rw [show (((a + 1 : Nat) : Nat) : Int) = ((a : Nat) : Int) + 1 by omega]; first | (rw [hoq]; exact (cut_no hse (by simpa [angV] using (by assumption : (!(angV (openV t r y) e a)) = true))).symm) | (rw [hc2, show (((o.length : Nat) : Int) - 1).toNat = o.length - 1 by omega]) | (rw [hoq]; exact (cut_new hse hcu hpn).symm)
   exact ⟨((a + 1), o), ⟨(by (try dsimp only); first | omega | rfl | assumption | (simp; done)), (by (try dsimp only); exact hnq), (by (try dsimp only); rw [hnq]; exact Nat.le_trans cut_len hfl)⟩, (show 3600 - (a + 1) < 3600 - a by first | omega | rfl | assumption),
       (enr [] ⟨rfl, rfl, rfl, trivial⟩ (cbl rfl (flagsC_le rfl) (cve rfl trivial)))⟩
  ·
   apply aw_skip
   apply aw_seq
   have hcu : inS (freeV (openV t r y) e) ((a : Nat) : Int) = true := by simpa [angV] using (by assumption : (!(angV (openV t r y) e a)) = false)
   rcases Bool.eq_false_or_eq_true (decide (0 < ((a : Nat) : Int))) with h3 | h3
   ·
    have h3p : 0 < ((a : Nat) : Int) := dtr h3
    refine awr [(2, .dec true), (5, .act [1009] (.l (.ref 1009 ((((a : Nat) : Int) - 1).toNat))) []), (6, .act [1009] (.b ((angV (openV t r y) e) ((((a : Nat) : Int) - 1).toNat))) [])]
     ⟨48, [1, 2], [(9, .l (.ref 1009 0)), (10, .ls 2001), (11, .i ((a : Nat) : Int)), (33, .b ((angV (openV t r y) e) ((((a : Nat) : Int) - 1).toNat)))], (refFree_frH10 t r y e o)⟩
     [decide (0 < ((a : Nat) : Int)) = true, -9223372036854775808 ≤ (((a : Nat) : Int) - 1) ∧ (((a : Nat) : Int) - 1) < 9223372036854775808, ActOK Try.prog (.indexAddr 131 (.tmp 9) (.tmp 30)) 0 [.l (.ref 1009 0), .i (((a : Nat) : Int) - 1)] [1009] [some (refFree_frK8 t r y e)] (.l (.ref 1009 ((((a : Nat) : Int) - 1).toNat))) [], ActOK Try.prog (.load 4 (.tmp 31)) 4 [.l (.ref 1009 ((((a : Nat) : Int) - 1).toNat))] [1009] [some (refFree_frK8 t r y e)] (.b ((angV (openV t r y) e) ((((a : Nat) : Int) - 1).toNat))) []] (al2 h3 (al2 (by omega) (al2 (act_idxAt2 (k := (((a : Nat) : Int) - 1).toNat) (n := 3600) (e := 4) (m := 1) (by kernel_rfl) (by kernel_rfl) rfl (by omega) (by omega) (by omega)) (al1 (act_loadAt (by kernel_rfl) rfl (flags_at (by omega))))))) ?_
    refine aw_cond (b := ((angV (openV t r y) e) ((((a : Nat) : Int) - 1).toNat))) rfl (fun h4 => ?_) (fun h4 => ?_)
    ·
     have hpr : inS (freeV (openV t r y) e) (((a : Nat) : Int) - 1) = true := by rw [← ang_prev (by assumption)]; assumption
     have hco := cut_on hse hcu hpr
     have hol0 : 0 < o.length := by rw [hoq]; exact hco.1
     have hc2 := hco.2
     rw [← hoq] at hc2
     refine awr [(5, .idx ((((o.length : Nat) : Int) - 1).toNat)), (7, .lst 0 0 (Lst eG (o.set ((((o.length : Nat) : Int) - 1).toNat) (⟨(ix o ((((o.length : Nat) : Int) - 1).toNat)).low, ((a : Nat) : Int)⟩ : Rg))))]
      ⟨48, [1, 2], [(9, .l (.ref 1009 0)), (10, .ls 2001), (11, .i ((a : Nat) : Int))], (refFree_frH12 t r y e o a)⟩
      [-9223372036854775808 ≤ (((o.length : Nat) : Int) - 1) ∧ (((o.length : Nat) : Int) - 1) < 9223372036854775808, (((o.length : Nat) : Int) - 1) = (((((o.length : Nat) : Int) - 1).toNat : Nat) : Int), (((o.length : Nat) : Int) - 1).toNat < o.length, (((o.length : Nat) : Int) - 1).toNat < o.length, (((o.length : Nat) : Int) - 1).toNat < o.length, StoreOk 2 o.length (Lst eG o) ((((o.length : Nat) : Int) - 1).toNat) 1 [.i ((a : Nat) : Int)] (Lst eG (o.set ((((o.length : Nat) : Int) - 1).toNat) (⟨(ix o ((((o.length : Nat) : Int) - 1).toNat)).low, ((a : Nat) : Int)⟩ : Rg)))] (al2 (by omega) (al2 (by omega) (al2 (by omega) (al2 (by omega) (al2 (by omega) (al1 (store_at (by first | omega | rfl | assumption) (fun | 0, _ => rfl | 1, _ => rfl | (n + 2), h => absurd h (by omega))))))))) ?_
     refine awr [(1, .num (((a + 1) : Nat) : Int))]
      ⟨48, [1, 2], [(9, .l (.ref 1009 0)), (10, .ls 2001), (11, .i (((a + 1) : Nat) : Int))], (refFree_frH12 t r y e o a)⟩
      [(((a : Nat) : Int) + 1) = (((a + 1) : Nat) : Int), -9223372036854775808 ≤ (((a + 1) : Nat) : Int) ∧ (((a + 1) : Nat) : Int) < 9223372036854775808] (al2 (by omega) (al1 (by omega))) ?_
     have hnq : (o.set ((((o.length : Nat) : Int) - 1).toNat) (⟨(ix o ((((o.length : Nat) : Int) - 1).toNat)).low, ((a : Nat) : Int)⟩ : Rg)) = cutR (freeV (openV t r y) e) (((a + 1 : Nat) : Nat) : Int) := by rw [show (((a + 1 : Nat) : Nat) : Int) = ((a : Nat) : Int) + 1 by omega]; first | (rw [hoq]; exact (cut_no hse (by simpa [angV] using (by assumption : (!(angV (openV t r y) e a)) = true))).symm) | (rw [hc2, show (((o.length : Nat) : Int) - 1).toNat = o.length - 1 by omega]) | (rw [hoq]; exact (cut_new hse hcu hpn).symm)
     exact ⟨((a + 1), (o.set ((((o.length : Nat) : Int) - 1).toNat) (⟨(ix o ((((o.length : Nat) : Int) - 1).toNat)).low, ((a : Nat) : Int)⟩ : Rg))), ⟨(by (try dsimp only); first | omega | rfl | assumption | (simp; done)), (by (try dsimp only); exact hnq), (by (try dsimp only); rw [hnq]; exact Nat.le_trans cut_len hfl)⟩, (show 3600 - (a + 1) < 3600 - a by first | omega | rfl | assumption),
         (enr [] ⟨rfl, rfl, rfl, trivial⟩ (cbl rfl (flagsC_le rfl) (conts_cons rfl (le_vec (by first | rfl | omega | assumption | (simp only [List.length_set, List.length_append, List.length_singleton]; done) | (rw [hoq]; exact cut_all (fun r hr => by have := hfo.ok r hr; omega)) | (rw [hoq, cut_all (fun r hr => by have := hfo.ok r hr; omega)])) el_rfl) trivial)))⟩
    ·
     have hpn : inS (freeV (openV t r y) e) (((a : Nat) : Int) - 1) = false := by first | exact free_neg hx (by omega) | (rw [← ang_prev (by assumption)]; assumption)
     refine awr [(4, .new 1045), (5, .lst 1046 (o.length + 1) (Lst eG (o ++ [(⟨((a : Nat) : Int), ((a : Nat) : Int)⟩ : Rg)])))]
      ⟨48, [1, 2], [(9, .l (.ref 1009 0)), (10, .ls 1046), (11, .i ((a : Nat) : Int))], (refFree_frH14 t r y e o a)⟩
      [o.length + 1 ≤ 1000000000000, (o.length + 1) * 16 ≤ 140737488355328, AppOk 2 o.length 1 (Lst eG o) (exEl 2 [.i ((a : Nat) : Int), .i ((a : Nat) : Int)]) (o.length + 1) (Lst eG (o ++ [(⟨((a : Nat) : Int), ((a : Nat) : Int)⟩ : Rg)]))] (al2 (by omega) (al2 (by omega) (al1 (app_one (by first | omega | rfl | assumption) (by first | omega | rfl | assumption) (fun | 0, _ => rfl | 1, _ => rfl | (n + 2), h => absurd h (by omega)))))) ?_
     refine awr [(1, .num (((a + 1) : Nat) : Int))]
      ⟨48, [1, 2], [(9, .l (.ref 1009 0)), (10, .ls 1046), (11, .i (((a + 1) : Nat) : Int))], (refFree_frH14 t r y e o a)⟩
      [(((a : Nat) : Int) + 1) = (((a + 1) : Nat) : Int), -9223372036854775808 ≤ (((a + 1) : Nat) : Int) ∧ (((a + 1) : Nat) : Int) < 9223372036854775808] (al2 (by omega) (al1 (by omega))) ?_
     have hnq : (o ++ [(⟨((a : Nat) : Int), ((a : Nat) : Int)⟩ : Rg)]) = cutR (freeV (openV t r y) e) (((a + 1 : Nat) : Nat) : Int) := by rw [show (((a + 1 : Nat) : Nat) : Int) = ((a : Nat) : Int) + 1 by omega]; first | (rw [hoq]; exact (cut_no hse (by simpa [angV] using (by assumption : (!(angV (openV t r y) e a)) = true))).symm) | (rw [hc2, show (((o.length : Nat) : Int) - 1).toNat = o.length - 1 by omega]) | (rw [hoq]; exact (cut_new hse hcu hpn).symm)
     exact ⟨((a + 1), (o ++ [(⟨((a : Nat) : Int), ((a : Nat) : Int)⟩ : Rg)])), ⟨(by (try dsimp only); first | omega | rfl | assumption | (simp; done)), (by (try dsimp only); exact hnq), (by (try dsimp only); rw [hnq]; exact Nat.le_trans cut_len hfl)⟩, (show 3600 - (a + 1) < 3600 - a by first | omega | rfl | assumption),
         (enr [(2001, 1046)] ⟨rfl, rfl, rfl, trivial⟩ (cbl rfl (flagsC_le rfl) (conts_cons rfl (le_vec (by first | rfl | omega | assumption | (simp only [List.length_set, List.length_append, List.length_singleton]; done) | (rw [hoq]; exact cut_all (fun r hr => by have := hfo.ok r hr; omega)) | (rw [hoq, cut_all (fun r hr => by have := hfo.ok r hr; omega)])) el_rfl) trivial)))⟩
   ·
    have h3p : ((a : Nat) : Int) ≤ 0 := dlt h3
    refine awr [(2, .dec false)]
     ⟨48, [1, 2], [(9, .l (.ref 1009 0)), (10, .ls 2001), (11, .i ((a : Nat) : Int)), (33, .b false)], (refFree_frH10 t r y e o)⟩
     [decide (0 < ((a : Nat) : Int)) = false] (al1 h3) ?_
    refine aw_false rfl ?_
    have hpn : inS (freeV (openV t r y) e) (((a : Nat) : Int) - 1) = false := by first | exact free_neg hx (by omega) | (rw [← ang_prev (by assumption)]; assumption)
    refine awr [(4, .new 1045), (5, .lst 1046 (o.length + 1) (Lst eG (o ++ [(⟨((a : Nat) : Int), ((a : Nat) : Int)⟩ : Rg)])))]
     ⟨48, [1, 2], [(9, .l (.ref 1009 0)), (10, .ls 1046), (11, .i ((a : Nat) : Int))], (refFree_frH14 t r y e o a)⟩
     [o.length + 1 ≤ 1000000000000, (o.length + 1) * 16 ≤ 140737488355328, AppOk 2 o.length 1 (Lst eG o) (exEl 2 [.i ((a : Nat) : Int), .i ((a : Nat) : Int)]) (o.length + 1) (Lst eG (o ++ [(⟨((a : Nat) : Int), ((a : Nat) : Int)⟩ : Rg)]))] (al2 (by omega) (al2 (by omega) (al1 (app_one (by first | omega | rfl | assumption) (by first | omega | rfl | assumption) (fun | 0, _ => rfl | 1, _ => rfl | (n + 2), h => absurd h (by omega)))))) ?_
    refine awr [(1, .num (((a + 1) : Nat) : Int))]
     ⟨48, [1, 2], [(9, .l (.ref 1009 0)), (10, .ls 1046), (11, .i (((a + 1) : Nat) : Int))], (refFree_frH14 t r y e o a)⟩
     [(((a : Nat) : Int) + 1) = (((a + 1) : Nat) : Int), -9223372036854775808 ≤ (((a + 1) : Nat) : Int) ∧ (((a + 1) : Nat) : Int) < 9223372036854775808] (al2 (by omega) (al1 (by omega))) ?_
    have hnq : (o ++ [(⟨((a : Nat) : Int), ((a : Nat) : Int)⟩ : Rg)]) = cutR (freeV (openV t r y) e) (((a + 1 : Nat) : Nat) : Int) := by rw [show (((a + 1 : Nat) : Nat) : Int) = ((a : Nat) : Int) + 1 by omega]; first | (rw [hoq]; exact (cut_no hse (by simpa [angV] using (by assumption : (!(angV (openV t r y) e a)) = true))).symm) | (rw [hc2, show (((o.length : Nat) : Int) - 1).toNat = o.length - 1 by omega]) | (rw [hoq]; exact (cut_new hse hcu hpn).symm)
    exact ⟨((a + 1), (o ++ [(⟨((a : Nat) : Int), ((a : Nat) : Int)⟩ : Rg)])), ⟨(by (try dsimp only); first | omega | rfl | assumption | (simp; done)), (by (try dsimp only); exact hnq), (by (try dsimp only); rw [hnq]; exact Nat.le_trans cut_len hfl)⟩, (show 3600 - (a + 1) < 3600 - a by first | omega | rfl | assumption),
        (enr [(2001, 1046)] ⟨rfl, rfl, rfl, trivial⟩ (cbl rfl (flagsC_le rfl) (conts_cons rfl (le_vec (by first | rfl | omega | assumption | (simp only [List.length_set, List.length_append, List.length_singleton]; done) | (rw [hoq]; exact cut_all (fun r hr => by have := hfo.ok r hr; omega)) | (rw [hoq, cut_all (fun r hr => by have := hfo.ok r hr; omega)])) el_rfl) trivial)))⟩
 ·
  have h1p : 3600 ≤ ((a : Nat) : Int) := dlt h1
  refine aw_exit (exit_then (exit_then (exit_in ?_)))
  apply aw_seq
  refine awr []
   ⟨48, [1, 2], [(8, .ls 2001)], [(2001, some (.vec 23 2 o.length (Lst eG o)))]⟩
   [] trivial ?_
  exact aw_ret ⟨.inr rfl, eok ⟨48, [1, 2], [(8, .ls 9)], [(9, some (refFree_frK15 t r y e))]⟩
      (enr [(9, 2001)] ⟨rfl, trivial⟩ (conts_cons rfl (le_vec (by first | rfl | omega | assumption | (simp only [List.length_set, List.length_append, List.length_singleton]; done) | (rw [hoq]; exact cut_all (fun r hr => by have := hfo.ok r hr; omega)) | (rw [hoq, cut_all (fun r hr => by have := hfo.ok r hr; omega)])) (lst_eq (by first | rfl | omega | assumption | (simp only [List.length_set, List.length_append, List.length_singleton]; done) | (rw [hoq]; exact cut_all (fun r hr => by have := hfo.ok r hr; omega)) | (rw [hoq, cut_all (fun r hr => by have := hfo.ok r hr; omega)])))) trivial)) (wr_cons rfl (plain_Lst plain_eG) wr_nil)⟩
end Go.Proofs.Ytbpblhmigijkaaa
