/- The reference: rows of spots, and how many there are. -/
import Derived.Test.YtbpblhmigijkaaaTcw
namespace Go.Proofs.Ytbpblhmigijkaaa
open Go.RowKit
set_option linter.unusedVariables false
set_option linter.unusedSimpArgs false
def refRow_frA1 (t : TreeV) : SV := .agg [.i t.year, .i t.glo, .i t.ghi, .i t.wlo, .i t.whi, .i t.health, .ls 1]
def refRow_frA2 (r : RuleV) : SV := .agg [.i r.slo, .i r.shi, .i r.ulo, .i r.uhi, .i r.hlo, .i r.hhi, .i r.apart, .i r.blo, .i r.bhi, .ls 2, .i r.n0, .i r.n1, .i r.n2, .i r.n3, .i r.n4, .i r.opn]
def refRow_frK3 (t : TreeV) : Cn := .ro 3 t.holes.length (Lst eH t.holes)
def refRow_frK4 (r : RuleV) : Cn := .ro 2 r.sizes.length (Lst eZ r.sizes)
def refRow_frK5 (t : TreeV) : Cn := .blk 26 [.i t.year, .i t.glo, .i t.ghi, .i t.wlo, .i t.whi, .i t.health, .ls 1]
def refRow_frK6 (r : RuleV) : Cn := .blk 30 [.i r.slo, .i r.shi, .i r.ulo, .i r.uhi, .i r.hlo, .i r.hhi, .i r.apart, .i r.blo, .i r.bhi, .ls 2, .i r.n0, .i r.n1, .i r.n2, .i r.n3, .i r.n4, .i r.opn]
def refRow_frH7 (t : TreeV) (r : RuleV) : List (Nat × Option Cn) := [(1, some (refRow_frK3 t)), (2, some (refRow_frK4 r)), (1005, some (refRow_frK5 t)), (1006, some (refRow_frK6 r))]
def refRow_frH8 (t : TreeV) (r : RuleV) : List (Nat × Option Cn) := [(1, some (refRow_frK3 t)), (2, some (refRow_frK4 r)), (1005, some (refRow_frK5 t)), (1006, some (refRow_frK6 r)), (1016, some (.vec 72 2 0 (exEl 2 [])))]
def refRow_frK9 (t : TreeV) (r : RuleV) (y : Int) (e : Int) (m : Int) : Cn := .vec 72 2 ((spotsL (openV t r y) e m).length) (Lst eS (spotsL (openV t r y) e m))
def refRow_frK10 (t : TreeV) (r : RuleV) (y : Int) (e : Int) (m : Int) : Cn := .vec 3 1 ((chO (nextV (openV t r y) e) (gapV (openV t r y)) m (angV (openV t r y) e) 3600).length) (Lst eI (chO (nextV (openV t r y) e) (gapV (openV t r y)) m (angV (openV t r y) e) 3600))
def refRow_frH11 (t : TreeV) (r : RuleV) (y : Int) (e : Int) (m : Int) : List (Nat × Option Cn) := [(1016, some (.vec 72 2 0 (exEl 2 []))), (10400, some (refRow_frK10 t r y e m))]
def refRow_frH12 (o : List Spt) (t : TreeV) (r : RuleV) (y : Int) (e : Int) (m : Int) : List (Nat × Option Cn) := [(2001, some (.vec 72 2 o.length (Lst eS o))), (10400, some (refRow_frK10 t r y e m))]
def refRow_frK13 (o : List Spt) (t : TreeV) (r : RuleV) (y : Int) (e : Int) (m : Int) (i : Nat) : Cn := .vec 72 2 (o.length + 1) (Lst eS (o ++ [(⟨(ix (chO (nextV (openV t r y) e) (gapV (openV t r y)) m (angV (openV t r y) e) 3600) i), e⟩ : Spt)]))
def refRow_frH14 (o : List Spt) (t : TreeV) (r : RuleV) (y : Int) (e : Int) (m : Int) (i : Nat) : List (Nat × Option Cn) := [(1059, some (refRow_frK13 o t r y e m i)), (10400, some (refRow_frK10 t r y e m))]
set_option maxHeartbeats 8000000 in
set_option maxRecDepth 100000 in
theorem refRow_fr (t : TreeV) (r : RuleV) (y : Int) (ht : t.holes.length ≤ 1000000) (hr : r.sizes.length ≤ 1000000) (e m : Int) (h0 : startE t r y = 0) (he : 0 ≤ e ∧ e ≤ 5000) (hm : 0 ≤ m ∧ m ≤ 20) : CallFr Try.prog 34 [(refRow_frA1 t), (refRow_frA2 r), .i y, .i e, .i m] [1, 2] [some (.ro 3 t.holes.length (Lst eH t.holes)), some (.ro 2 r.sizes.length (Lst eZ r.sizes))] (.tup [.one (.ls 9), .one (.v (.bool ((anglesO (nextV (openV t r y) e) (gapV (openV t r y)) m).isSome)))]) [(9, some (.vec 72 2 ((spotsL (openV t r y) e m).length) (Lst eS (spotsL (openV t r y) e m))))] := by
 have hx := open_ok h0
 refine callFr_of (fn := Try.f34) (by kernel_rfl) rfl (by kernel_rfl) (by kernel_rfl) fun E => ?_
 refine aw_ent (T := ⟨61, [1, 2], [(0, (refRow_frA1 t)), (1, (refRow_frA2 r)), (2, .i y), (3, .i e), (4, .i m)], [(1, some (refRow_frK3 t)), (2, some (refRow_frK4 r))]⟩) (Ent.refl _) ?_
 apply aw_seq
 refine awr [(0, .new 1005), (1, .new 1006)]
  ⟨61, [1, 2], [(2, .i y), (3, .i e), (4, .i m), (5, .l (.ref 1005 0)), (6, .l (.ref 1006 0))], (refRow_frH7 t r)⟩
  [] trivial ?_
 apply aw_seq
 refine awr [(0, .new 1016)]
  ⟨61, [1, 2], [(2, .i y), (3, .i e), (4, .i m), (5, .l (.ref 1005 0)), (6, .l (.ref 1006 0)), (12, .ls 1016)], (refRow_frH8 t r)⟩
  [] trivial ?_
 apply aw_seq
 apply aw_seq
 refine awr []
  ⟨61, [1, 2], [(2, .i y), (3, .i e), (4, .i m), (5, .l (.ref 1005 0)), (6, .l (.ref 1006 0)), (12, .ls 1016), (18, .b (decide (m = 0)))], (refRow_frH8 t r)⟩
  [] trivial ?_
 refine aw_cond (b := decide (m = 0)) rfl (fun h1 => ?_) (fun h1 => ?_)
 ·
  have h1p : m = 0 := dtr h1
  apply aw_seq
  have hA : anglesO (nextV (openV t r y) e) (gapV (openV t r y)) m = some [] := by unfold anglesO; rw [if_pos (by omega)]
  refine awr []
   ⟨61, [1, 2], [(10, .ls 1016), (11, .b true)], [(1016, some (.vec 72 2 0 (exEl 2 [])))]⟩
   [] trivial ?_
  exact aw_ret (ret_then ⟨.inr rfl, eok ⟨61, [1, 2], [(10, .ls 9), (11, .b ((anglesO (nextV (openV t r y) e) (gapV (openV t r y)) m).isSome))], [(9, some (refRow_frK9 t r y e m))]⟩
      (enr [(9, 1016)] ⟨rfl, (slot_b (a := true) rfl (by first | rfl | omega | assumption | (rw [hz]) | (rw [hA]; first | rfl | (simp; done)) | ((unfold spotsL; rw [hA]; first | rfl | (simp; done))))), trivial⟩ (conts_cons rfl (le_vec (by first | rfl | omega | assumption | (rw [hz]) | (rw [hA]; first | rfl | (simp; done)) | ((unfold spotsL; rw [hA]; first | rfl | (simp; done)))) (fun i hi => absurd hi (by omega))) trivial)) (wr_cons rfl (plain_Lst plain_eS) wr_nil)⟩)
 ·
  have h1p : m ≠ 0 := deq h1
  apply aw_skip
  apply aw_seq
  apply aw_seq
  refine awr [(7, .call [] (.b (within r.blo r.bhi [e])) [])]
   ⟨61, [1, 2], [(2, .i y), (3, .i e), (4, .i m), (5, .l (.ref 1005 0)), (6, .l (.ref 1006 0)), (12, .ls 1016), (28, .b (!(within r.blo r.bhi [e])))], (refRow_frH8 t r)⟩
   [CallOK Try.prog 63 [.i e, .i r.blo, .i r.bhi] [] [] (.b (within r.blo r.bhi [e])) []] (al1 (cfr (refIn_fr e r.blo r.bhi) [] dem_nil)) ?_
  refine aw_cond (b := (!(within r.blo r.bhi [e]))) rfl (fun h2 => ?_) (fun h2 => ?_)
  ·
   apply aw_seq
   have hA : anglesO (nextV (openV t r y) e) (gapV (openV t r y)) m = none := ang_far (x := openV t r y) (show within r.blo r.bhi [e] = false by simpa using (by assumption : (!(within r.blo r.bhi [e])) = true)) (by omega) hm.1
   refine awr []
    ⟨61, [1, 2], [(10, .l (.v (.slice none 0 0))), (11, .b false)], []⟩
    [] trivial ?_
   exact aw_ret (ret_then ⟨.inr rfl, eok ⟨61, [1, 2], [(10, .ls 9), (11, .b ((anglesO (nextV (openV t r y) e) (gapV (openV t r y)) m).isSome))], [(9, some (refRow_frK9 t r y e m))]⟩
       (Ent.trans (Ent.nilSlot 10 70001 72 2 (Lst eS (spotsL (openV t r y) e m)) rfl (by omega) (by kernel_rfl)) (enr [(9, 70001)] ⟨rfl, (slot_b (a := false) rfl (by first | rfl | omega | assumption | (rw [hz]) | (rw [hA]; first | rfl | (simp; done)) | ((unfold spotsL; rw [hA]; first | rfl | (simp; done))))), trivial⟩ (conts_cons rfl (le_vec (by first | rfl | omega | assumption | (rw [hz]) | (rw [hA]; first | rfl | (simp; done)) | ((unfold spotsL; rw [hA]; first | rfl | (simp; done)))) el_rfl) trivial))) (wr_cons rfl (plain_Lst plain_eS) wr_nil)⟩)
  ·
   apply aw_skip
   apply aw_seq
   have hw : within (openV t r y).r.blo (openV t r y).r.bhi [e] = true := by show within r.blo r.bhi [e] = true; simpa using (by assumption : (!(within r.blo r.bhi [e])) = false)
   have hnx := angV_next hw
   refine awd [(4, .call [1, 2] (.agg (flagsC (angV (openV t r y) e))) []), (8, .call [1, 2] (.i (gap2V (openV t r y))) []), (10, .call [] (.tup [.one (.i (((chO (nextV (openV t r y) e) (gapV (openV t r y)) m (angV (openV t r y) e) 3600).length : Nat) : Int)), .one (.ls 10400)]) [(10400, some (refRow_frK10 t r y e m))])]
    ⟨61, [1, 2], [(3, .i e), (4, .i m), (12, .ls 1016), (13, .i (((chO (nextV (openV t r y) e) (gapV (openV t r y)) m (angV (openV t r y) e) 3600).length : Nat) : Int)), (14, .ls 10400)], (refRow_frH11 t r y e m)⟩
    [CallOK Try.prog 70 [(refRow_frA1 t), (refRow_frA2 r), .i y, .i e] [1, 2] [some (refRow_frK3 t), some (refRow_frK4 r)] (.agg (flagsC (angV (openV t r y) e))) [], CallOK Try.prog 72 [(refRow_frA1 t), (refRow_frA2 r), .i y] [1, 2] [some (refRow_frK3 t), some (refRow_frK4 r)] (.i (gap2V (openV t r y))) [], CallOK Try.prog 71 [.agg (flagsC (angV (openV t r y) e)), .i (gap2V (openV t r y)), .i m] [] [] (.tup [.one (.i (((chO (nextV (openV t r y) e) (gapV (openV t r y)) m (angV (openV t r y) e) 3600).length : Nat) : Int)), .one (.ls 10400)]) [(10400, some (refRow_frK10 t r y e m))]] (al2 (cfr (refAngles_fr t r y (by first | omega | (simp; done) | assumption) (by first | omega | (simp; done) | assumption) e (by assumption) (by assumption)) [(1, 1), (2, 2)] (dem_cons rfl (le_ro rfl el_rfl) (dem_cons rfl (le_ro rfl el_rfl) dem_nil))) (al2 (cfr (refGap_fr t r y (by first | omega | (simp; done) | assumption) (by first | omega | (simp; done) | assumption) (by assumption)) [(1, 1), (2, 2)] (dem_cons rfl (le_ro rfl el_rfl) (dem_cons rfl (le_ro rfl el_rfl) dem_nil))) (al1 (cfr (refChains_fr (openV t r y) e m (by assumption) (by assumption) (by omega)) [(9, 10400)] dem_nil)))) ?_
   apply aw_seq
   apply aw_seq
   refine awr []
    ⟨61, [1, 2], [(3, .i e), (4, .i m), (12, .ls 1016), (14, .ls 10400), (45, .b (decide ((((chO (nextV (openV t r y) e) (gapV (openV t r y)) m (angV (openV t r y) e) 3600).length : Nat) : Int) < m)))], (refRow_frH11 t r y e m)⟩
    [] trivial ?_
   refine aw_cond (b := decide ((((chO (nextV (openV t r y) e) (gapV (openV t r y)) m (angV (openV t r y) e) 3600).length : Nat) : Int) < m)) rfl (fun h3 => ?_) (fun h3 => ?_)
   ·
    have h3p : (((chO (nextV (openV t r y) e) (gapV (openV t r y)) m (angV (openV t r y) e) 3600).length : Nat) : Int) < m := dtr h3
    apply aw_seq
    have hA : anglesO (nextV (openV t r y) e) (gapV (openV t r y)) m = none := ch_none hnx (by omega) (by omega)
    refine awr []
     ⟨61, [1, 2], [(10, .l (.v (.slice none 0 0))), (11, .b false)], []⟩
     [] trivial ?_
    exact aw_ret (ret_then ⟨.inr rfl, eok ⟨61, [1, 2], [(10, .ls 9), (11, .b ((anglesO (nextV (openV t r y) e) (gapV (openV t r y)) m).isSome))], [(9, some (refRow_frK9 t r y e m))]⟩
        (Ent.trans (Ent.nilSlot 10 70002 72 2 (Lst eS (spotsL (openV t r y) e m)) rfl (by omega) (by kernel_rfl)) (enr [(9, 70002)] ⟨rfl, (slot_b (a := false) rfl (by first | rfl | omega | assumption | (rw [hz]) | (rw [hA]; first | rfl | (simp; done)) | ((unfold spotsL; rw [hA]; first | rfl | (simp; done))))), trivial⟩ (conts_cons rfl (le_vec (by first | rfl | omega | assumption | (rw [hz]) | (rw [hA]; first | rfl | (simp; done)) | ((unfold spotsL; rw [hA]; first | rfl | (simp; done)))) el_rfl) trivial))) (wr_cons rfl (plain_Lst plain_eS) wr_nil)⟩)
   ·
    have h3p : m ≤ (((chO (nextV (openV t r y) e) (gapV (openV t r y)) m (angV (openV t r y) e) 3600).length : Nat) : Int) := dlt h3
    apply aw_skip
    apply aw_seq
    apply aw_seq
    have hA : anglesO (nextV (openV t r y) e) (gapV (openV t r y)) m = some (chO (nextV (openV t r y) e) (gapV (openV t r y)) m (angV (openV t r y) e) 3600) := ch_some hnx (by omega) (by omega)
    have hcl := chO_len (n := nextV (openV t r y) e) (g := gapV (openV t r y)) (p := angV (openV t r y) e) (f := 3600) hm.1
    refine awr []
     ⟨61, [1, 2], [(3, .i e), (4, .i m), (12, .ls 1016), (14, .ls 10400), (15, .i 0)], (refRow_frH11 t r y e m)⟩
     [] trivial ?_
    apply aw_block
    refine aw_loop (ι := Nat × List Spt) (fun zz => ⟨61, [1, 2], [(3, .i e), (4, .i m), (12, .ls 2001), (14, .ls 10400), (15, .i (zz.1 : Int))], (refRow_frH12 zz.2 t r y e m)⟩) (fun zz => ((zz.1 : Int) ≤ m) ∧ (zz.2.length = zz.1) ∧ (zz.2 ++ ((chO (nextV (openV t r y) e) (gapV (openV t r y)) m (angV (openV t r y) e) 3600).drop zz.1).map (fun a => (⟨a, e⟩ : Spt)) = (chO (nextV (openV t r y) e) (gapV (openV t r y)) m (angV (openV t r y) e) 3600).map (fun a => (⟨a, e⟩ : Spt)))) (fun zz => (m - zz.1).toNat) (0, []) ⟨(by (try dsimp only); first | omega | rfl | assumption | (simp; done)), (by (try dsimp only); rfl), (by (try dsimp only); rfl)⟩
        (enr [(2001, 1016)] ⟨rfl, rfl, rfl, rfl, rfl, trivial⟩ (conts_cons rfl (le_vec (by first | rfl | omega | assumption | (rw [hz]) | (rw [hA]; first | rfl | (simp; done)) | ((unfold spotsL; rw [hA]; first | rfl | (simp; done)))) (fun i hi => absurd hi (by omega))) (cve rfl trivial))) fun zz hp => ?_
    obtain ⟨i, o⟩ := zz
    obtain ⟨hiL, hoL, hq⟩ := hp
    dsimp only at hiL hoL hq
    show AW _ E _ _ ⟨61, [1, 2], [(3, .i e), (4, .i m), (12, .ls 2001), (14, .ls 10400), (15, .i (i : Int))], (refRow_frH12 o t r y e m)⟩
    apply aw_seq
    apply aw_seq
    refine awr []
     ⟨61, [1, 2], [(3, .i e), (4, .i m), (12, .ls 2001), (14, .ls 10400), (15, .i (i : Int)), (48, .b (decide ((i : Int) < m)))], (refRow_frH12 o t r y e m)⟩
     [] trivial ?_
    refine aw_cond (b := decide ((i : Int) < m)) rfl (fun h4 => ?_) (fun h4 => ?_)
    ·
     have h4p : (i : Int) < m := dtr h4
     apply aw_skip
     apply aw_seq
     apply aw_block
     refine awr [(3, .idx i), (7, .new 1058), (8, .lst 1059 (o.length + 1) (Lst eS (o ++ [(⟨(ix (chO (nextV (openV t r y) e) (gapV (openV t r y)) m (angV (openV t r y) e) 3600) i), e⟩ : Spt)])))]
      ⟨61, [1, 2], [(3, .i e), (4, .i m), (12, .ls 1059), (14, .ls 10400), (15, .i (i : Int))], (refRow_frH14 o t r y e m i)⟩
      [(i : Int) = (i : Int), i < (chO (nextV (openV t r y) e) (gapV (openV t r y)) m (angV (openV t r y) e) 3600).length, i < (chO (nextV (openV t r y) e) (gapV (openV t r y)) m (angV (openV t r y) e) 3600).length, o.length + 1 ≤ 1000000000000, (o.length + 1) * 16 ≤ 140737488355328, AppOk 2 o.length 1 (Lst eS o) (exEl 2 [.i (ix (chO (nextV (openV t r y) e) (gapV (openV t r y)) m (angV (openV t r y) e) 3600) i), .i e]) (o.length + 1) (Lst eS (o ++ [(⟨(ix (chO (nextV (openV t r y) e) (gapV (openV t r y)) m (angV (openV t r y) e) 3600) i), e⟩ : Spt)]))] (al2 (by omega) (al2 (by omega) (al2 (by omega) (al2 (by omega) (al2 (by omega) (al1 (app_one (by first | omega | rfl | assumption) (by first | omega | rfl | assumption) (fun | 0, _ => rfl | 1, _ => rfl | (n + 2), h => absurd h (by omega))))))))) ?_
     refine awr [(1, .num (((i + 1) : Nat) : Int))]
      ⟨61, [1, 2], [(3, .i e), (4, .i m), (12, .ls 1059), (14, .ls 10400), (15, .i (((i + 1) : Nat) : Int))], (refRow_frH14 o t r y e m i)⟩
      [((i : Int) + 1) = (((i + 1) : Nat) : Int), -9223372036854775808 ≤ (((i + 1) : Nat) : Int) ∧ (((i + 1) : Nat) : Int) < 9223372036854775808] (al2 (by omega) (al1 (by omega))) ?_
     exact ⟨((i + 1), (o ++ [(⟨(ix (chO (nextV (openV t r y) e) (gapV (openV t r y)) m (angV (openV t r y) e) 3600) i), e⟩ : Spt)])), ⟨(by (try dsimp only); first | omega | rfl | assumption | (simp; done)), (by (try dsimp only); simp; omega), (by (try dsimp only); rw [← hq, drop_ix (l := (chO (nextV (openV t r y) e) (gapV (openV t r y)) m (angV (openV t r y) e) 3600)) (i := i) (by omega)]; simp)⟩, (show (m - (i + 1)).toNat < (m - i).toNat by first | omega | rfl | assumption),
         (enr [(2001, 1059)] ⟨rfl, rfl, rfl, rfl, rfl, trivial⟩ (conts_cons rfl (le_vec (by first | rfl | omega | assumption | (simp; done) | (rw [hz]) | (rw [hA]; first | rfl | (simp; done)) | ((unfold spotsL; rw [hA]; first | rfl | (simp; done)))) el_rfl) (cve rfl trivial)))⟩
    ·
     have h4p : m ≤ (i : Int) := dlt h4
     refine aw_exit (exit_then (exit_then (exit_in ?_)))
     apply aw_seq
     have hz : o = spotsL (openV t r y) e m := by
      unfold spotsL
      rw [List.drop_eq_nil_of_le (by omega)] at hq
      rw [hA]; simpa using hq
     refine awr []
      ⟨61, [1, 2], [(10, .ls 2001), (11, .b true)], [(2001, some (.vec 72 2 o.length (Lst eS o)))]⟩
      [] trivial ?_
     exact aw_ret ⟨.inr rfl, eok ⟨61, [1, 2], [(10, .ls 9), (11, .b ((anglesO (nextV (openV t r y) e) (gapV (openV t r y)) m).isSome))], [(9, some (refRow_frK9 t r y e m))]⟩
         (enr [(9, 2001)] ⟨rfl, (slot_b (a := true) rfl (by first | rfl | omega | assumption | (rw [hz]) | (rw [hA]; first | rfl | (simp; done)) | ((unfold spotsL; rw [hA]; first | rfl | (simp; done))))), trivial⟩ (conts_cons rfl (le_vec (by first | rfl | omega | assumption | (rw [hz]) | (rw [hA]; first | rfl | (simp; done)) | ((unfold spotsL; rw [hA]; first | rfl | (simp; done)))) (lst_eq (by first | rfl | omega | assumption | (rw [hz]) | (rw [hA]; first | rfl | (simp; done)) | ((unfold spotsL; rw [hA]; first | rfl | (simp; done)))))) trivial)) (wr_cons rfl (plain_Lst plain_eS) wr_nil)⟩
end Go.Proofs.Ytbpblhmigijkaaa
