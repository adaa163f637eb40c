/- The reference: angles. -/
import Derived.Test.YtbpblhmigijkaaaTn
import Derived.Test.YtbpblhmigijkaaaTan
namespace Go.Proofs.Ytbpblhmigijkaaa
open Go.RowKit
set_option linter.unusedVariables false
set_option linter.unusedSimpArgs false
def refAngles_frA1 (t : TreeV) : SV := .agg [.i t.year, .i t.glo, .i t.ghi, .i t.wlo, .i t.whi, .i t.health, .ls 1]
def refAngles_frA2 (r : RuleV) : SV := .agg [.i r.slo, .i r.shi, .i r.ulo, .i r.uhi, .i r.hlo, .i r.hhi, .i r.apart, .i r.blo, .i r.bhi, .ls 2, .i r.n0, .i r.n1, .i r.n2, .i r.n3, .i r.n4, .i r.opn]
def refAngles_frK3 (t : TreeV) : Cn := .ro 3 t.holes.length (Lst eH t.holes)
def refAngles_frK4 (r : RuleV) : Cn := .ro 2 r.sizes.length (Lst eZ r.sizes)
def refAngles_frK5 (t : TreeV) : Cn := .blk 26 [.i t.year, .i t.glo, .i t.ghi, .i t.wlo, .i t.whi, .i t.health, .ls 1]
def refAngles_frK6 (r : RuleV) : Cn := .blk 30 [.i r.slo, .i r.shi, .i r.ulo, .i r.uhi, .i r.hlo, .i r.hhi, .i r.apart, .i r.blo, .i r.bhi, .ls 2, .i r.n0, .i r.n1, .i r.n2, .i r.n3, .i r.n4, .i r.opn]
def refAngles_frK7  : Cn := .blk 131 (flagsC (fun _ => false))
def refAngles_frH8 (t : TreeV) (r : RuleV) : List (Nat × Option Cn) := [(1, some (refAngles_frK3 t)), (2, some (refAngles_frK4 r)), (1004, some (refAngles_frK5 t)), (1005, some (refAngles_frK6 r)), (1008, some refAngles_frK7)]
def refAngles_frH9 (t : TreeV) (r : RuleV) : List (Nat × Option Cn) := [(1, some (refAngles_frK3 t)), (2, some (refAngles_frK4 r)), (1004, some (refAngles_frK5 t)), (1005, some (refAngles_frK6 r)), (1008, some refAngles_frK7), (1009, some refAngles_frK7)]
def refAngles_frH10 (t : TreeV) (r : RuleV) (fa : (Nat → Bool)) : List (Nat × Option Cn) := [(1, some (refAngles_frK3 t)), (2, some (refAngles_frK4 r)), (1004, some (refAngles_frK5 t)), (1005, some (refAngles_frK6 r)), (1008, some refAngles_frK7), (1009, some (.blk 131 (flagsC fa)))]
def refAngles_frK11 (fa : (Nat → Bool)) (a : Nat) : Cn := .blk 131 (flagsC (setB fa a true))
def refAngles_frH12 (t : TreeV) (r : RuleV) (fa : (Nat → Bool)) (a : Nat) : List (Nat × Option Cn) := [(1, some (refAngles_frK3 t)), (2, some (refAngles_frK4 r)), (1004, some (refAngles_frK5 t)), (1005, some (refAngles_frK6 r)), (1008, some refAngles_frK7), (1009, some (refAngles_frK11 fa a))]
def refAngles_frH13 (t : TreeV) (r : RuleV) (fb : (Nat → Bool)) : List (Nat × Option Cn) := [(1, some (refAngles_frK3 t)), (2, some (refAngles_frK4 r)), (1004, some (refAngles_frK5 t)), (1005, some (refAngles_frK6 r)), (1008, some refAngles_frK7), (1009, some (.blk 131 (flagsC fb)))]
def refAngles_frA14 (t : TreeV) (i : Nat) : SV := .agg [.i ((ix t.holes i).year), .i ((ix t.holes i).angle), .i ((ix t.holes i).height)]
def refAngles_frK15 (fb : (Nat → Bool)) (a : Nat) (y : Int) (t : TreeV) (i : Nat) (e : Int) (r : RuleV) : Cn := .blk 131 (flagsC (setB fb a (!(forbidsV y (ix t.holes i) (⟨(a : Int), e⟩ : Spt) (openV t r y).worst))))
def refAngles_frH16 (t : TreeV) (r : RuleV) (fb : (Nat → Bool)) (a : Nat) (y : Int) (i : Nat) (e : Int) : List (Nat × Option Cn) := [(1, some (refAngles_frK3 t)), (2, some (refAngles_frK4 r)), (1004, some (refAngles_frK5 t)), (1005, some (refAngles_frK6 r)), (1008, some refAngles_frK7), (1009, some (refAngles_frK15 fb a y t i e r))]
def refAngles_frK17 (t : TreeV) (r : RuleV) (y : Int) (e : Int) : Cn := .blk 131 (flagsC (angV (openV t r y) e))
set_option maxHeartbeats 8000000 in
set_option maxRecDepth 100000 in
theorem refAngles_fr (t : TreeV) (r : RuleV) (y : Int) (ht : t.holes.length ≤ 1000000) (hr : r.sizes.length ≤ 1000000) (e : Int) (h0 : startE t r y = 0) (he : 0 ≤ e ∧ e ≤ 5000) : CallFr Try.prog 70 [(refAngles_frA1 t), (refAngles_frA2 r), .i y, .i e] [1, 2] [some (.ro 3 t.holes.length (Lst eH t.holes)), some (.ro 2 r.sizes.length (Lst eZ r.sizes))] (.agg (flagsC (angV (openV t r y) e))) [] := by
 have hx := open_ok h0
 obtain ⟨k1, k2, k3⟩ := startE_0.1 h0
 have hl := k1.len
 refine callFr_of (fn := Try.f70) (by kernel_rfl) rfl (by kernel_rfl) (by kernel_rfl) fun E => ?_
 refine aw_ent (T := ⟨47, [1, 2], [(0, (refAngles_frA1 t)), (1, (refAngles_frA2 r)), (2, .i y), (3, .i e)], [(1, some (refAngles_frK3 t)), (2, some (refAngles_frK4 r))]⟩) (Ent.refl _) ?_
 apply aw_seq
 refine awr [(0, .new 1004), (1, .new 1005), (2, .new 1008)]
  ⟨47, [1, 2], [(2, .i y), (3, .i e), (4, .l (.ref 1004 0)), (5, .l (.ref 1005 0)), (8, .l (.ref 1008 0))], (refAngles_frH8 t r)⟩
  [] trivial ?_
 apply aw_seq
 refine awr [(1, .new 1009)]
  ⟨47, [1, 2], [(2, .i y), (3, .i e), (4, .l (.ref 1004 0)), (5, .l (.ref 1005 0)), (8, .l (.ref 1008 0)), (9, .l (.ref 1009 0))], (refAngles_frH9 t r)⟩
  [] trivial ?_
 apply aw_seq
 apply aw_seq
 refine awr []
  ⟨47, [1, 2], [(2, .i y), (3, .i e), (4, .l (.ref 1004 0)), (5, .l (.ref 1005 0)), (8, .l (.ref 1008 0)), (9, .l (.ref 1009 0)), (10, .i 0)], (refAngles_frH9 t r)⟩
  [] trivial ?_
 apply aw_block
 refine aw_loop (ι := Nat × (Nat → Bool)) (fun zz => ⟨47, [1, 2], [(2, .i y), (3, .i e), (4, .l (.ref 1004 0)), (5, .l (.ref 1005 0)), (8, .l (.ref 1008 0)), (9, .l (.ref 1009 0)), (10, .i (zz.1 : Int))], (refAngles_frH10 t r zz.2)⟩) (fun zz => (zz.1 ≤ 3600) ∧ (∀ k, k < zz.1 → zz.2 k = angV (openV t r y) e k)) (fun zz => 3600 - zz.1) (0, (fun _ => false)) ⟨(by (try dsimp only); first | omega | rfl | assumption | (simp; done)), (by (try dsimp only); intro k hk; omega)⟩
     (enr [] ⟨rfl, rfl, rfl, rfl, rfl, rfl, rfl, trivial⟩ (cro rfl (cro rfl (cbl rfl rfl (cbl rfl rfl (cbl rfl (flagsC_le rfl) (cbl rfl (flagsC_le rfl) trivial))))))) fun zz hp => ?_
 obtain ⟨a, fa⟩ := zz
 obtain ⟨haL, hf⟩ := hp
 dsimp only at haL hf
 show AW _ E _ _ ⟨47, [1, 2], [(2, .i y), (3, .i e), (4, .l (.ref 1004 0)), (5, .l (.ref 1005 0)), (8, .l (.ref 1008 0)), (9, .l (.ref 1009 0)), (10, .i (a : Int))], (refAngles_frH10 t r fa)⟩
 apply aw_seq
 apply aw_seq
 refine awr []
  ⟨47, [1, 2], [(2, .i y), (3, .i e), (4, .l (.ref 1004 0)), (5, .l (.ref 1005 0)), (8, .l (.ref 1008 0)), (9, .l (.ref 1009 0)), (10, .i (a : Int)), (14, .b (decide ((a : Int) < 3600)))], (refAngles_frH10 t r fa)⟩
  [] trivial ?_
 refine aw_cond (b := decide ((a : Int) < 3600)) rfl (fun h1 => ?_) (fun h1 => ?_)
 ·
  have h1p : (a : Int) < 3600 := dtr h1
  apply aw_skip
  apply aw_seq
  apply aw_block
  apply aw_seq
  refine awr [(1, .act [1009] (.l (.ref 1009 a)) []), (2, .act [1009] (.v undef) [(1009, some (refAngles_frK11 fa a))])]
   ⟨47, [1, 2], [(2, .i y), (3, .i e), (4, .l (.ref 1004 0)), (5, .l (.ref 1005 0)), (8, .l (.ref 1008 0)), (9, .l (.ref 1009 0)), (10, .i (a : Int))], (refAngles_frH12 t r fa a)⟩
   [ActOK Try.prog (.indexAddr 131 (.tmp 9) (.tmp 17)) 0 [.l (.ref 1009 0), .i (a : Int)] [1009] [some (.blk 131 (flagsC fa))] (.l (.ref 1009 a)) [], ActOK Try.prog (.store 4 (.tmp 18) (.const ((.bool true)))) 0 [.l (.ref 1009 a), .b true] [1009] [some (.blk 131 (flagsC fa))] (.v undef) [(1009, some (refAngles_frK11 fa a))]] (al2 (act_idxAt2 (k := a) (n := 3600) (e := 4) (m := 1) (by kernel_rfl) (by kernel_rfl) rfl (by omega) (by omega) (by omega)) (al1 (act_storeAt2 (by kernel_rfl) rfl (flags_len (by omega)) (flags_set (by omega))))) ?_
  apply aw_seq
  refine awr []
   ⟨47, [1, 2], [(2, .i y), (3, .i e), (4, .l (.ref 1004 0)), (5, .l (.ref 1005 0)), (8, .l (.ref 1008 0)), (9, .l (.ref 1009 0)), (10, .i (a : Int)), (11, .i 0)], (refAngles_frH12 t r fa a)⟩
   [] trivial ?_
  apply aw_block
  refine aw_loop (ι := Nat × (Nat → Bool)) (fun zz => ⟨47, [1, 2], [(2, .i y), (3, .i e), (4, .l (.ref 1004 0)), (5, .l (.ref 1005 0)), (8, .l (.ref 1008 0)), (9, .l (.ref 1009 0)), (10, .i (a : Int)), (11, .i (zz.1 : Int))], (refAngles_frH13 t r zz.2)⟩) (fun zz => (zz.1 ≤ (openV t r y).t.holes.length) ∧ (∀ k, k < a → zz.2 k = angV (openV t r y) e k) ∧ (zz.2 a = ((openV t r y).t.holes.take zz.1).all (okH (openV t r y) e a))) (fun zz => (openV t r y).t.holes.length - zz.1) (0, (setB fa a true)) ⟨(by (try dsimp only); exact Nat.zero_le _), (by (try dsimp only); exact fun k hk => (setB_ne (by omega)).trans (hf k hk)), (by (try dsimp only); rw [setB_at]; rfl)⟩
      (enr [] ⟨rfl, rfl, rfl, rfl, rfl, rfl, rfl, rfl, trivial⟩ (cro rfl (cro rfl (cbl rfl rfl (cbl rfl rfl (cbl rfl (flagsC_le rfl) (cbl rfl (flagsC_le rfl) trivial))))))) fun zz hp => ?_
  obtain ⟨i, fb⟩ := zz
  obtain ⟨hiL, hb, ho⟩ := hp
  dsimp only at hiL hb ho
  show AW _ E _ _ ⟨47, [1, 2], [(2, .i y), (3, .i e), (4, .l (.ref 1004 0)), (5, .l (.ref 1005 0)), (8, .l (.ref 1008 0)), (9, .l (.ref 1009 0)), (10, .i (a : Int)), (11, .i (i : Int))], (refAngles_frH13 t r fb)⟩
  apply aw_seq
  apply aw_seq
  rcases Bool.eq_false_or_eq_true (decide ((i : Int) < (t.holes.length : Int))) with h2 | h2
  ·
   have h2p : (i : Int) < (t.holes.length : Int) := dtr h2
   refine awr [(5, .dec true), (7, .act [1009] (.l (.ref 1009 a)) []), (8, .act [1009] (.b (fb a)) [])]
    ⟨47, [1, 2], [(2, .i y), (3, .i e), (4, .l (.ref 1004 0)), (5, .l (.ref 1005 0)), (8, .l (.ref 1008 0)), (9, .l (.ref 1009 0)), (10, .i (a : Int)), (11, .i (i : Int)), (28, .b (fb a))], (refAngles_frH13 t r fb)⟩
    [decide ((i : Int) < (t.holes.length : Int)) = true, ActOK Try.prog (.indexAddr 131 (.tmp 9) (.tmp 25)) 0 [.l (.ref 1009 0), .i (a : Int)] [1009] [some (.blk 131 (flagsC fb))] (.l (.ref 1009 a)) [], ActOK Try.prog (.load 4 (.tmp 26)) 4 [.l (.ref 1009 a)] [1009] [some (.blk 131 (flagsC fb))] (.b (fb a)) []] (al2 h2 (al2 (act_idxAt2 (k := a) (n := 3600) (e := 4) (m := 1) (by kernel_rfl) (by kernel_rfl) rfl (by omega) (by omega) (by omega)) (al1 (act_loadAt (by kernel_rfl) rfl (flags_at (by omega)))))) ?_
   refine aw_cond (b := (fb a)) rfl (fun h3 => ?_) (fun h3 => ?_)
   ·
    apply aw_skip
    apply aw_seq
    apply aw_block
    have hfa : 0 ≤ (a : Int) ∧ (a : Int) ≤ 3599 := by omega
    refine awd [(7, .idx i), (12, .call [1, 2] (.b (forbidsV y (ix t.holes i) (⟨(a : Int), e⟩ : Spt) (openV t r y).worst)) []), (14, .act [1009] (.l (.ref 1009 a)) []), (15, .act [1009] (.v undef) [(1009, some (refAngles_frK15 fb a y t i e r))])]
     ⟨47, [1, 2], [(2, .i y), (3, .i e), (4, .l (.ref 1004 0)), (5, .l (.ref 1005 0)), (8, .l (.ref 1008 0)), (9, .l (.ref 1009 0)), (10, .i (a : Int)), (11, .i (i : Int))], (refAngles_frH16 t r fb a y i e)⟩
     [(i : Int) = (i : Int), i < t.holes.length, i < t.holes.length, CallOK Try.prog 74 [(refAngles_frA1 t), (refAngles_frA2 r), .i y, (refAngles_frA14 t i), .agg [.i (a : Int), .i e], .b false] [1, 2] [some (refAngles_frK3 t), some (refAngles_frK4 r)] (.b (forbidsV y (ix t.holes i) (⟨(a : Int), e⟩ : Spt) (openV t r y).worst)) [], ActOK Try.prog (.indexAddr 131 (.tmp 9) (.tmp 31)) 0 [.l (.ref 1009 0), .i (a : Int)] [1009] [some (.blk 131 (flagsC fb))] (.l (.ref 1009 a)) [], ActOK Try.prog (.store 4 (.tmp 45) (.tmp 44)) 0 [.l (.ref 1009 a), .b (!(forbidsV y (ix t.holes i) (⟨(a : Int), e⟩ : Spt) (openV t r y).worst))] [1009] [some (.blk 131 (flagsC fb))] (.v undef) [(1009, some (refAngles_frK15 fb a y t i e r))]] (al2 (by omega) (al2 (by omega) (al2 (by omega) (al2 (cfr (refForbids_f t r y (by first | omega | (simp; done) | assumption) (by first | omega | (simp; done) | assumption) (ix t.holes i) (⟨(a : Int), e⟩ : Spt) (by assumption) (by first | assumption | exact (startE_0.1 (by assumption)).1.hole _ (ix_mem (by omega))) (by assumption) (by assumption)) [(1, 1), (2, 2)] (dem_cons rfl (le_ro rfl el_rfl) (dem_cons rfl (le_ro rfl el_rfl) dem_nil))) (al2 (act_idxAt2 (k := a) (n := 3600) (e := 4) (m := 1) (by kernel_rfl) (by kernel_rfl) rfl (by omega) (by omega) (by omega)) (al1 (act_storeAt2 (by kernel_rfl) rfl (flags_len (by omega)) (flags_set (by omega))))))))) ?_
    refine awr [(1, .num (((i + 1) : Nat) : Int))]
     ⟨47, [1, 2], [(2, .i y), (3, .i e), (4, .l (.ref 1004 0)), (5, .l (.ref 1005 0)), (8, .l (.ref 1008 0)), (9, .l (.ref 1009 0)), (10, .i (a : Int)), (11, .i (((i + 1) : Nat) : Int))], (refAngles_frH16 t r fb a y i e)⟩
     [((i : Int) + 1) = (((i + 1) : Nat) : Int), -9223372036854775808 ≤ (((i + 1) : Nat) : Int) ∧ (((i + 1) : Nat) : Int) < 9223372036854775808] (al2 (by omega) (al1 (by omega))) ?_
    exact ⟨((i + 1), (setB fb a (!(forbidsV y (ix t.holes i) (⟨(a : Int), e⟩ : Spt) (openV t r y).worst)))), ⟨(by (try dsimp only); show i + 1 ≤ t.holes.length; omega), (by (try dsimp only); exact fun k hk => (setB_ne (by omega)).trans (hb k hk)), (by (try dsimp only); rw [setB_at, all_take (show i < (openV t r y).t.holes.length by show i < t.holes.length; omega), ← ho, show fb a = true by assumption, Bool.true_and]; rfl)⟩, (show (openV t r y).t.holes.length - (i + 1) < (openV t r y).t.holes.length - i by show t.holes.length - (i + 1) < t.holes.length - i; omega),
        (enr [] ⟨rfl, rfl, rfl, rfl, rfl, rfl, rfl, rfl, trivial⟩ (cro rfl (cro rfl (cbl rfl rfl (cbl rfl rfl (cbl rfl (flagsC_le rfl) (cbl rfl (flagsC_le rfl) trivial)))))))⟩
   ·
    refine aw_exit (exit_then (exit_then (exit_in ?_)))
    refine awr [(1, .num (((a + 1) : Nat) : Int))]
     ⟨47, [1, 2], [(2, .i y), (3, .i e), (4, .l (.ref 1004 0)), (5, .l (.ref 1005 0)), (8, .l (.ref 1008 0)), (9, .l (.ref 1009 0)), (10, .i (((a + 1) : Nat) : Int))], (refAngles_frH13 t r fb)⟩
     [((a : Int) + 1) = (((a + 1) : Nat) : Int), -9223372036854775808 ≤ (((a + 1) : Nat) : Int) ∧ (((a + 1) : Nat) : Int) < 9223372036854775808] (al2 (by omega) (al1 (by omega))) ?_
    exact ⟨((a + 1), fb), ⟨(by (try dsimp only); first | omega | rfl | assumption | (simp; done)), (by (try dsimp only); exact fun k hk => (Nat.lt_or_ge k a).elim (fun h => hb k h) (fun h => by rw [show k = a by omega]; exact ang_end hx (by omega) hiL ho (by first | exact .inl (show t.holes.length ≤ i by omega) | exact .inr (by assumption))))⟩, (show 3600 - (a + 1) < 3600 - a by first | omega | rfl | assumption),
        (enr [] ⟨rfl, rfl, rfl, rfl, rfl, rfl, rfl, trivial⟩ (cro rfl (cro rfl (cbl rfl rfl (cbl rfl rfl (cbl rfl (flagsC_le rfl) (cbl rfl (flagsC_le rfl) trivial)))))))⟩
  ·
   have h2p : (t.holes.length : Int) ≤ (i : Int) := dlt h2
   refine awr [(5, .dec false)]
    ⟨47, [1, 2], [(2, .i y), (3, .i e), (4, .l (.ref 1004 0)), (5, .l (.ref 1005 0)), (8, .l (.ref 1008 0)), (9, .l (.ref 1009 0)), (10, .i (a : Int)), (11, .i (i : Int)), (28, .b false)], (refAngles_frH13 t r fb)⟩
    [decide ((i : Int) < (t.holes.length : Int)) = false] (al1 h2) ?_
   refine aw_false rfl ?_
   refine aw_exit (exit_then (exit_then (exit_in ?_)))
   refine awr [(1, .num (((a + 1) : Nat) : Int))]
    ⟨47, [1, 2], [(2, .i y), (3, .i e), (4, .l (.ref 1004 0)), (5, .l (.ref 1005 0)), (8, .l (.ref 1008 0)), (9, .l (.ref 1009 0)), (10, .i (((a + 1) : Nat) : Int))], (refAngles_frH13 t r fb)⟩
    [((a : Int) + 1) = (((a + 1) : Nat) : Int), -9223372036854775808 ≤ (((a + 1) : Nat) : Int) ∧ (((a + 1) : Nat) : Int) < 9223372036854775808] (al2 (by omega) (al1 (by omega))) ?_
   exact ⟨((a + 1), fb), ⟨(by (try dsimp only); first | omega | rfl | assumption | (simp; done)), (by (try dsimp only); exact fun k hk => (Nat.lt_or_ge k a).elim (fun h => hb k h) (fun h => by rw [show k = a by omega]; exact ang_end hx (by omega) hiL ho (by first | exact .inl (show t.holes.length ≤ i by omega) | exact .inr (by assumption))))⟩, (show 3600 - (a + 1) < 3600 - a by first | omega | rfl | assumption),
       (enr [] ⟨rfl, rfl, rfl, rfl, rfl, rfl, rfl, trivial⟩ (cro rfl (cro rfl (cbl rfl rfl (cbl rfl rfl (cbl rfl (flagsC_le rfl) (cbl rfl (flagsC_le rfl) trivial)))))))⟩
 ·
  have h1p : 3600 ≤ (a : Int) := dlt h1
  refine aw_exit (exit_then (exit_then (exit_in ?_)))
  apply aw_seq
  refine awr []
   ⟨47, [1, 2], [(8, .l (.ref 1008 0))], [(1008, some (.blk 131 (flagsC fa)))]⟩
   [] trivial ?_
  exact aw_ret ⟨.inr rfl, eok ⟨47, [1, 2], [(8, .l (.ref 8008 0))], [(8008, some (refAngles_frK17 t r y e))]⟩
      (enr [(8008, 1008)] ⟨rfl, trivial⟩ (cbl rfl (flags_all (by first | rfl | omega | assumption | (exact fun k hk => hf k (by omega)))) trivial)) wr_nil⟩
def refGap_frA1 (t : TreeV) : SV := .agg [.i t.year, .i t.glo, .i t.ghi, .i t.wlo, .i t.whi, .i t.health, .ls 1]
def refGap_frA2 (r : RuleV) : SV := .agg [.i r.slo, .i r.shi, .i r.ulo, .i r.uhi, .i r.hlo, .i r.hhi, .i r.apart, .i r.blo, .i r.bhi, .ls 2, .i r.n0, .i r.n1, .i r.n2, .i r.n3, .i r.n4, .i r.opn]
def refGap_frK3 (t : TreeV) : Cn := .ro 3 t.holes.length (Lst eH t.holes)
def refGap_frK4 (r : RuleV) : Cn := .ro 2 r.sizes.length (Lst eZ r.sizes)
def refGap_frK5 (t : TreeV) : Cn := .blk 26 [.i t.year, .i t.glo, .i t.ghi, .i t.wlo, .i t.whi, .i t.health, .ls 1]
def refGap_frK6 (r : RuleV) : Cn := .blk 30 [.i r.slo, .i r.shi, .i r.ulo, .i r.uhi, .i r.hlo, .i r.hhi, .i r.apart, .i r.blo, .i r.bhi, .ls 2, .i r.n0, .i r.n1, .i r.n2, .i r.n3, .i r.n4, .i r.opn]
def refGap_frH7 (t : TreeV) (r : RuleV) : List (Nat × Option Cn) := [(1, some (refGap_frK3 t)), (2, some (refGap_frK4 r)), (1003, some (refGap_frK5 t)), (1004, some (refGap_frK6 r))]
set_option maxRecDepth 100000 in
theorem refGap_fr (t : TreeV) (r : RuleV) (y : Int) (ht : t.holes.length ≤ 1000000) (hr : r.sizes.length ≤ 1000000) (h0 : startE t r y = 0) : CallFr Try.prog 72 [(refGap_frA1 t), (refGap_frA2 r), .i y] [1, 2] [some (.ro 3 t.holes.length (Lst eH t.holes)), some (.ro 2 r.sizes.length (Lst eZ r.sizes))] (.i (gap2V (openV t r y))) [] := by
 have hx := open_ok h0
 obtain ⟨k1, k2, k3⟩ := startE_0.1 h0
 have hg := girth_bd k1 k3
 have hap := k2.apart
 have hgb := gap_bd hx
 refine callFr_of (fn := Try.f72) (by kernel_rfl) rfl (by kernel_rfl) (by kernel_rfl) fun E => ?_
 refine aw_ent (T := ⟨25, [1, 2], [(0, (refGap_frA1 t)), (1, (refGap_frA2 r)), (2, .i y)], [(1, some (refGap_frK3 t)), (2, some (refGap_frK4 r))]⟩) (Ent.refl _) ?_
 apply aw_seq
 refine awr [(0, .new 1003), (1, .new 1004)]
  ⟨25, [1, 2], [(2, .i y), (3, .l (.ref 1003 0)), (4, .l (.ref 1004 0))], (refGap_frH7 t r)⟩
  [] trivial ?_
 apply aw_seq
 refine awr []
  ⟨25, [1, 2], [(2, .i y), (3, .l (.ref 1003 0)), (4, .l (.ref 1004 0)), (7, .i 0)], (refGap_frH7 t r)⟩
  [] trivial ?_
 apply aw_seq
 apply aw_block
 refine aw_loop (ι := Int) (fun zz => ⟨25, [1, 2], [(2, .i y), (3, .l (.ref 1003 0)), (4, .l (.ref 1004 0)), (7, .i zz)], (refGap_frH7 t r)⟩) (fun zz => (0 ≤ zz ∧ zz ≤ 3600) ∧ (zz ≤ gapV (openV t r y))) (fun zz => (3600 - zz).toNat) 0 ⟨(by first | omega | rfl | assumption | (simp; done)), (by first | omega | rfl | assumption | (simp; done))⟩
     (enr [] ⟨rfl, rfl, rfl, rfl, trivial⟩ (cro rfl (cro rfl (cbl rfl rfl (cbl rfl rfl trivial))))) fun zz hp => ?_
 obtain ⟨n, rfl⟩ : ∃ x, x = zz := ⟨_, rfl⟩
 obtain ⟨hn, hg2⟩ := hp
 show AW _ E _ _ ⟨25, [1, 2], [(2, .i y), (3, .l (.ref 1003 0)), (4, .l (.ref 1004 0)), (7, .i n)], (refGap_frH7 t r)⟩
 apply aw_seq
 apply aw_seq
 have hm := mul_bd (a := n) (A := 3600) (b := (girthV t y).low) (B := 10000) (by omega) (by omega)
 rcases Bool.eq_false_or_eq_true (decide ((n * (girthV t y).low) < (3600 * r.apart))) with h1 | h1
 ·
  have h1p : (n * (girthV t y).low) < (3600 * r.apart) := dtr h1
  refine awd [(3, .call [1] (.agg [.i ((girthV t y).low), .i ((girthV t y).high)]) []), (10, .dec true)]
   ⟨25, [1, 2], [(2, .i y), (3, .l (.ref 1003 0)), (4, .l (.ref 1004 0)), (7, .i n), (21, .b (decide (n < 3600)))], (refGap_frH7 t r)⟩
   [CallOK Try.prog 26 [(refGap_frA1 t), .i y] [1] [some (refGap_frK3 t)] (.agg [.i ((girthV t y).low), .i ((girthV t y).high)]) [], -9223372036854775808 ≤ (n * (girthV t y).low) ∧ (n * (girthV t y).low) < 9223372036854775808, -9223372036854775808 ≤ (3600 * r.apart) ∧ (3600 * r.apart) < 9223372036854775808, decide ((n * (girthV t y).low) < (3600 * r.apart)) = true] (al2 (cfr (refGirth_fr t y (by assumption) (by assumption)) [(1, 1)] (dem_cons rfl (le_ro rfl el_rfl) dem_nil)) (al2 (by omega) (al2 (by omega) (al1 h1)))) ?_
  refine aw_cond (b := decide (n < 3600)) rfl (fun h2 => ?_) (fun h2 => ?_)
  ·
   have h2p : n < 3600 := dtr h2
   apply aw_skip
   apply aw_block
   refine awr []
    ⟨25, [1, 2], [(2, .i y), (3, .l (.ref 1003 0)), (4, .l (.ref 1004 0)), (7, .i (n + 1))], (refGap_frH7 t r)⟩
    [-9223372036854775808 ≤ (n + 1) ∧ (n + 1) < 9223372036854775808] (al1 (by omega)) ?_
   exact ⟨(n + 1), ⟨(by first | omega | rfl | assumption | (simp; done)), (by have q := (gap_lt hx (n := n)).1 (by assumption); omega)⟩, (show (3600 - (n + 1)).toNat < (3600 - n).toNat by first | omega | rfl | assumption),
       (enr [] ⟨rfl, rfl, rfl, rfl, trivial⟩ (cro rfl (cro rfl (cbl rfl rfl (cbl rfl rfl trivial)))))⟩
  ·
   have h2p : 3600 ≤ n := dlt h2
   refine aw_exit (exit_then (exit_then (exit_in ?_)))
   apply aw_seq
   refine awr []
    ⟨25, [1, 2], [(6, .i n)], []⟩
    [] trivial ?_
   exact aw_ret ⟨.inr rfl, eok ⟨25, [1, 2], [(6, .i (gap2V (openV t r y)))], []⟩
       (enr [] ⟨(slot_i rfl (by first | rfl | omega | assumption | ((unfold gap2V; omega)) | ((unfold gap2V; have q := fun h => (gap_lt hx (n := n)).2 h; have q2 : ¬ (n * (openV t r y).worst.girth < 3600 * (openV t r y).r.apart) := Int.not_lt.2 (show 3600 * r.apart ≤ n * (girthV t y).low by omega); have q3 : ¬ n < gapV (openV t r y) := fun h => q2 (q h); omega)))), trivial⟩ trivial) wr_nil⟩
 ·
  have h1p : (3600 * r.apart) ≤ (n * (girthV t y).low) := dlt h1
  refine awd [(3, .call [1] (.agg [.i ((girthV t y).low), .i ((girthV t y).high)]) []), (10, .dec false)]
   ⟨25, [1, 2], [(2, .i y), (3, .l (.ref 1003 0)), (4, .l (.ref 1004 0)), (7, .i n), (21, .b false)], (refGap_frH7 t r)⟩
   [CallOK Try.prog 26 [(refGap_frA1 t), .i y] [1] [some (refGap_frK3 t)] (.agg [.i ((girthV t y).low), .i ((girthV t y).high)]) [], -9223372036854775808 ≤ (n * (girthV t y).low) ∧ (n * (girthV t y).low) < 9223372036854775808, -9223372036854775808 ≤ (3600 * r.apart) ∧ (3600 * r.apart) < 9223372036854775808, decide ((n * (girthV t y).low) < (3600 * r.apart)) = false] (al2 (cfr (refGirth_fr t y (by assumption) (by assumption)) [(1, 1)] (dem_cons rfl (le_ro rfl el_rfl) dem_nil)) (al2 (by omega) (al2 (by omega) (al1 h1)))) ?_
  refine aw_false rfl ?_
  refine aw_exit (exit_then (exit_then (exit_in ?_)))
  apply aw_seq
  refine awr []
   ⟨25, [1, 2], [(6, .i n)], []⟩
   [] trivial ?_
  exact aw_ret ⟨.inr rfl, eok ⟨25, [1, 2], [(6, .i (gap2V (openV t r y)))], []⟩
      (enr [] ⟨(slot_i rfl (by first | rfl | omega | assumption | ((unfold gap2V; omega)) | ((unfold gap2V; have q := fun h => (gap_lt hx (n := n)).2 h; have q2 : ¬ (n * (openV t r y).worst.girth < 3600 * (openV t r y).r.apart) := Int.not_lt.2 (show 3600 * r.apart ≤ n * (girthV t y).low by omega); have q3 : ¬ n < gapV (openV t r y) := fun h => q2 (q h); omega)))), trivial⟩ trivial) wr_nil⟩
end Go.Proofs.Ytbpblhmigijkaaa
