/- The reference: rows of angles. -/
import Derived.Test.YtbpblhmigijkaaaTag
import Derived.Test.YtbpblhmigijkaaaTch
namespace Go.Proofs.Ytbpblhmigijkaaa
open Go.RowKit
set_option linter.unusedVariables false
set_option linter.unusedSimpArgs false
def refChains_frH1 (x : TrkV) (e : Int) : List (Nat × Option Cn) := [(1003, some (.blk 131 (flagsC (angV x e)))), (1008, some (.blk 158 (nextsC (fun _ => 0))))]
def refChains_frK2  : Cn := .blk 158 (nextsC (setF (fun _ => 0) 3600 3600))
def refChains_frH3 (x : TrkV) (e : Int) : List (Nat × Option Cn) := [(1003, some (.blk 131 (flagsC (angV x e)))), (1008, some refChains_frK2)]
def refChains_frH4 (x : TrkV) (e : Int) (c : (Nat → Int)) : List (Nat × Option Cn) := [(1003, some (.blk 131 (flagsC (angV x e)))), (1008, some (.blk 158 (nextsC c)))]
def refChains_frK5 (c : (Nat → Int)) (b : Int) : Cn := .blk 158 (nextsC (setF c b.toNat (c ((b + 1).toNat))))
def refChains_frH6 (x : TrkV) (e : Int) (c : (Nat → Int)) (b : Int) : List (Nat × Option Cn) := [(1003, some (.blk 131 (flagsC (angV x e)))), (1008, some (refChains_frK5 c b))]
def refChains_frK7 (c : (Nat → Int)) (b : Int) : Cn := .blk 158 (nextsC (setF (setF c b.toNat (c ((b + 1).toNat))) b.toNat b))
def refChains_frH8 (x : TrkV) (e : Int) (c : (Nat → Int)) (b : Int) : List (Nat × Option Cn) := [(1003, some (.blk 131 (flagsC (angV x e)))), (1008, some (refChains_frK7 c b))]
def refChains_frK9 (x : TrkV) (e : Int) : Cn := .blk 158 (nextsC (nextM (nextV x e)))
def refChains_frH10 (x : TrkV) (e : Int) : List (Nat × Option Cn) := [(1003, some (.blk 131 (flagsC (angV x e)))), (1008, some (refChains_frK9 x e))]
def refChains_frH11 (x : TrkV) (e : Int) : List (Nat × Option Cn) := [(1003, some (.blk 131 (flagsC (angV x e)))), (1008, some (refChains_frK9 x e)), (1033, some (.vec 3 1 0 (exEl 1 [])))]
def refChains_frH12 (x : TrkV) (e : Int) (o : List Int) : List (Nat × Option Cn) := [(1003, some (.blk 131 (flagsC (angV x e)))), (1008, some (refChains_frK9 x e)), (2001, some (.vec 3 1 o.length (Lst eI o)))]
def refChains_frK13 (f : Nat) : Cn := .vec 3 1 1 (exEl 1 [.i (f : Int)])
def refChains_frH14 (x : TrkV) (e : Int) (f : Nat) (o : List Int) : List (Nat × Option Cn) := [(1003, some (.blk 131 (flagsC (angV x e)))), (1008, some (refChains_frK9 x e)), (1048, some (refChains_frK13 f)), (2001, some (.vec 3 1 o.length (Lst eI o)))]
def refChains_frH15 (x : TrkV) (e : Int) (o : List Int) (l : List Int) : List (Nat × Option Cn) := [(1003, some (.blk 131 (flagsC (angV x e)))), (1008, some (refChains_frK9 x e)), (2001, some (.vec 3 1 o.length (Lst eI o))), (2002, some (.vec 3 1 l.length (Lst eI l)))]
def refChains_frH16 (x : TrkV) (e : Int) (l : List Int) : List (Nat × Option Cn) := [(1003, some (.blk 131 (flagsC (angV x e)))), (1008, some (refChains_frK9 x e)), (2002, some (.vec 3 1 l.length (Lst eI l)))]
def refChains_frK17 (l : List Int) (x : TrkV) (e : Int) : Cn := .vec 3 1 (l.length + 1) (Lst eI (l ++ [(min (fromV (nextV x e) (lastI l + gapV x)) 3600)]))
def refChains_frH18 (x : TrkV) (e : Int) (l : List Int) (o : List Int) : List (Nat × Option Cn) := [(1003, some (.blk 131 (flagsC (angV x e)))), (1008, some (refChains_frK9 x e)), (1077, some (refChains_frK17 l x e)), (2001, some (.vec 3 1 o.length (Lst eI o)))]
def refChains_frK19 (x : TrkV) (e : Int) (m : Int) : Cn := .vec 3 1 ((chO (nextV x e) (gapV x) m (angV x e) 3600).length) (Lst eI (chO (nextV x e) (gapV x) m (angV x e) 3600))
set_option maxHeartbeats 8000000 in
set_option maxRecDepth 100000 in
theorem refChains_fr (x : TrkV) (e m : Int) (hx : TrkOk x) (hw : within x.r.blo x.r.bhi [e] = true) (hm : 0 ≤ m ∧ m ≤ 3600) : CallFr Try.prog 71 [.agg (flagsC (angV x e)), .i (gap2V x), .i m] [] [] (.tup [.one (.i (((chO (nextV x e) (gapV x) m (angV x e) 3600).length : Nat) : Int)), .one (.ls 9)]) [(9, some (.vec 3 1 ((chO (nextV x e) (gapV x) m (angV x e) 3600).length) (Lst eI (chO (nextV x e) (gapV x) m (angV x e) 3600))))] := by
 have hn := angV_next hw
 have hg := gap_bd hx
 have hno := nextV_ok x e
 have hg2 : gap2V x = min (gapV x) 3600 := rfl
 refine callFr_of (fn := Try.f71) (by kernel_rfl) rfl (by kernel_rfl) (by kernel_rfl) fun E => ?_
 refine aw_ent (T := ⟨87, [], [(0, .agg (flagsC (angV x e))), (1, .i (gap2V x)), (2, .i m)], []⟩) (Ent.refl _) ?_
 apply aw_seq
 refine awr [(0, .new 1003)]
  ⟨87, [], [(1, .i (gap2V x)), (2, .i m), (3, .l (.ref 1003 0))], [(1003, some (.blk 131 (flagsC (angV x e))))]⟩
  [] trivial ?_
 apply aw_seq
 refine awr [(1, .new 1008)]
  ⟨87, [], [(1, .i (gap2V x)), (2, .i m), (3, .l (.ref 1003 0)), (8, .l (.ref 1008 0))], (refChains_frH1 x e)⟩
  [] trivial ?_
 apply aw_seq
 refine awr [(0, .act [1008] (.l (.ref 1008 3600)) []), (1, .act [1008] (.v undef) [(1008, some refChains_frK2)])]
  ⟨87, [], [(1, .i (gap2V x)), (2, .i m), (3, .l (.ref 1003 0)), (8, .l (.ref 1008 0))], (refChains_frH3 x e)⟩
  [ActOK Try.prog (.indexAddr 158 (.tmp 8) (.const (.int .i64 3600))) 0 [.l (.ref 1008 0), .i 3600] [1008] [some (.blk 158 (nextsC (fun _ => 0)))] (.l (.ref 1008 3600)) [], ActOK Try.prog (.store 3 (.tmp 16) (.const (.int .i64 3600))) 0 [.l (.ref 1008 3600), .i 3600] [1008] [some (.blk 158 (nextsC (fun _ => 0)))] (.v undef) [(1008, some refChains_frK2)]] (al2 (act_idxAt2 (k := 3600) (n := 3601) (e := 3) (m := 1) (by kernel_rfl) (by kernel_rfl) rfl (by omega) (by omega) (by omega)) (al1 (act_storeAt2 (by kernel_rfl) rfl (nexts_len (by omega)) (nexts_set (by omega))))) ?_
 apply aw_seq
 apply aw_seq
 refine awr []
  ⟨87, [], [(1, .i (gap2V x)), (2, .i m), (3, .l (.ref 1003 0)), (8, .l (.ref 1008 0)), (9, .i 3599)], (refChains_frH3 x e)⟩
  [] trivial ?_
 apply aw_block
 refine aw_loop (ι := Int × (Nat → Int)) (fun zz => ⟨87, [], [(1, .i (gap2V x)), (2, .i m), (3, .l (.ref 1003 0)), (8, .l (.ref 1008 0)), (9, .i zz.1)], (refChains_frH4 x e zz.2)⟩) (fun zz => (-1 ≤ zz.1 ∧ zz.1 ≤ 3599) ∧ (DownOk (nextV x e) zz.2 zz.1)) (fun zz => (zz.1 + 1).toNat) (3599, (setF (fun _ => 0) 3600 3600)) ⟨(by (try dsimp only); first | omega | rfl | assumption | (simp; done)), (by (try dsimp only); exact down_start hn)⟩
     (enr [] ⟨rfl, rfl, rfl, rfl, rfl, trivial⟩ (cbl rfl (flagsC_le rfl) (cbl rfl (nextsC_le rfl) trivial))) fun zz hp => ?_
 obtain ⟨b, c⟩ := zz
 obtain ⟨hb, hc⟩ := hp
 dsimp only at hb hc
 show AW _ E _ _ ⟨87, [], [(1, .i (gap2V x)), (2, .i m), (3, .l (.ref 1003 0)), (8, .l (.ref 1008 0)), (9, .i b)], (refChains_frH4 x e c)⟩
 apply aw_seq
 apply aw_seq
 refine awr []
  ⟨87, [], [(1, .i (gap2V x)), (2, .i m), (3, .l (.ref 1003 0)), (8, .l (.ref 1008 0)), (9, .i b), (18, .b (decide (0 ≤ b)))], (refChains_frH4 x e c)⟩
  [] trivial ?_
 refine aw_cond (b := decide (0 ≤ b)) rfl (fun h1 => ?_) (fun h1 => ?_)
 ·
  have h1p : 0 ≤ b := dtr h1
  apply aw_skip
  apply aw_seq
  apply aw_block
  apply aw_seq
  refine awr [(3, .act [1008] (.l (.ref 1008 ((b + 1).toNat))) []), (4, .act [1008] (.i (c ((b + 1).toNat))) []), (5, .act [1008] (.l (.ref 1008 b.toNat)) []), (6, .act [1008] (.v undef) [(1008, some (refChains_frK5 c b))])]
   ⟨87, [], [(1, .i (gap2V x)), (2, .i m), (3, .l (.ref 1003 0)), (8, .l (.ref 1008 0)), (9, .i b)], (refChains_frH6 x e c b)⟩
   [-9223372036854775808 ≤ (b + 1) ∧ (b + 1) < 9223372036854775808, ActOK Try.prog (.indexAddr 158 (.tmp 8) (.tmp 23)) 0 [.l (.ref 1008 0), .i (b + 1)] [1008] [some (.blk 158 (nextsC c))] (.l (.ref 1008 ((b + 1).toNat))) [], ActOK Try.prog (.load 3 (.tmp 24)) 3 [.l (.ref 1008 ((b + 1).toNat))] [1008] [some (.blk 158 (nextsC c))] (.i (c ((b + 1).toNat))) [], ActOK Try.prog (.indexAddr 158 (.tmp 8) (.tmp 21)) 0 [.l (.ref 1008 0), .i b] [1008] [some (.blk 158 (nextsC c))] (.l (.ref 1008 b.toNat)) [], ActOK Try.prog (.store 3 (.tmp 26) (.tmp 25)) 0 [.l (.ref 1008 b.toNat), .i (c ((b + 1).toNat))] [1008] [some (.blk 158 (nextsC c))] (.v undef) [(1008, some (refChains_frK5 c b))]] (al2 (by omega) (al2 (act_idxAt2 (k := (b + 1).toNat) (n := 3601) (e := 3) (m := 1) (by kernel_rfl) (by kernel_rfl) rfl (by omega) (by omega) (by omega)) (al2 (act_loadAt (by kernel_rfl) rfl (nexts_at (by omega))) (al2 (act_idxAt2 (k := b.toNat) (n := 3601) (e := 3) (m := 1) (by kernel_rfl) (by kernel_rfl) rfl (by omega) (by omega) (by omega)) (al1 (act_storeAt2 (by kernel_rfl) rfl (nexts_len (by omega)) (nexts_set (by omega)))))))) ?_
  apply aw_seq
  refine awr [(1, .act [1003] (.l (.ref 1003 b.toNat)) []), (2, .act [1003] (.b ((angV x e) b.toNat)) [])]
   ⟨87, [], [(1, .i (gap2V x)), (2, .i m), (3, .l (.ref 1003 0)), (8, .l (.ref 1008 0)), (9, .i b), (29, .b ((angV x e) b.toNat))], (refChains_frH6 x e c b)⟩
   [ActOK Try.prog (.indexAddr 131 (.tmp 3) (.tmp 27)) 0 [.l (.ref 1003 0), .i b] [1003] [some (.blk 131 (flagsC (angV x e)))] (.l (.ref 1003 b.toNat)) [], ActOK Try.prog (.load 4 (.tmp 28)) 4 [.l (.ref 1003 b.toNat)] [1003] [some (.blk 131 (flagsC (angV x e)))] (.b ((angV x e) b.toNat)) []] (al2 (act_idxAt2 (k := b.toNat) (n := 3600) (e := 4) (m := 1) (by kernel_rfl) (by kernel_rfl) rfl (by omega) (by omega) (by omega)) (al1 (act_loadAt (by kernel_rfl) rfl (flags_at (by omega))))) ?_
  refine aw_cond (b := ((angV x e) b.toNat)) rfl (fun h2 => ?_) (fun h2 => ?_)
  ·
   refine awr [(2, .act [1008] (.l (.ref 1008 b.toNat)) []), (3, .act [1008] (.v undef) [(1008, some (refChains_frK7 c b))])]
    ⟨87, [], [(1, .i (gap2V x)), (2, .i m), (3, .l (.ref 1003 0)), (8, .l (.ref 1008 0)), (9, .i b)], (refChains_frH8 x e c b)⟩
    [ActOK Try.prog (.indexAddr 158 (.tmp 8) (.tmp 30)) 0 [.l (.ref 1008 0), .i b] [1008] [some (refChains_frK5 c b)] (.l (.ref 1008 b.toNat)) [], ActOK Try.prog (.store 3 (.tmp 32) (.tmp 31)) 0 [.l (.ref 1008 b.toNat), .i b] [1008] [some (refChains_frK5 c b)] (.v undef) [(1008, some (refChains_frK7 c b))]] (al2 (act_idxAt2 (k := b.toNat) (n := 3601) (e := 3) (m := 1) (by kernel_rfl) (by kernel_rfl) rfl (by omega) (by omega) (by omega)) (al1 (act_storeAt2 (by kernel_rfl) rfl (nexts_len (by omega)) (nexts_set (by omega))))) ?_
   refine awr []
    ⟨87, [], [(1, .i (gap2V x)), (2, .i m), (3, .l (.ref 1003 0)), (8, .l (.ref 1008 0)), (9, .i (b - 1))], (refChains_frH8 x e c b)⟩
    [-9223372036854775808 ≤ (b - 1) ∧ (b - 1) < 9223372036854775808] (al1 (by omega)) ?_
   exact ⟨((b - 1), (setF (setF c b.toNat (c ((b + 1).toNat))) b.toNat b)), ⟨(by (try dsimp only); first | omega | rfl | assumption | (simp; done)), (by (try dsimp only); first | exact down_on hn hc (by omega) (by omega) (by assumption) | exact down_no hn hc (by omega) (by omega) (by assumption))⟩, (show ((b - 1) + 1).toNat < (b + 1).toNat by first | omega | rfl | assumption),
       (enr [] ⟨rfl, rfl, rfl, rfl, rfl, trivial⟩ (cbl rfl (flagsC_le rfl) (cbl rfl (nextsC_le rfl) trivial)))⟩
  ·
   apply aw_skip
   refine awr []
    ⟨87, [], [(1, .i (gap2V x)), (2, .i m), (3, .l (.ref 1003 0)), (8, .l (.ref 1008 0)), (9, .i (b - 1))], (refChains_frH6 x e c b)⟩
    [-9223372036854775808 ≤ (b - 1) ∧ (b - 1) < 9223372036854775808] (al1 (by omega)) ?_
   exact ⟨((b - 1), (setF c b.toNat (c ((b + 1).toNat)))), ⟨(by (try dsimp only); first | omega | rfl | assumption | (simp; done)), (by (try dsimp only); first | exact down_on hn hc (by omega) (by omega) (by assumption) | exact down_no hn hc (by omega) (by omega) (by assumption))⟩, (show ((b - 1) + 1).toNat < (b + 1).toNat by first | omega | rfl | assumption),
       (enr [] ⟨rfl, rfl, rfl, rfl, rfl, trivial⟩ (cbl rfl (flagsC_le rfl) (cbl rfl (nextsC_le rfl) trivial)))⟩
 ·
  have h1p : b < 0 := dle h1
  refine aw_exit (exit_then (exit_then (exit_in ?_)))
  apply aw_seq
  refine aw_ent (T := ⟨87, [], [(1, .i (gap2V x)), (2, .i m), (3, .l (.ref 1003 0)), (8, .l (.ref 1008 0)), (9, .i b), (18, .b (decide (0 ≤ b)))], (refChains_frH10 x e)⟩)
      (enr [] ⟨rfl, rfl, rfl, rfl, rfl, rfl, trivial⟩ (cbl rfl (flagsC_le rfl) (cbl rfl (nextsC_of (by first | rfl | omega | assumption | (exact fun k hk => hc k (by omega) (by omega)) | (exact congrArg List.length (chO_end hm.1 hoq hfL (by omega))) | (exact chO_end hm.1 hoq hfL (by omega)) | (rw [chO_end hm.1 hoq hfL (by omega)]) | (simp only [List.length_append, List.length_singleton]; done))) trivial))) ?_
  refine awr [(0, .new 1033)]
   ⟨87, [], [(1, .i (gap2V x)), (2, .i m), (3, .l (.ref 1003 0)), (8, .l (.ref 1008 0)), (10, .i 0), (11, .ls 1033)], (refChains_frH11 x e)⟩
   [] trivial ?_
  apply aw_seq
  apply aw_seq
  refine awr []
   ⟨87, [], [(1, .i (gap2V x)), (2, .i m), (3, .l (.ref 1003 0)), (8, .l (.ref 1008 0)), (10, .i 0), (11, .ls 1033), (12, .i 0)], (refChains_frH11 x e)⟩
   [] trivial ?_
  apply aw_block
  refine aw_loop (ι := Nat × List Int) (fun zz => ⟨87, [], [(1, .i (gap2V x)), (2, .i m), (3, .l (.ref 1003 0)), (8, .l (.ref 1008 0)), (10, .i (zz.2.length : Int)), (11, .ls 2001), (12, .i (zz.1 : Int))], (refChains_frH12 x e zz.2)⟩) (fun zz => (zz.1 ≤ 3600) ∧ (zz.2 = (chO (nextV x e) (gapV x) m (angV x e) zz.1))) (fun zz => 3600 - zz.1) (0, []) ⟨(by (try dsimp only); first | omega | rfl | assumption | (simp; done)), (by (try dsimp only); rfl)⟩
      (enr [(2001, 1033)] ⟨rfl, rfl, rfl, rfl, (slot_i rfl (by first | rfl | omega | assumption | (exact congrArg List.length (chO_end hm.1 hoq hfL (by omega))) | (exact chO_end hm.1 hoq hfL (by omega)) | (rw [chO_end hm.1 hoq hfL (by omega)]) | (simp only [List.length_append, List.length_singleton]; done))), rfl, rfl, trivial⟩ (cbl rfl (flagsC_le rfl) (cbl rfl (nextsC_le rfl) (conts_cons rfl (le_vec (by first | rfl | omega | assumption | (exact congrArg List.length (chO_end hm.1 hoq hfL (by omega))) | (exact chO_end hm.1 hoq hfL (by omega)) | (rw [chO_end hm.1 hoq hfL (by omega)]) | (simp only [List.length_append, List.length_singleton]; done)) (fun i hi => absurd hi (by omega))) trivial)))) fun zz hp => ?_
  obtain ⟨f, o⟩ := zz
  obtain ⟨hfL, hoq⟩ := hp
  dsimp only at hfL hoq
  show AW _ E _ _ ⟨87, [], [(1, .i (gap2V x)), (2, .i m), (3, .l (.ref 1003 0)), (8, .l (.ref 1008 0)), (10, .i (o.length : Int)), (11, .ls 2001), (12, .i (f : Int))], (refChains_frH12 x e o)⟩
  apply aw_seq
  apply aw_seq
  have hol := chO_len (n := nextV x e) (g := gapV x) (p := angV x e) (f := f) hm.1
  rw [← hoq] at hol
  rcases Bool.eq_false_or_eq_true (decide ((f : Int) < 3600)) with h3 | h3
  ·
   have h3p : (f : Int) < 3600 := dtr h3
   refine awr [(2, .dec true)]
    ⟨87, [], [(1, .i (gap2V x)), (2, .i m), (3, .l (.ref 1003 0)), (8, .l (.ref 1008 0)), (10, .i (o.length : Int)), (11, .ls 2001), (12, .i (f : Int)), (40, .b (decide ((o.length : Int) < m)))], (refChains_frH12 x e o)⟩
    [decide ((f : Int) < 3600) = true] (al1 h3) ?_
   refine aw_cond (b := decide ((o.length : Int) < m)) rfl (fun h4 => ?_) (fun h4 => ?_)
   ·
    have h4p : (o.length : Int) < m := dtr h4
    apply aw_skip
    apply aw_seq
    apply aw_block
    apply aw_seq
    apply aw_seq
    refine awr [(1, .act [1003] (.l (.ref 1003 f)) []), (2, .act [1003] (.b ((angV x e) f)) [])]
     ⟨87, [], [(1, .i (gap2V x)), (2, .i m), (3, .l (.ref 1003 0)), (8, .l (.ref 1008 0)), (10, .i (o.length : Int)), (11, .ls 2001), (12, .i (f : Int)), (46, .b (!((angV x e) f)))], (refChains_frH12 x e o)⟩
     [ActOK Try.prog (.indexAddr 131 (.tmp 3) (.tmp 43)) 0 [.l (.ref 1003 0), .i (f : Int)] [1003] [some (.blk 131 (flagsC (angV x e)))] (.l (.ref 1003 f)) [], ActOK Try.prog (.load 4 (.tmp 44)) 4 [.l (.ref 1003 f)] [1003] [some (.blk 131 (flagsC (angV x e)))] (.b ((angV x e) f)) []] (al2 (act_idxAt2 (k := f) (n := 3600) (e := 4) (m := 1) (by kernel_rfl) (by kernel_rfl) rfl (by omega) (by omega) (by omega)) (al1 (act_loadAt (by kernel_rfl) rfl (flags_at (by omega))))) ?_
    refine aw_cond (b := (!((angV x e) f))) rfl (fun h5 => ?_) (fun h5 => ?_)
    ·
     refine aw_exit (exit_then (exit_in ?_))
     refine awr [(1, .num (((f + 1) : Nat) : Int))]
      ⟨87, [], [(1, .i (gap2V x)), (2, .i m), (3, .l (.ref 1003 0)), (8, .l (.ref 1008 0)), (10, .i (o.length : Int)), (11, .ls 2001), (12, .i (((f + 1) : Nat) : Int))], (refChains_frH12 x e o)⟩
      [((f : Int) + 1) = (((f + 1) : Nat) : Int), -9223372036854775808 ≤ (((f + 1) : Nat) : Int) ∧ (((f + 1) : Nat) : Int) < 9223372036854775808] (al2 (by omega) (al1 (by omega))) ?_
     exact ⟨((f + 1), o), ⟨(by (try dsimp only); first | omega | rfl | assumption | (simp; done)), (by (try dsimp only); first | exact chO_no hoq (by assumption) | exact chO_no hoq (by simpa using (by assumption : (!(angV x e f)) = true)) | exact chO_set hoq hpf hlq (by omega) | exact chO_le hoq hlq (by omega))⟩, (show 3600 - (f + 1) < 3600 - f by first | omega | rfl | assumption),
         (enr [] ⟨rfl, rfl, rfl, rfl, rfl, rfl, rfl, trivial⟩ (cbl rfl (flagsC_le rfl) (cbl rfl (nextsC_le rfl) (cve rfl trivial))))⟩
    ·
     apply aw_skip
     apply aw_seq
     have hpf : angV x e f = true := by simpa using (by assumption : (!(angV x e f)) = false)
     refine awr [(1, .new 1048)]
      ⟨87, [], [(1, .i (gap2V x)), (2, .i m), (3, .l (.ref 1003 0)), (8, .l (.ref 1008 0)), (10, .i (o.length : Int)), (11, .ls 2001), (12, .i (f : Int)), (13, .ls 1048)], (refChains_frH14 x e f o)⟩
      [] trivial ?_
     apply aw_seq
     apply aw_block
     refine aw_loop (ι := List Int) (fun zz => ⟨87, [], [(1, .i (gap2V x)), (2, .i m), (3, .l (.ref 1003 0)), (8, .l (.ref 1008 0)), (10, .i (o.length : Int)), (11, .ls 2001), (12, .i (f : Int)), (13, .ls 2002)], (refChains_frH15 x e o zz)⟩) (fun zz => (RowInv (nextV x e) (gapV x) m f zz)) (fun zz => (m - zz.length).toNat) ([(f : Int)]) (by exact row_start (by omega) (by omega))
         (enr [(2002, 1048)] ⟨rfl, rfl, rfl, rfl, rfl, rfl, rfl, rfl, trivial⟩ (cbl rfl (flagsC_le rfl) (cbl rfl (nextsC_le rfl) (cve rfl (conts_cons rfl (le_vec (by first | rfl | omega | assumption | (exact congrArg List.length (chO_end hm.1 hoq hfL (by omega))) | (exact chO_end hm.1 hoq hfL (by omega)) | (rw [chO_end hm.1 hoq hfL (by omega)]) | (simp only [List.length_append, List.length_singleton]; done)) (fun | 0, _ => (fun | 0, _ => rfl | (_n + 1), h => absurd h (by omega)) | (_n + 1), h => absurd h (by omega))) trivial))))) fun zz hp => ?_
     obtain ⟨l, rfl⟩ : ∃ x, x = zz := ⟨_, rfl⟩
     have hlI := hp
     show AW _ E _ _ ⟨87, [], [(1, .i (gap2V x)), (2, .i m), (3, .l (.ref 1003 0)), (8, .l (.ref 1008 0)), (10, .i (o.length : Int)), (11, .ls 2001), (12, .i (f : Int)), (13, .ls 2002)], (refChains_frH15 x e o l)⟩
     apply aw_seq
     apply aw_seq
     refine awr []
      ⟨87, [], [(1, .i (gap2V x)), (2, .i m), (3, .l (.ref 1003 0)), (8, .l (.ref 1008 0)), (10, .i (o.length : Int)), (11, .ls 2001), (12, .i (f : Int)), (13, .ls 2002), (52, .b (decide ((l.length : Int) < m)))], (refChains_frH15 x e o l)⟩
      [] trivial ?_
     refine aw_cond (b := decide ((l.length : Int) < m)) rfl (fun h6 => ?_) (fun h6 => ?_)
     ·
      have h6p : (l.length : Int) < m := dtr h6
      apply aw_skip
      apply aw_block
      apply aw_seq
      have hl1 := hlI.last
      have hl2 := hlI.pos
      have hl3 := hlI.le
      have hl4 := fromV_le hno (a := lastI l + gapV x) (by omega)
      have hls : ix l (((l.length : Int) - 1).toNat) = lastI l := by unfold lastI; congr 1; omega
      refine awr [(4, .idx (((l.length : Int) - 1).toNat)), (9, .act [1008] (.l (.ref 1008 ((min 3600 ((ix l (((l.length : Int) - 1).toNat)) + (gap2V x))).toNat))) []), (10, .act [1008] (.i ((nextM (nextV x e)) ((min 3600 ((ix l (((l.length : Int) - 1).toNat)) + (gap2V x))).toNat))) [])]
       ⟨87, [], [(1, .i (gap2V x)), (2, .i m), (3, .l (.ref 1003 0)), (8, .l (.ref 1008 0)), (10, .i (o.length : Int)), (11, .ls 2001), (12, .i (f : Int)), (13, .ls 2002), (14, .i ((nextM (nextV x e)) ((min 3600 ((ix l (((l.length : Int) - 1).toNat)) + (gap2V x))).toNat)))], (refChains_frH15 x e o l)⟩
       [-9223372036854775808 ≤ ((l.length : Int) - 1) ∧ ((l.length : Int) - 1) < 9223372036854775808, ((l.length : Int) - 1) = ((((l.length : Int) - 1).toNat : Nat) : Int), ((l.length : Int) - 1).toNat < l.length, ((l.length : Int) - 1).toNat < l.length, -9223372036854775808 ≤ ((ix l (((l.length : Int) - 1).toNat)) + (gap2V x)) ∧ ((ix l (((l.length : Int) - 1).toNat)) + (gap2V x)) < 9223372036854775808, ActOK Try.prog (.indexAddr 158 (.tmp 8) (.tmp 61)) 0 [.l (.ref 1008 0), .i (min 3600 ((ix l (((l.length : Int) - 1).toNat)) + (gap2V x)))] [1008] [some (refChains_frK9 x e)] (.l (.ref 1008 ((min 3600 ((ix l (((l.length : Int) - 1).toNat)) + (gap2V x))).toNat))) [], ActOK Try.prog (.load 3 (.tmp 62)) 3 [.l (.ref 1008 ((min 3600 ((ix l (((l.length : Int) - 1).toNat)) + (gap2V x))).toNat))] [1008] [some (refChains_frK9 x e)] (.i ((nextM (nextV x e)) ((min 3600 ((ix l (((l.length : Int) - 1).toNat)) + (gap2V x))).toNat))) []] (al2 (by omega) (al2 (by omega) (al2 (by omega) (al2 (by omega) (al2 (by omega) (al2 (act_idxAt2 (k := (min 3600 ((ix l (((l.length : Int) - 1).toNat)) + (gap2V x))).toNat) (n := 3601) (e := 3) (m := 1) (by kernel_rfl) (by kernel_rfl) rfl (by omega) (by omega) (by omega)) (al1 (act_loadAt (by kernel_rfl) rfl (nexts_at (by omega)))))))))) ?_
      apply aw_seq
      apply aw_seq
      have hv : nextM (nextV x e) (min 3600 (ix l (((l.length : Int) - 1).toNat) + gap2V x)).toNat = min (fromV (nextV x e) (lastI l + gapV x)) 3600 := by rw [hls, hg2, show (min 3600 (lastI l + min (gapV x) 3600)).toNat = (min (lastI l + gapV x) 3600).toNat by omega]; rfl
      refine aw_ent (T := ⟨87, [], [(1, .i (gap2V x)), (2, .i m), (3, .l (.ref 1003 0)), (8, .l (.ref 1008 0)), (10, .i (o.length : Int)), (11, .ls 2001), (12, .i (f : Int)), (13, .ls 2002), (14, .i (min (fromV (nextV x e) (lastI l + gapV x)) 3600))], (refChains_frH15 x e o l)⟩)
          (enr [] ⟨rfl, rfl, rfl, rfl, rfl, rfl, rfl, rfl, (slot_i rfl (by first | rfl | omega | assumption | (exact hv) | (exact congrArg List.length (chO_end hm.1 hoq hfL (by omega))) | (exact chO_end hm.1 hoq hfL (by omega)) | (rw [chO_end hm.1 hoq hfL (by omega)]) | (simp only [List.length_append, List.length_singleton]; done))), trivial⟩ (cbl rfl (flagsC_le rfl) (cbl rfl (nextsC_le rfl) (cve rfl (cve rfl trivial))))) ?_
      rcases Bool.eq_false_or_eq_true (decide (3599 < (min (fromV (nextV x e) (lastI l + gapV x)) 3600))) with h7 | h7
      ·
       have h7p : 3599 < (min (fromV (nextV x e) (lastI l + gapV x)) 3600) := dtr h7
       refine awr [(2, .dec true)]
        ⟨87, [], [(1, .i (gap2V x)), (2, .i m), (3, .l (.ref 1003 0)), (8, .l (.ref 1008 0)), (10, .i (o.length : Int)), (11, .ls 2001), (12, .i (f : Int)), (13, .ls 2002), (14, .i (min (fromV (nextV x e) (lastI l + gapV x)) 3600)), (73, .b true)], (refChains_frH15 x e o l)⟩
        [decide (3599 < (min (fromV (nextV x e) (lastI l + gapV x)) 3600)) = true] (al1 h7) ?_
       refine aw_true rfl ?_
       refine aw_exit (exit_then (exit_out (by kernel_rfl) (exit_then (exit_in ?_))))
       apply aw_seq
       have hlq : l = takeR (nextV x e) (gapV x) m f := by first | exact row_end hlI (by omega) | exact row_far hno hg.1 hlI (.inl (by omega)) | exact row_far hno hg.1 hlI (.inr (by omega))
       refine awr []
        ⟨87, [], [(1, .i (gap2V x)), (2, .i m), (3, .l (.ref 1003 0)), (8, .l (.ref 1008 0)), (10, .i (o.length : Int)), (11, .ls 2001), (12, .i (f : Int)), (13, .ls 2002), (81, .b (decide ((o.length : Int) < (l.length : Int))))], (refChains_frH15 x e o l)⟩
        [] trivial ?_
       refine aw_cond (b := decide ((o.length : Int) < (l.length : Int))) rfl (fun h8 => ?_) (fun h8 => ?_)
       ·
        have h8p : (o.length : Int) < (l.length : Int) := dtr h8
        refine awr []
         ⟨87, [], [(1, .i (gap2V x)), (2, .i m), (3, .l (.ref 1003 0)), (8, .l (.ref 1008 0)), (10, .i (l.length : Int)), (11, .ls 2002), (12, .i (f : Int))], (refChains_frH16 x e l)⟩
         [] trivial ?_
        refine awr [(1, .num (((f + 1) : Nat) : Int))]
         ⟨87, [], [(1, .i (gap2V x)), (2, .i m), (3, .l (.ref 1003 0)), (8, .l (.ref 1008 0)), (10, .i (l.length : Int)), (11, .ls 2002), (12, .i (((f + 1) : Nat) : Int))], (refChains_frH16 x e l)⟩
         [((f : Int) + 1) = (((f + 1) : Nat) : Int), -9223372036854775808 ≤ (((f + 1) : Nat) : Int) ∧ (((f + 1) : Nat) : Int) < 9223372036854775808] (al2 (by omega) (al1 (by omega))) ?_
        exact ⟨((f + 1), l), ⟨(by (try dsimp only); first | omega | rfl | assumption | (simp; done)), (by (try dsimp only); first | exact chO_no hoq (by assumption) | exact chO_no hoq (by simpa using (by assumption : (!(angV x e f)) = true)) | exact chO_set hoq hpf hlq (by omega) | exact chO_le hoq hlq (by omega))⟩, (show 3600 - (f + 1) < 3600 - f by first | omega | rfl | assumption),
            (enr [(2001, 2002)] ⟨rfl, rfl, rfl, rfl, (slot_i rfl (by first | rfl | omega | assumption | (exact congrArg List.length (chO_end hm.1 hoq hfL (by omega))) | (exact chO_end hm.1 hoq hfL (by omega)) | (rw [chO_end hm.1 hoq hfL (by omega)]) | (simp only [List.length_append, List.length_singleton]; done))), rfl, rfl, trivial⟩ (cbl rfl (flagsC_le rfl) (cbl rfl (nextsC_le rfl) (cve rfl trivial))))⟩
       ·
        have h8p : (l.length : Int) ≤ (o.length : Int) := dlt h8
        apply aw_skip
        refine awr [(1, .num (((f + 1) : Nat) : Int))]
         ⟨87, [], [(1, .i (gap2V x)), (2, .i m), (3, .l (.ref 1003 0)), (8, .l (.ref 1008 0)), (10, .i (o.length : Int)), (11, .ls 2001), (12, .i (((f + 1) : Nat) : Int))], (refChains_frH12 x e o)⟩
         [((f : Int) + 1) = (((f + 1) : Nat) : Int), -9223372036854775808 ≤ (((f + 1) : Nat) : Int) ∧ (((f + 1) : Nat) : Int) < 9223372036854775808] (al2 (by omega) (al1 (by omega))) ?_
        exact ⟨((f + 1), o), ⟨(by (try dsimp only); first | omega | rfl | assumption | (simp; done)), (by (try dsimp only); first | exact chO_no hoq (by assumption) | exact chO_no hoq (by simpa using (by assumption : (!(angV x e f)) = true)) | exact chO_set hoq hpf hlq (by omega) | exact chO_le hoq hlq (by omega))⟩, (show 3600 - (f + 1) < 3600 - f by first | omega | rfl | assumption),
            (enr [] ⟨rfl, rfl, rfl, rfl, rfl, rfl, rfl, trivial⟩ (cbl rfl (flagsC_le rfl) (cbl rfl (nextsC_le rfl) (cve rfl trivial))))⟩
      ·
       have h7p : (min (fromV (nextV x e) (lastI l + gapV x)) 3600) ≤ 3599 := dlt h7
       refine awr [(2, .dec false)]
        ⟨87, [], [(1, .i (gap2V x)), (2, .i m), (3, .l (.ref 1003 0)), (8, .l (.ref 1008 0)), (10, .i (o.length : Int)), (11, .ls 2001), (12, .i (f : Int)), (13, .ls 2002), (14, .i (min (fromV (nextV x e) (lastI l + gapV x)) 3600)), (73, .b (decide ((3600 - (gap2V x)) < ((min (fromV (nextV x e) (lastI l + gapV x)) 3600) - (f : Int)))))], (refChains_frH15 x e o l)⟩
        [decide (3599 < (min (fromV (nextV x e) (lastI l + gapV x)) 3600)) = false, -9223372036854775808 ≤ ((min (fromV (nextV x e) (lastI l + gapV x)) 3600) - (f : Int)) ∧ ((min (fromV (nextV x e) (lastI l + gapV x)) 3600) - (f : Int)) < 9223372036854775808, -9223372036854775808 ≤ (3600 - (gap2V x)) ∧ (3600 - (gap2V x)) < 9223372036854775808] (al2 h7 (al2 (by omega) (al1 (by omega)))) ?_
       refine aw_cond (b := decide ((3600 - (gap2V x)) < ((min (fromV (nextV x e) (lastI l + gapV x)) 3600) - (f : Int)))) rfl (fun h9 => ?_) (fun h9 => ?_)
       ·
        have h9p : (3600 - (gap2V x)) < ((min (fromV (nextV x e) (lastI l + gapV x)) 3600) - (f : Int)) := dtr h9
        refine aw_exit (exit_then (exit_out (by kernel_rfl) (exit_then (exit_in ?_))))
        apply aw_seq
        have hlq : l = takeR (nextV x e) (gapV x) m f := by first | exact row_end hlI (by omega) | exact row_far hno hg.1 hlI (.inl (by omega)) | exact row_far hno hg.1 hlI (.inr (by omega))
        refine awr []
         ⟨87, [], [(1, .i (gap2V x)), (2, .i m), (3, .l (.ref 1003 0)), (8, .l (.ref 1008 0)), (10, .i (o.length : Int)), (11, .ls 2001), (12, .i (f : Int)), (13, .ls 2002), (81, .b (decide ((o.length : Int) < (l.length : Int))))], (refChains_frH15 x e o l)⟩
         [] trivial ?_
        refine aw_cond (b := decide ((o.length : Int) < (l.length : Int))) rfl (fun h10 => ?_) (fun h10 => ?_)
        ·
         have h10p : (o.length : Int) < (l.length : Int) := dtr h10
         refine awr []
          ⟨87, [], [(1, .i (gap2V x)), (2, .i m), (3, .l (.ref 1003 0)), (8, .l (.ref 1008 0)), (10, .i (l.length : Int)), (11, .ls 2002), (12, .i (f : Int))], (refChains_frH16 x e l)⟩
          [] trivial ?_
         refine awr [(1, .num (((f + 1) : Nat) : Int))]
          ⟨87, [], [(1, .i (gap2V x)), (2, .i m), (3, .l (.ref 1003 0)), (8, .l (.ref 1008 0)), (10, .i (l.length : Int)), (11, .ls 2002), (12, .i (((f + 1) : Nat) : Int))], (refChains_frH16 x e l)⟩
          [((f : Int) + 1) = (((f + 1) : Nat) : Int), -9223372036854775808 ≤ (((f + 1) : Nat) : Int) ∧ (((f + 1) : Nat) : Int) < 9223372036854775808] (al2 (by omega) (al1 (by omega))) ?_
         exact ⟨((f + 1), l), ⟨(by (try dsimp only); first | omega | rfl | assumption | (simp; done)), (by (try dsimp only); first | exact chO_no hoq (by assumption) | exact chO_no hoq (by simpa using (by assumption : (!(angV x e f)) = true)) | exact chO_set hoq hpf hlq (by omega) | exact chO_le hoq hlq (by omega))⟩, (show 3600 - (f + 1) < 3600 - f by first | omega | rfl | assumption),
             (enr [(2001, 2002)] ⟨rfl, rfl, rfl, rfl, (slot_i rfl (by first | rfl | omega | assumption | (exact congrArg List.length (chO_end hm.1 hoq hfL (by omega))) | (exact chO_end hm.1 hoq hfL (by omega)) | (rw [chO_end hm.1 hoq hfL (by omega)]) | (simp only [List.length_append, List.length_singleton]; done))), rfl, rfl, trivial⟩ (cbl rfl (flagsC_le rfl) (cbl rfl (nextsC_le rfl) (cve rfl trivial))))⟩
        ·
         have h10p : (l.length : Int) ≤ (o.length : Int) := dlt h10
         apply aw_skip
         refine awr [(1, .num (((f + 1) : Nat) : Int))]
          ⟨87, [], [(1, .i (gap2V x)), (2, .i m), (3, .l (.ref 1003 0)), (8, .l (.ref 1008 0)), (10, .i (o.length : Int)), (11, .ls 2001), (12, .i (((f + 1) : Nat) : Int))], (refChains_frH12 x e o)⟩
          [((f : Int) + 1) = (((f + 1) : Nat) : Int), -9223372036854775808 ≤ (((f + 1) : Nat) : Int) ∧ (((f + 1) : Nat) : Int) < 9223372036854775808] (al2 (by omega) (al1 (by omega))) ?_
         exact ⟨((f + 1), o), ⟨(by (try dsimp only); first | omega | rfl | assumption | (simp; done)), (by (try dsimp only); first | exact chO_no hoq (by assumption) | exact chO_no hoq (by simpa using (by assumption : (!(angV x e f)) = true)) | exact chO_set hoq hpf hlq (by omega) | exact chO_le hoq hlq (by omega))⟩, (show 3600 - (f + 1) < 3600 - f by first | omega | rfl | assumption),
             (enr [] ⟨rfl, rfl, rfl, rfl, rfl, rfl, rfl, trivial⟩ (cbl rfl (flagsC_le rfl) (cbl rfl (nextsC_le rfl) (cve rfl trivial))))⟩
       ·
        have h9p : ((min (fromV (nextV x e) (lastI l + gapV x)) 3600) - (f : Int)) ≤ (3600 - (gap2V x)) := dlt h9
        apply aw_skip
        have hla : ((l ++ [min (fromV (nextV x e) (lastI l + gapV x)) 3600] : List Int).length : Int) = (l.length : Int) + 1 := by simp
        refine awr [(2, .new 1076), (3, .lst 1077 (l.length + 1) (Lst eI (l ++ [(min (fromV (nextV x e) (lastI l + gapV x)) 3600)])))]
         ⟨87, [], [(1, .i (gap2V x)), (2, .i m), (3, .l (.ref 1003 0)), (8, .l (.ref 1008 0)), (10, .i (o.length : Int)), (11, .ls 2001), (12, .i (f : Int)), (13, .ls 1077)], (refChains_frH18 x e l o)⟩
         [l.length + 1 ≤ 1000000000000, (l.length + 1) * 8 ≤ 140737488355328, AppOk 1 l.length 1 (Lst eI l) (exEl 1 [.i (min (fromV (nextV x e) (lastI l + gapV x)) 3600)]) (l.length + 1) (Lst eI (l ++ [(min (fromV (nextV x e) (lastI l + gapV x)) 3600)]))] (al2 (by omega) (al2 (by omega) (al1 (app_one (by first | omega | rfl | assumption) (by first | omega | rfl | assumption) (fun | 0, _ => rfl | (n + 1), h => absurd h (by omega)))))) ?_
        exact ⟨(l ++ [(min (fromV (nextV x e) (lastI l + gapV x)) 3600)]), (by exact row_on hno hg.1 hlI (by omega) (by omega) (by omega)), (show (m - (l ++ [(min (fromV (nextV x e) (lastI l + gapV x)) 3600)]).length).toNat < (m - l.length).toNat by first | omega | rfl | assumption),
            (enr [(2002, 1077)] ⟨rfl, rfl, rfl, rfl, rfl, rfl, rfl, rfl, trivial⟩ (cbl rfl (flagsC_le rfl) (cbl rfl (nextsC_le rfl) (cve rfl (conts_cons rfl (le_vec (by first | rfl | omega | assumption | (exact congrArg List.length (chO_end hm.1 hoq hfL (by omega))) | (exact chO_end hm.1 hoq hfL (by omega)) | (rw [chO_end hm.1 hoq hfL (by omega)]) | (simp only [List.length_append, List.length_singleton]; done)) el_rfl) trivial)))))⟩
     ·
      have h6p : m ≤ (l.length : Int) := dlt h6
      refine aw_exit (exit_then (exit_then (exit_in ?_)))
      apply aw_seq
      have hlq : l = takeR (nextV x e) (gapV x) m f := by first | exact row_end hlI (by omega) | exact row_far hno hg.1 hlI (.inl (by omega)) | exact row_far hno hg.1 hlI (.inr (by omega))
      refine awr []
       ⟨87, [], [(1, .i (gap2V x)), (2, .i m), (3, .l (.ref 1003 0)), (8, .l (.ref 1008 0)), (10, .i (o.length : Int)), (11, .ls 2001), (12, .i (f : Int)), (13, .ls 2002), (81, .b (decide ((o.length : Int) < (l.length : Int))))], (refChains_frH15 x e o l)⟩
       [] trivial ?_
      refine aw_cond (b := decide ((o.length : Int) < (l.length : Int))) rfl (fun h11 => ?_) (fun h11 => ?_)
      ·
       have h11p : (o.length : Int) < (l.length : Int) := dtr h11
       refine awr []
        ⟨87, [], [(1, .i (gap2V x)), (2, .i m), (3, .l (.ref 1003 0)), (8, .l (.ref 1008 0)), (10, .i (l.length : Int)), (11, .ls 2002), (12, .i (f : Int))], (refChains_frH16 x e l)⟩
        [] trivial ?_
       refine awr [(1, .num (((f + 1) : Nat) : Int))]
        ⟨87, [], [(1, .i (gap2V x)), (2, .i m), (3, .l (.ref 1003 0)), (8, .l (.ref 1008 0)), (10, .i (l.length : Int)), (11, .ls 2002), (12, .i (((f + 1) : Nat) : Int))], (refChains_frH16 x e l)⟩
        [((f : Int) + 1) = (((f + 1) : Nat) : Int), -9223372036854775808 ≤ (((f + 1) : Nat) : Int) ∧ (((f + 1) : Nat) : Int) < 9223372036854775808] (al2 (by omega) (al1 (by omega))) ?_
       exact ⟨((f + 1), l), ⟨(by (try dsimp only); first | omega | rfl | assumption | (simp; done)), (by (try dsimp only); first | exact chO_no hoq (by assumption) | exact chO_no hoq (by simpa using (by assumption : (!(angV x e f)) = true)) | exact chO_set hoq hpf hlq (by omega) | exact chO_le hoq hlq (by omega))⟩, (show 3600 - (f + 1) < 3600 - f by first | omega | rfl | assumption),
           (enr [(2001, 2002)] ⟨rfl, rfl, rfl, rfl, (slot_i rfl (by first | rfl | omega | assumption | (exact congrArg List.length (chO_end hm.1 hoq hfL (by omega))) | (exact chO_end hm.1 hoq hfL (by omega)) | (rw [chO_end hm.1 hoq hfL (by omega)]) | (simp only [List.length_append, List.length_singleton]; done))), rfl, rfl, trivial⟩ (cbl rfl (flagsC_le rfl) (cbl rfl (nextsC_le rfl) (cve rfl trivial))))⟩
      ·
       have h11p : (l.length : Int) ≤ (o.length : Int) := dlt h11
       apply aw_skip
       refine awr [(1, .num (((f + 1) : Nat) : Int))]
        ⟨87, [], [(1, .i (gap2V x)), (2, .i m), (3, .l (.ref 1003 0)), (8, .l (.ref 1008 0)), (10, .i (o.length : Int)), (11, .ls 2001), (12, .i (((f + 1) : Nat) : Int))], (refChains_frH12 x e o)⟩
        [((f : Int) + 1) = (((f + 1) : Nat) : Int), -9223372036854775808 ≤ (((f + 1) : Nat) : Int) ∧ (((f + 1) : Nat) : Int) < 9223372036854775808] (al2 (by omega) (al1 (by omega))) ?_
       exact ⟨((f + 1), o), ⟨(by (try dsimp only); first | omega | rfl | assumption | (simp; done)), (by (try dsimp only); first | exact chO_no hoq (by assumption) | exact chO_no hoq (by simpa using (by assumption : (!(angV x e f)) = true)) | exact chO_set hoq hpf hlq (by omega) | exact chO_le hoq hlq (by omega))⟩, (show 3600 - (f + 1) < 3600 - f by first | omega | rfl | assumption),
           (enr [] ⟨rfl, rfl, rfl, rfl, rfl, rfl, rfl, trivial⟩ (cbl rfl (flagsC_le rfl) (cbl rfl (nextsC_le rfl) (cve rfl trivial))))⟩
   ·
    have h4p : m ≤ (o.length : Int) := dlt h4
    refine aw_exit (exit_then (exit_then (exit_in ?_)))
    apply aw_seq
    refine awr []
     ⟨87, [], [(6, .i (o.length : Int)), (7, .ls 2001)], [(2001, some (.vec 3 1 o.length (Lst eI o)))]⟩
     [] trivial ?_
    exact aw_ret ⟨.inr rfl, eok ⟨87, [], [(6, .i (((chO (nextV x e) (gapV x) m (angV x e) 3600).length : Nat) : Int)), (7, .ls 9)], [(9, some (refChains_frK19 x e m))]⟩
        (enr [(9, 2001)] ⟨(slot_i rfl (by first | rfl | omega | assumption | (exact congrArg List.length (chO_end hm.1 hoq hfL (by omega))) | (exact chO_end hm.1 hoq hfL (by omega)) | (rw [chO_end hm.1 hoq hfL (by omega)]) | (simp only [List.length_append, List.length_singleton]; done))), rfl, trivial⟩ (conts_cons rfl (le_vec (by first | rfl | omega | assumption | (exact congrArg List.length (chO_end hm.1 hoq hfL (by omega))) | (exact chO_end hm.1 hoq hfL (by omega)) | (rw [chO_end hm.1 hoq hfL (by omega)]) | (simp only [List.length_append, List.length_singleton]; done)) (lst_eq (by first | rfl | omega | assumption | (exact congrArg List.length (chO_end hm.1 hoq hfL (by omega))) | (exact chO_end hm.1 hoq hfL (by omega)) | (rw [chO_end hm.1 hoq hfL (by omega)]) | (simp only [List.length_append, List.length_singleton]; done)))) trivial)) (wr_cons rfl (plain_Lst plain_eI) wr_nil)⟩
  ·
   have h3p : 3600 ≤ (f : Int) := dlt h3
   refine awr [(2, .dec false)]
    ⟨87, [], [(1, .i (gap2V x)), (2, .i m), (3, .l (.ref 1003 0)), (8, .l (.ref 1008 0)), (10, .i (o.length : Int)), (11, .ls 2001), (12, .i (f : Int)), (40, .b false)], (refChains_frH12 x e o)⟩
    [decide ((f : Int) < 3600) = false] (al1 h3) ?_
   refine aw_false rfl ?_
   refine aw_exit (exit_then (exit_then (exit_in ?_)))
   apply aw_seq
   refine awr []
    ⟨87, [], [(6, .i (o.length : Int)), (7, .ls 2001)], [(2001, some (.vec 3 1 o.length (Lst eI o)))]⟩
    [] trivial ?_
   exact aw_ret ⟨.inr rfl, eok ⟨87, [], [(6, .i (((chO (nextV x e) (gapV x) m (angV x e) 3600).length : Nat) : Int)), (7, .ls 9)], [(9, some (refChains_frK19 x e m))]⟩
       (enr [(9, 2001)] ⟨(slot_i rfl (by first | rfl | omega | assumption | (exact congrArg List.length (chO_end hm.1 hoq hfL (by omega))) | (exact chO_end hm.1 hoq hfL (by omega)) | (rw [chO_end hm.1 hoq hfL (by omega)]) | (simp only [List.length_append, List.length_singleton]; done))), rfl, trivial⟩ (conts_cons rfl (le_vec (by first | rfl | omega | assumption | (exact congrArg List.length (chO_end hm.1 hoq hfL (by omega))) | (exact chO_end hm.1 hoq hfL (by omega)) | (rw [chO_end hm.1 hoq hfL (by omega)]) | (simp only [List.length_append, List.length_singleton]; done)) (lst_eq (by first | rfl | omega | assumption | (exact congrArg List.length (chO_end hm.1 hoq hfL (by omega))) | (exact chO_end hm.1 hoq hfL (by omega)) | (rw [chO_end hm.1 hoq hfL (by omega)]) | (simp only [List.length_append, List.length_singleton]; done)))) trivial)) (wr_cons rfl (plain_Lst plain_eI) wr_nil)⟩
end Go.Proofs.Ytbpblhmigijkaaa
