/- Sets of ranges. -/
import Derived.Test.YtbpblhmigijkaaaTd
namespace Go.Proofs.Ytbpblhmigijkaaa
open Go.RowKit
set_option linter.unusedVariables false
set_option linter.unusedSimpArgs false
set_option maxRecDepth 100000 in
theorem spwithin1_fr (lo hi x : Int) : CallFr Try.prog 120 [.i x, .l (.ref 1 0), .l (.ref 2 0)] [1, 2] [some (.rblk [.i lo]), some (.rblk [.i hi])] (.b (outB lo hi x)) [] := by
 refine callFr_of (fn := Try.f120) (by kernel_rfl) rfl (by kernel_rfl) (by kernel_rfl) fun E => ?_
 refine aw_ent (T := ⟨13, [1, 2], [(0, .i x), (1, .l (.ref 1 0)), (2, .l (.ref 2 0))], [(1, some (.rblk [.i lo])), (2, some (.rblk [.i hi]))]⟩) (Ent.refl _) ?_
 apply aw_seq
 refine awr []
  ⟨13, [1, 2], [(0, .i x), (1, .l (.ref 1 0)), (2, .l (.ref 2 0))], [(1, some (.rblk [.i lo])), (2, some (.rblk [.i hi]))]⟩
  [] trivial ?_
 apply aw_seq
 rcases Bool.eq_false_or_eq_true (decide (x < lo)) with h1 | h1
 ·
  have h1p : x < lo := dtr h1
  refine awr [(3, .dec true)]
   ⟨13, [1, 2], [(4, .b true)], []⟩
   [decide (x < lo) = true] (al1 h1) ?_
  exact aw_ret ⟨.inr rfl, eok ⟨13, [1, 2], [(4, .b (outB lo hi x))], []⟩
      (enr [] ⟨(slot_b (a := true) rfl (by first | rfl | omega | assumption | (simp [outB, *]))), trivial⟩ trivial) wr_nil⟩
 ·
  have h1p : lo ≤ x := dlt h1
  refine awr [(3, .dec false)]
   ⟨13, [1, 2], [(4, .b (decide (hi < x)))], []⟩
   [decide (x < lo) = false] (al1 h1) ?_
  exact aw_ret ⟨.inr rfl, eok ⟨13, [1, 2], [(4, .b (outB lo hi x))], []⟩
      (enr [] ⟨(slot_b (a := decide (hi < x)) rfl (by first | rfl | omega | assumption | (simp [outB, *]))), trivial⟩ trivial) wr_nil⟩
def spwithin_ixH1 (l : List Int) (lo : Int) (hi : Int) : List (Nat × Option Cn) := [(0, some (.ro 1 l.length (Lst eI l))), (1, some (.rblk [.i lo])), (2, some (.rblk [.i hi]))]
set_option maxRecDepth 100000 in
theorem spwithin_ix (lo hi : Int)  (l : List Int) (hl : l.length ≤ 1000000)  : CallFr Try.prog 103 [.ls 0, .l (.fnc (.func 120) [1, 2])] [0, 1, 2] [some (.ro 1 l.length (Lst eI l)), some (.rblk [.i lo]), some (.rblk [.i hi])] (.i (findI (outB lo hi) l)) [] := by
 refine callFr_of (fn := Try.f103) (by kernel_rfl) rfl (by kernel_rfl) (by kernel_rfl) fun E => ?_
 refine aw_ent (T := ⟨19, [0, 1, 2], [(0, .ls 0), (1, .l (.fnc (.func 120) [1, 2]))], (spwithin_ixH1 l lo hi)⟩) (Ent.refl _) ?_
 apply aw_seq
 refine awr []
  ⟨19, [0, 1, 2], [(0, .ls 0), (1, .l (.fnc (.func 120) [1, 2]))], (spwithin_ixH1 l lo hi)⟩
  [] trivial ?_
 apply aw_seq
 apply aw_seq
 refine awr []
  ⟨19, [0, 1, 2], [(0, .ls 0), (1, .l (.fnc (.func 120) [1, 2])), (7, .i (l.length : Int)), (8, .i 0)], (spwithin_ixH1 l lo hi)⟩
  [] trivial ?_
 apply aw_block
 refine aw_loop (ι := Nat) (fun zz => ⟨19, [0, 1, 2], [(0, .ls 0), (1, .l (.fnc (.func 120) [1, 2])), (7, .i (l.length : Int)), (8, .i (zz : Int))], (spwithin_ixH1 l lo hi)⟩) (fun zz => (zz ≤ l.length) ∧ (∀ j, j < zz → (outB lo hi) (ix l j) = false)) (fun zz => l.length - zz) 0 ⟨(by first | omega | rfl | assumption | (simp; done)), (by intro j hj; omega)⟩
     (enr [] ⟨rfl, rfl, rfl, rfl, trivial⟩ (cro rfl (crr rfl rfl (crr rfl rfl trivial)))) fun zz hp => ?_
 obtain ⟨i, rfl⟩ : ∃ x, x = zz := ⟨_, rfl⟩
 obtain ⟨hiL, hp⟩ := hp
 show AW _ E _ _ ⟨19, [0, 1, 2], [(0, .ls 0), (1, .l (.fnc (.func 120) [1, 2])), (7, .i (l.length : Int)), (8, .i (i : Int))], (spwithin_ixH1 l lo hi)⟩
 apply aw_seq
 refine awr []
  ⟨19, [0, 1, 2], [(0, .ls 0), (1, .l (.fnc (.func 120) [1, 2])), (7, .i (l.length : Int)), (8, .i (i : Int)), (9, .b (decide ((i : Int) < (l.length : Int))))], (spwithin_ixH1 l lo hi)⟩
  [] trivial ?_
 apply aw_seq
 refine aw_cond (b := decide ((i : Int) < (l.length : Int))) rfl (fun h1 => ?_) (fun h1 => ?_)
 ·
  have h1p : (i : Int) < (l.length : Int) := dtr h1
  apply aw_skip
  apply aw_seq
  apply aw_block
  apply aw_seq
  refine awr []
   ⟨19, [0, 1, 2], [(0, .ls 0), (1, .l (.fnc (.func 120) [1, 2])), (5, .i (i : Int)), (7, .i (l.length : Int)), (8, .i (i : Int))], (spwithin_ixH1 l lo hi)⟩
   [] trivial ?_
  apply aw_seq
  refine awr [(3, .idx i), (5, .act [1, 2] (.b (outB lo hi (ix l i))) [])]
   ⟨19, [0, 1, 2], [(0, .ls 0), (1, .l (.fnc (.func 120) [1, 2])), (5, .i (i : Int)), (7, .i (l.length : Int)), (8, .i (i : Int)), (16, .b (outB lo hi (ix l i)))], (spwithin_ixH1 l lo hi)⟩
   [(i : Int) = (i : Int), i < l.length, i < l.length, ActOK Try.prog (.call ⟨.value (.tmp 11), #[(.tmp 15)], #[3]⟩) 4 [.l (.fnc (.func 120) [1, 2]), .i (ix l i)] [1, 2] [some (.rblk [.i lo]), some (.rblk [.i hi])] (.b (outB lo hi (ix l i))) []] (al2 (by omega) (al2 (by omega) (al2 (by omega) (al1 (act_callv (by kernel_rfl) (by kernel_rfl) (cfr (spwithin1_fr lo hi (ix l i)) [(1, 1), (2, 2)] (dem_cons rfl (le_rblk rfl) (dem_cons rfl (le_rblk rfl) dem_nil)))))))) ?_
  refine aw_cond (b := (outB lo hi (ix l i))) rfl (fun h2 => ?_) (fun h2 => ?_)
  ·
   apply aw_seq
   refine awr []
    ⟨19, [0, 1, 2], [(4, .i (i : Int))], []⟩
    [] trivial ?_
   exact aw_ret (ret_block (ret_then (ret_then (ret_block (ret_then ⟨.inr rfl, eok ⟨19, [0, 1, 2], [(4, .i (findI (outB lo hi) l))], []⟩
       (enr [] ⟨(slot_i rfl (by first | rfl | omega | assumption | (exact findI_at hp (by omega) (by assumption)) | (exact findI_no hp (by omega)))), trivial⟩ trivial) wr_nil⟩)))))
  ·
   apply aw_skip
   refine awr [(0, .num (((i + 1) : Nat) : Int))]
    ⟨19, [0, 1, 2], [(0, .ls 0), (1, .l (.fnc (.func 120) [1, 2])), (7, .i (l.length : Int)), (8, .i (((i + 1) : Nat) : Int))], (spwithin_ixH1 l lo hi)⟩
    [((i : Int) + 1) = (((i + 1) : Nat) : Int), -9223372036854775808 ≤ (((i + 1) : Nat) : Int) ∧ (((i + 1) : Nat) : Int) < 9223372036854775808] (al2 (by omega) (al1 (by omega))) ?_
   exact ⟨(i + 1), ⟨(by first | omega | rfl | assumption | (simp; done)), (by exact all_snoc hp h2)⟩, (show l.length - (i + 1) < l.length - i by first | omega | rfl | assumption),
       (enr [] ⟨rfl, rfl, rfl, rfl, trivial⟩ (cro rfl (crr rfl rfl (crr rfl rfl trivial))))⟩
 ·
  have h1p : (l.length : Int) ≤ (i : Int) := dlt h1
  refine aw_exit (exit_then (exit_then (exit_in ?_)))
  apply aw_seq
  refine awr []
   ⟨19, [0, 1, 2], [(4, .i (-1))], []⟩
   [] trivial ?_
  exact aw_ret ⟨.inr rfl, eok ⟨19, [0, 1, 2], [(4, .i (findI (outB lo hi) l))], []⟩
      (enr [] ⟨(slot_i rfl (by first | rfl | omega | assumption | (exact findI_at hp (by omega) (by assumption)) | (exact findI_no hp (by omega)))), trivial⟩ trivial) wr_nil⟩
def spwithin_anyH1 (l : List Int) (lo : Int) (hi : Int) : List (Nat × Option Cn) := [(0, some (.ro 1 l.length (Lst eI l))), (1, some (.rblk [.i lo])), (2, some (.rblk [.i hi]))]
set_option maxRecDepth 100000 in
theorem spwithin_any (lo hi : Int)  (l : List Int) (hl : l.length ≤ 1000000)  : CallFr Try.prog 80 [.ls 0, .l (.fnc (.func 120) [1, 2])] [0, 1, 2] [some (.ro 1 l.length (Lst eI l)), some (.rblk [.i lo]), some (.rblk [.i hi])] (.b (l.any (outB lo hi))) [] := by
 refine callFr_of (fn := Try.f80) (by kernel_rfl) rfl (by kernel_rfl) (by kernel_rfl) fun E => ?_
 refine aw_ent (T := ⟨9, [0, 1, 2], [(0, .ls 0), (1, .l (.fnc (.func 120) [1, 2]))], (spwithin_anyH1 l lo hi)⟩) (Ent.refl _) ?_
 apply aw_seq
 refine awr []
  ⟨9, [0, 1, 2], [(0, .ls 0), (1, .l (.fnc (.func 120) [1, 2]))], (spwithin_anyH1 l lo hi)⟩
  [] trivial ?_
 apply aw_seq
 refine awr [(2, .call [0, 1, 2] (.i (findI (outB lo hi) l)) [])]
  ⟨9, [0, 1, 2], [(4, .b (decide (0 ≤ (findI (outB lo hi) l))))], []⟩
  [CallOK Try.prog 103 [.ls 0, .l (.fnc (.func 120) [1, 2])] [0, 1, 2] [some (.ro 1 l.length (Lst eI l)), some (.rblk [.i lo]), some (.rblk [.i hi])] (.i (findI (outB lo hi) l)) []] (al1 (cfr (spwithin_ix lo hi  l hl ) [(0, 0), (1, 1), (2, 2)] (dem_cons rfl (le_ro rfl el_rfl) (dem_cons rfl (le_rblk rfl) (dem_cons rfl (le_rblk rfl) dem_nil))))) ?_
 exact aw_ret ⟨.inr rfl, eok ⟨9, [0, 1, 2], [(4, .b (l.any (outB lo hi)))], []⟩
     (enr [] ⟨(slot_b (a := decide (0 ≤ (findI (outB lo hi) l))) rfl (by first | rfl | omega | assumption | (exact findI_any))), trivial⟩ trivial) wr_nil⟩
def spwithin_frH1 (l : List Int) (lo : Int) (hi : Int) : List (Nat × Option Cn) := [(0, some (.ro 1 l.length (Lst eI l))), (1003, some (.blk 3 [.i lo])), (1004, some (.blk 3 [.i hi]))]
set_option maxRecDepth 100000 in
theorem spwithin_fr (lo hi : Int) (l : List Int) (hl : l.length ≤ 1000000) : CallFr Try.prog 118 [.i lo, .i hi, .ls 0] [0] [some (.ro 1 l.length (Lst eI l))] (.b (within lo hi l)) [] := by
 refine callFr_of (fn := Try.f118) (by kernel_rfl) rfl (by kernel_rfl) (by kernel_rfl) fun E => ?_
 refine aw_ent (T := ⟨11, [0], [(0, .i lo), (1, .i hi), (2, .ls 0)], [(0, some (.ro 1 l.length (Lst eI l)))]⟩) (Ent.refl _) ?_
 apply aw_seq
 refine awr [(0, .new 1003), (1, .new 1004)]
  ⟨11, [0], [(2, .ls 0), (3, .l (.ref 1003 0)), (4, .l (.ref 1004 0))], (spwithin_frH1 l lo hi)⟩
  [] trivial ?_
 apply aw_seq
 refine awr [(2, .call [0, 1003, 1004] (.b (l.any (outB lo hi))) [])]
  ⟨11, [0], [(6, .b (!(l.any (outB lo hi))))], []⟩
  [CallOK Try.prog 80 [.ls 0, .l (.fnc (.func 120) [1003, 1004])] [0, 1003, 1004] [some (.ro 1 l.length (Lst eI l)), some (.blk 3 [.i lo]), some (.blk 3 [.i hi])] (.b (l.any (outB lo hi))) []] (al1 (cfr (spwithin_any lo hi  l (by first | omega | (simp; done) | decide | (rw [List.length_take]; omega)) ) [(0, 0), (1, 1003), (2, 1004)] (dem_cons rfl (le_ro rfl el_rfl) (dem_cons rfl (le_blk_r rfl) (dem_cons rfl (le_blk_r rfl) dem_nil))))) ?_
 exact aw_ret ⟨.inr rfl, eok ⟨11, [0], [(6, .b (within lo hi l))], []⟩
     (enr [] ⟨(slot_b (a := (!(l.any (outB lo hi)))) rfl (by first | rfl | omega | assumption | (rfl))), trivial⟩ trivial) wr_nil⟩
def sprange1_frK1 (a : Rg) : Cn := .vec 3 1 2 (exEl 1 [.i a.low, .i a.high])
set_option maxRecDepth 100000 in
theorem sprange1_fr (a : Rg) : CallFr Try.prog 117 [.agg [.i a.low, .i a.high]] [] [] (.b (rgOut a)) [] := by
 refine callFr_of (fn := Try.f117) (by kernel_rfl) rfl (by kernel_rfl) (by kernel_rfl) fun E => ?_
 refine aw_ent (T := ⟨17, [], [(0, .agg [.i a.low, .i a.high])], []⟩) (Ent.refl _) ?_
 apply aw_seq
 refine awr [(0, .new 1001)]
  ⟨17, [], [(1, .l (.ref 1001 0))], [(1001, some (.blk 23 [.i a.low, .i a.high]))]⟩
  [] trivial ?_
 apply aw_seq
 rcases Bool.eq_false_or_eq_true ((!(within (-1000000000000000) 1000000000000000 ([a.low, a.high])))) with h1 | h1
 ·
  refine awr [(4, .new 1007), (5, .call [1007] (.b (within (-1000000000000000) 1000000000000000 ([a.low, a.high]))) []), (7, .dec true)]
   ⟨17, [], [(2, .b true)], []⟩
   [CallOK Try.prog 118 [.i (-1000000000000000), .i 1000000000000000, .ls 1007] [1007] [some (sprange1_frK1 a)] (.b (within (-1000000000000000) 1000000000000000 ([a.low, a.high]))) [], (!(within (-1000000000000000) 1000000000000000 ([a.low, a.high]))) = true] (al2 (cfr (spwithin_fr (-1000000000000000) 1000000000000000 ([a.low, a.high]) (by first | omega | (simp; done) | decide)) [(0, 1007)] (dem_cons rfl (le_vec_ro (by first | omega | rfl | assumption) (fun | 0, _ => (fun | 0, _ => rfl | (_n + 1), h => absurd h (by omega)) | 1, _ => (fun | 0, _ => rfl | (_n + 1), h => absurd h (by omega)) | (_n + 2), h => absurd h (by omega))) dem_nil)) (al1 h1)) ?_
  exact aw_ret ⟨.inr rfl, eok ⟨17, [], [(2, .b (rgOut a))], []⟩
      (enr [] ⟨(slot_b (a := true) rfl (by first | rfl | omega | assumption | (simp [rgOut, *]))), trivial⟩ trivial) wr_nil⟩
 ·
  refine awr [(4, .new 1007), (5, .call [1007] (.b (within (-1000000000000000) 1000000000000000 ([a.low, a.high]))) []), (7, .dec false)]
   ⟨17, [], [(2, .b (decide (a.high < a.low)))], []⟩
   [CallOK Try.prog 118 [.i (-1000000000000000), .i 1000000000000000, .ls 1007] [1007] [some (sprange1_frK1 a)] (.b (within (-1000000000000000) 1000000000000000 ([a.low, a.high]))) [], (!(within (-1000000000000000) 1000000000000000 ([a.low, a.high]))) = false] (al2 (cfr (spwithin_fr (-1000000000000000) 1000000000000000 ([a.low, a.high]) (by first | omega | (simp; done) | decide)) [(0, 1007)] (dem_cons rfl (le_vec_ro (by first | omega | rfl | assumption) (fun | 0, _ => (fun | 0, _ => rfl | (_n + 1), h => absurd h (by omega)) | 1, _ => (fun | 0, _ => rfl | (_n + 1), h => absurd h (by omega)) | (_n + 2), h => absurd h (by omega))) dem_nil)) (al1 h1)) ?_
  exact aw_ret ⟨.inr rfl, eok ⟨17, [], [(2, .b (rgOut a))], []⟩
      (enr [] ⟨(slot_b (a := decide (a.high < a.low)) rfl (by first | rfl | omega | assumption | (simp [rgOut, *]))), trivial⟩ trivial) wr_nil⟩
set_option maxRecDepth 100000 in
theorem spranges_ix   (l : List Rg) (hl : l.length ≤ 1000000)  : CallFr Try.prog 119 [.ls 0, .l (.v (.func (.func 117) #[] #[]))] [0] [some (.ro 2 l.length (Lst eG l))] (.i (findI rgOut l)) [] := by
 refine callFr_of (fn := Try.f119) (by kernel_rfl) rfl (by kernel_rfl) (by kernel_rfl) fun E => ?_
 refine aw_ent (T := ⟨19, [0], [(0, .ls 0), (1, .l (.v (.func (.func 117) #[] #[])))], [(0, some (.ro 2 l.length (Lst eG l)))]⟩) (Ent.refl _) ?_
 apply aw_seq
 refine awr []
  ⟨19, [0], [(0, .ls 0), (1, .l (.v (.func (.func 117) #[] #[])))], [(0, some (.ro 2 l.length (Lst eG l)))]⟩
  [] trivial ?_
 apply aw_seq
 apply aw_seq
 refine awr []
  ⟨19, [0], [(0, .ls 0), (1, .l (.v (.func (.func 117) #[] #[]))), (7, .i (l.length : Int)), (8, .i 0)], [(0, some (.ro 2 l.length (Lst eG l)))]⟩
  [] trivial ?_
 apply aw_block
 refine aw_loop (ι := Nat) (fun zz => ⟨19, [0], [(0, .ls 0), (1, .l (.v (.func (.func 117) #[] #[]))), (7, .i (l.length : Int)), (8, .i (zz : Int))], [(0, some (.ro 2 l.length (Lst eG l)))]⟩) (fun zz => (zz ≤ l.length) ∧ (∀ j, j < zz → rgOut (ix l j) = false)) (fun zz => l.length - zz) 0 ⟨(by first | omega | rfl | assumption | (simp; done)), (by intro j hj; omega)⟩
     (enr [] ⟨rfl, rfl, rfl, rfl, trivial⟩ (cro rfl trivial)) fun zz hp => ?_
 obtain ⟨i, rfl⟩ : ∃ x, x = zz := ⟨_, rfl⟩
 obtain ⟨hiL, hp⟩ := hp
 show AW _ E _ _ ⟨19, [0], [(0, .ls 0), (1, .l (.v (.func (.func 117) #[] #[]))), (7, .i (l.length : Int)), (8, .i (i : Int))], [(0, some (.ro 2 l.length (Lst eG l)))]⟩
 apply aw_seq
 refine awr []
  ⟨19, [0], [(0, .ls 0), (1, .l (.v (.func (.func 117) #[] #[]))), (7, .i (l.length : Int)), (8, .i (i : Int)), (9, .b (decide ((i : Int) < (l.length : Int))))], [(0, some (.ro 2 l.length (Lst eG l)))]⟩
  [] trivial ?_
 apply aw_seq
 refine aw_cond (b := decide ((i : Int) < (l.length : Int))) rfl (fun h1 => ?_) (fun h1 => ?_)
 ·
  have h1p : (i : Int) < (l.length : Int) := dtr h1
  apply aw_skip
  apply aw_seq
  apply aw_block
  apply aw_seq
  refine awr []
   ⟨19, [0], [(0, .ls 0), (1, .l (.v (.func (.func 117) #[] #[]))), (5, .i (i : Int)), (7, .i (l.length : Int)), (8, .i (i : Int))], [(0, some (.ro 2 l.length (Lst eG l)))]⟩
   [] trivial ?_
  apply aw_seq
  refine awr [(3, .idx i), (5, .act [] (.b (rgOut (ix l i))) [])]
   ⟨19, [0], [(0, .ls 0), (1, .l (.v (.func (.func 117) #[] #[]))), (5, .i (i : Int)), (7, .i (l.length : Int)), (8, .i (i : Int)), (16, .b (rgOut (ix l i)))], [(0, some (.ro 2 l.length (Lst eG l)))]⟩
   [(i : Int) = (i : Int), i < l.length, i < l.length, ActOK Try.prog (.call ⟨.value (.tmp 11), #[(.tmp 15)], #[23]⟩) 4 [.l (.v (.func (.func 117) #[] #[])), .agg [.i ((ix l i).low), .i ((ix l i).high)]] [] [] (.b (rgOut (ix l i))) []] (al2 (by omega) (al2 (by omega) (al2 (by omega) (al1 (act_callf (by kernel_rfl) (cfr (sprange1_fr (ix l i)) [] dem_nil)))))) ?_
  refine aw_cond (b := (rgOut (ix l i))) rfl (fun h2 => ?_) (fun h2 => ?_)
  ·
   apply aw_seq
   refine awr []
    ⟨19, [0], [(4, .i (i : Int))], []⟩
    [] trivial ?_
   exact aw_ret (ret_block (ret_then (ret_then (ret_block (ret_then ⟨.inr rfl, eok ⟨19, [0], [(4, .i (findI rgOut l))], []⟩
       (enr [] ⟨(slot_i rfl (by first | rfl | omega | assumption | (exact findI_at hp (by omega) (by assumption)) | (exact findI_no hp (by omega)))), trivial⟩ trivial) wr_nil⟩)))))
  ·
   apply aw_skip
   refine awr [(0, .num (((i + 1) : Nat) : Int))]
    ⟨19, [0], [(0, .ls 0), (1, .l (.v (.func (.func 117) #[] #[]))), (7, .i (l.length : Int)), (8, .i (((i + 1) : Nat) : Int))], [(0, some (.ro 2 l.length (Lst eG l)))]⟩
    [((i : Int) + 1) = (((i + 1) : Nat) : Int), -9223372036854775808 ≤ (((i + 1) : Nat) : Int) ∧ (((i + 1) : Nat) : Int) < 9223372036854775808] (al2 (by omega) (al1 (by omega))) ?_
   exact ⟨(i + 1), ⟨(by first | omega | rfl | assumption | (simp; done)), (by exact all_snoc hp h2)⟩, (show l.length - (i + 1) < l.length - i by first | omega | rfl | assumption),
       (enr [] ⟨rfl, rfl, rfl, rfl, trivial⟩ (cro rfl trivial))⟩
 ·
  have h1p : (l.length : Int) ≤ (i : Int) := dlt h1
  refine aw_exit (exit_then (exit_then (exit_in ?_)))
  apply aw_seq
  refine awr []
   ⟨19, [0], [(4, .i (-1))], []⟩
   [] trivial ?_
  exact aw_ret ⟨.inr rfl, eok ⟨19, [0], [(4, .i (findI rgOut l))], []⟩
      (enr [] ⟨(slot_i rfl (by first | rfl | omega | assumption | (exact findI_at hp (by omega) (by assumption)) | (exact findI_no hp (by omega)))), trivial⟩ trivial) wr_nil⟩
set_option maxRecDepth 100000 in
theorem spranges_any   (l : List Rg) (hl : l.length ≤ 1000000)  : CallFr Try.prog 116 [.ls 0, .l (.v (.func (.func 117) #[] #[]))] [0] [some (.ro 2 l.length (Lst eG l))] (.b (l.any rgOut)) [] := by
 refine callFr_of (fn := Try.f116) (by kernel_rfl) rfl (by kernel_rfl) (by kernel_rfl) fun E => ?_
 refine aw_ent (T := ⟨9, [0], [(0, .ls 0), (1, .l (.v (.func (.func 117) #[] #[])))], [(0, some (.ro 2 l.length (Lst eG l)))]⟩) (Ent.refl _) ?_
 apply aw_seq
 refine awr []
  ⟨9, [0], [(0, .ls 0), (1, .l (.v (.func (.func 117) #[] #[])))], [(0, some (.ro 2 l.length (Lst eG l)))]⟩
  [] trivial ?_
 apply aw_seq
 refine awr [(2, .call [0] (.i (findI rgOut l)) [])]
  ⟨9, [0], [(4, .b (decide (0 ≤ (findI rgOut l))))], []⟩
  [CallOK Try.prog 119 [.ls 0, .l (.v (.func (.func 117) #[] #[]))] [0] [some (.ro 2 l.length (Lst eG l))] (.i (findI rgOut l)) []] (al1 (cfr (spranges_ix   l hl ) [(0, 0)] (dem_cons rfl (le_ro rfl el_rfl) dem_nil))) ?_
 exact aw_ret ⟨.inr rfl, eok ⟨9, [0], [(4, .b (l.any rgOut))], []⟩
     (enr [] ⟨(slot_b (a := decide (0 ≤ (findI rgOut l))) rfl (by first | rfl | omega | assumption | (exact findI_any))), trivial⟩ trivial) wr_nil⟩
set_option maxRecDepth 100000 in
theorem spisRange_fr (l : List Rg) (hl : l.length ≤ 1000000) : CallFr Try.prog 115 [.ls 0] [0] [some (.ro 2 l.length (Lst eG l))] (.b (rgsB l)) [] := by
 refine callFr_of (fn := Try.f115) (by kernel_rfl) rfl (by kernel_rfl) (by kernel_rfl) fun E => ?_
 refine aw_ent (T := ⟨6, [0], [(0, .ls 0)], [(0, some (.ro 2 l.length (Lst eG l)))]⟩) (Ent.refl _) ?_
 apply aw_seq
 refine awr []
  ⟨6, [0], [(0, .ls 0)], [(0, some (.ro 2 l.length (Lst eG l)))]⟩
  [] trivial ?_
 apply aw_seq
 refine awr [(1, .call [0] (.b (l.any rgOut)) [])]
  ⟨6, [0], [(2, .b (!(l.any rgOut)))], []⟩
  [CallOK Try.prog 116 [.ls 0, .l (.v (.func (.func 117) #[] #[]))] [0] [some (.ro 2 l.length (Lst eG l))] (.b (l.any rgOut)) []] (al1 (cfr (spranges_any   l (by first | omega | (simp; done) | decide | (rw [List.length_take]; omega)) ) [(0, 0)] (dem_cons rfl (le_ro rfl el_rfl) dem_nil))) ?_
 exact aw_ret ⟨.inr rfl, eok ⟨6, [0], [(2, .b (rgsB l))], []⟩
     (enr [] ⟨(slot_b (a := (!(l.any rgOut))) rfl (by first | rfl | omega | assumption | (rfl))), trivial⟩ trivial) wr_nil⟩
set_option maxRecDepth 100000 in
theorem CheckSet_ok (s : List Rg) (hs : SetOk s) : CallFr Try.prog 113 [.ls 0] [0] [some (.ro 2 s.length (Lst eG s))] (.i 0) [] := by
 have hl := hs.len
 refine callFr_of (fn := Try.f113) (by kernel_rfl) rfl (by kernel_rfl) (by kernel_rfl) fun E => ?_
 refine aw_ent (T := ⟨31, [0], [(0, .ls 0)], [(0, some (.ro 2 s.length (Lst eG s)))]⟩) (Ent.refl _) ?_
 apply aw_seq
 refine awr []
  ⟨31, [0], [(0, .ls 0)], [(0, some (.ro 2 s.length (Lst eG s)))]⟩
  [] trivial ?_
 apply aw_seq
 apply aw_block
 apply aw_seq
 refine awr []
  ⟨31, [0], [(0, .ls 0), (4, .b (decide (200 < (s.length : Int))))], [(0, some (.ro 2 s.length (Lst eG s)))]⟩
  [] trivial ?_
 have h1 : (decide (200 < (s.length : Int))) = false := by simp; omega
 refine aw_cond (b := decide (200 < (s.length : Int))) rfl (fun h => Bool.noConfusion (h1.symm.trans h)) (fun _ => ?_)
 apply aw_seq
 refine awr [(1, .call [0] (.b (rgsB s)) [])]
  ⟨31, [0], [(0, .ls 0), (8, .b (!(rgsB s)))], [(0, some (.ro 2 s.length (Lst eG s)))]⟩
  [CallOK Try.prog 115 [.ls 0] [0] [some (.ro 2 s.length (Lst eG s))] (.b (rgsB s)) []] (al1 (cfr (spisRange_fr s (by first | omega | (simp; done) | decide)) [(0, 0)] (dem_cons rfl (le_ro rfl el_rfl) dem_nil))) ?_
 have h2 : ((!(rgsB s))) = false := by rw [rgs_ok hs]; rfl
 refine aw_cond (b := (!(rgsB s))) rfl (fun h => Bool.noConfusion (h2.symm.trans h)) (fun _ => ?_)
 apply aw_skip
 apply aw_seq
 apply aw_seq
 refine awr []
  ⟨31, [0], [(0, .ls 0), (3, .i 1)], [(0, some (.ro 2 s.length (Lst eG s)))]⟩
  [] trivial ?_
 apply aw_block
 refine aw_loop (ι := Nat) (fun zz => ⟨31, [0], [(0, .ls 0), (3, .i (zz : Int))], [(0, some (.ro 2 s.length (Lst eG s)))]⟩) (fun zz => (1 ≤ zz)) (fun zz => s.length + 1 - zz) 1 (by first | omega | rfl | assumption | (simp; done))
     (enr [] ⟨rfl, rfl, trivial⟩ (cro rfl trivial)) fun zz hp => ?_
 obtain ⟨i, rfl⟩ : ∃ x, x = zz := ⟨_, rfl⟩
 have hi1 := hp
 show AW _ E _ _ ⟨31, [0], [(0, .ls 0), (3, .i (i : Int))], [(0, some (.ro 2 s.length (Lst eG s)))]⟩
 apply aw_seq
 apply aw_seq
 refine awr []
  ⟨31, [0], [(0, .ls 0), (3, .i (i : Int)), (15, .b (decide ((i : Int) < (s.length : Int))))], [(0, some (.ro 2 s.length (Lst eG s)))]⟩
  [] trivial ?_
 refine aw_cond (b := decide ((i : Int) < (s.length : Int))) rfl (fun h3 => ?_) (fun h3 => ?_)
 ·
  have h3p : (i : Int) < (s.length : Int) := dtr h3
  apply aw_skip
  apply aw_seq
  apply aw_block
  apply aw_seq
  have q := (hs.ok _ (ix_mem (l := s) (i := ((i : Int) - 1).toNat) (by omega))).1
  unfold bdR at q
  refine awd [(2, .idx i), (8, .idx (((i : Int) - 1).toNat))]
   ⟨31, [0], [(0, .ls 0), (3, .i (i : Int)), (30, .b (decide ((ix s i).low ≤ ((ix s (((i : Int) - 1).toNat)).high + 1))))], [(0, some (.ro 2 s.length (Lst eG s)))]⟩
   [(i : Int) = (i : Int), i < s.length, i < s.length, i < s.length, -9223372036854775808 ≤ ((i : Int) - 1) ∧ ((i : Int) - 1) < 9223372036854775808, ((i : Int) - 1) = ((((i : Int) - 1).toNat : Nat) : Int), ((i : Int) - 1).toNat < s.length, ((i : Int) - 1).toNat < s.length, ((i : Int) - 1).toNat < s.length, -9223372036854775808 ≤ ((ix s (((i : Int) - 1).toNat)).high + 1) ∧ ((ix s (((i : Int) - 1).toNat)).high + 1) < 9223372036854775808] (al2 (by omega) (al2 (by omega) (al2 (by omega) (al2 (by omega) (al2 (by omega) (al2 (by omega) (al2 (by omega) (al2 (by omega) (al2 (by omega) (al1 (by omega))))))))))) ?_
  have h4 : (decide ((ix s i).low ≤ ((ix s (((i : Int) - 1).toNat)).high + 1))) = false := by have q2 := hs.sep i (by omega) (by omega); rw [ix_sub (by omega)]; simp; omega
  refine aw_cond (b := decide ((ix s i).low ≤ ((ix s (((i : Int) - 1).toNat)).high + 1))) rfl (fun h => Bool.noConfusion (h4.symm.trans h)) (fun _ => ?_)
  apply aw_skip
  refine awr [(1, .num (((i + 1) : Nat) : Int))]
   ⟨31, [0], [(0, .ls 0), (3, .i (((i + 1) : Nat) : Int))], [(0, some (.ro 2 s.length (Lst eG s)))]⟩
   [((i : Int) + 1) = (((i + 1) : Nat) : Int), -9223372036854775808 ≤ (((i + 1) : Nat) : Int) ∧ (((i + 1) : Nat) : Int) < 9223372036854775808] (al2 (by omega) (al1 (by omega))) ?_
  exact ⟨(i + 1), (by first | omega | rfl | assumption | (simp; done)), (show s.length + 1 - (i + 1) < s.length + 1 - i by first | omega | rfl | assumption),
      (enr [] ⟨rfl, rfl, trivial⟩ (cro rfl trivial))⟩
 ·
  have h3p : (s.length : Int) ≤ (i : Int) := dlt h3
  refine aw_exit (exit_then (exit_then (exit_in ?_)))
  apply aw_seq
  refine awr []
   ⟨31, [0], [(2, .i 0)], []⟩
   [] trivial ?_
  exact aw_ret ⟨.inr rfl, eok ⟨31, [0], [(2, .i 0)], []⟩
      (enr [] ⟨rfl, trivial⟩ trivial) wr_nil⟩
def checked_okK1 (xss : List (List Rg)) (i : Nat) : Cn := .ro 2 ((ix xss i).length) (Lst eG (ix xss i))
def checked_okH2 (xss : List (List Rg)) (i : Nat) : List (Nat × Option Cn) := [(0, some (.ro 1 xss.length (LstL 2 eG xss))), (1011, some (checked_okK1 xss i))]
set_option maxRecDepth 100000 in
theorem checked_ok (xss : List (List Rg)) (hx : ∀ s, s ∈ xss → SetOk s) (hl : xss.length ≤ 1000000) : CallFr Try.prog 108 [.ls 0] [0] [some (.ro 1 xss.length (LstL 2 eG xss))] (.i 0) [] := by
 refine callFr_of (fn := Try.f108) (by kernel_rfl) rfl (by kernel_rfl) (by kernel_rfl) fun E => ?_
 refine aw_ent (T := ⟨18, [0], [(0, .ls 0)], [(0, some (.ro 1 xss.length (LstL 2 eG xss)))]⟩) (Ent.refl _) ?_
 apply aw_seq
 refine awr []
  ⟨18, [0], [(0, .ls 0)], [(0, some (.ro 1 xss.length (LstL 2 eG xss)))]⟩
  [] trivial ?_
 apply aw_seq
 apply aw_seq
 refine awr []
  ⟨18, [0], [(6, .ls 0), (7, .i (xss.length : Int)), (8, .i 0)], [(0, some (.ro 1 xss.length (LstL 2 eG xss)))]⟩
  [] trivial ?_
 apply aw_block
 refine aw_loop (ι := Nat) (fun zz => ⟨18, [0], [(6, .ls 0), (7, .i (xss.length : Int)), (8, .i (zz : Int))], [(0, some (.ro 1 xss.length (LstL 2 eG xss)))]⟩) (fun zz => (zz ≤ xss.length)) (fun zz => xss.length - zz) 0 (by first | omega | rfl | assumption | (simp; done))
     (enr [] ⟨rfl, rfl, rfl, trivial⟩ (cro rfl trivial)) fun zz hp => ?_
 obtain ⟨i, rfl⟩ : ∃ x, x = zz := ⟨_, rfl⟩
 have hiL := hp
 show AW _ E _ _ ⟨18, [0], [(6, .ls 0), (7, .i (xss.length : Int)), (8, .i (i : Int))], [(0, some (.ro 1 xss.length (LstL 2 eG xss)))]⟩
 apply aw_seq
 refine awr []
  ⟨18, [0], [(6, .ls 0), (7, .i (xss.length : Int)), (8, .i (i : Int)), (9, .b (decide ((i : Int) < (xss.length : Int))))], [(0, some (.ro 1 xss.length (LstL 2 eG xss)))]⟩
  [] trivial ?_
 apply aw_seq
 refine aw_cond (b := decide ((i : Int) < (xss.length : Int))) rfl (fun h1 => ?_) (fun h1 => ?_)
 ·
  have h1p : (i : Int) < (xss.length : Int) := dtr h1
  apply aw_skip
  apply aw_seq
  apply aw_block
  apply aw_seq
  refine awr [(0, .idx i), (1, .many [1011])]
   ⟨18, [0], [(4, .ls 1011), (6, .ls 0), (7, .i (xss.length : Int)), (8, .i (i : Int))], (checked_okH2 xss i)⟩
   [(i : Int) = (i : Int), i < xss.length, i < xss.length] (al2 (by omega) (al2 (by omega) (al1 (by omega)))) ?_
  apply aw_seq
  refine awr [(1, .call [1011] (.i 0) [])]
   ⟨18, [0], [(5, .i 0), (6, .ls 0), (7, .i (xss.length : Int)), (8, .i (i : Int))], [(0, some (.ro 1 xss.length (LstL 2 eG xss)))]⟩
   [CallOK Try.prog 113 [.ls 1011] [1011] [some (checked_okK1 xss i)] (.i 0) []] (al1 (cfr (CheckSet_ok (ix xss i) (by first | assumption | exact hx _ (ix_mem (by omega)))) [(0, 1011)] (dem_cons rfl (le_ro rfl el_rfl) dem_nil))) ?_
  apply aw_seq
  refine awr []
   ⟨18, [0], [(5, .i 0), (6, .ls 0), (7, .i (xss.length : Int)), (8, .i (i : Int)), (15, .b (decide ((0 : Int) ≠ (0 : Int))))], [(0, some (.ro 1 xss.length (LstL 2 eG xss)))]⟩
   [] trivial ?_
  have h2 : (decide ((0 : Int) ≠ (0 : Int))) = false := by decide
  refine aw_cond (b := decide ((0 : Int) ≠ (0 : Int))) rfl (fun h => Bool.noConfusion (h2.symm.trans h)) (fun _ => ?_)
  apply aw_skip
  refine awr [(0, .num (((i + 1) : Nat) : Int))]
   ⟨18, [0], [(6, .ls 0), (7, .i (xss.length : Int)), (8, .i (((i + 1) : Nat) : Int))], [(0, some (.ro 1 xss.length (LstL 2 eG xss)))]⟩
   [((i : Int) + 1) = (((i + 1) : Nat) : Int), -9223372036854775808 ≤ (((i + 1) : Nat) : Int) ∧ (((i + 1) : Nat) : Int) < 9223372036854775808] (al2 (by omega) (al1 (by omega))) ?_
  exact ⟨(i + 1), (by first | omega | rfl | assumption | (simp; done)), (show xss.length - (i + 1) < xss.length - i by first | omega | rfl | assumption),
      (enr [] ⟨rfl, rfl, rfl, trivial⟩ (cro rfl trivial))⟩
 ·
  have h1p : (xss.length : Int) ≤ (i : Int) := dlt h1
  refine aw_exit (exit_then (exit_then (exit_in ?_)))
  apply aw_seq
  refine awr []
   ⟨18, [0], [(2, .i 0)], []⟩
   [] trivial ?_
  exact aw_ret ⟨.inr rfl, eok ⟨18, [0], [(2, .i 0)], []⟩
      (enr [] ⟨rfl, trivial⟩ trivial) wr_nil⟩
set_option maxRecDepth 100000 in
theorem full_ok (s : List Rg) (hs : s.length ≤ 200) : CallFr Try.prog 110 [.ls 0] [0] [some (.ro 2 s.length (Lst eG s))] (.tup [.one (.ls 0), .one (.i 0)]) [] := by
 refine callFr_of (fn := Try.f110) (by kernel_rfl) rfl (by kernel_rfl) (by kernel_rfl) fun E => ?_
 refine aw_ent (T := ⟨8, [0], [(0, .ls 0)], [(0, some (.ro 2 s.length (Lst eG s)))]⟩) (Ent.refl _) ?_
 apply aw_seq
 refine awr []
  ⟨8, [0], [(0, .ls 0)], [(0, some (.ro 2 s.length (Lst eG s)))]⟩
  [] trivial ?_
 apply aw_seq
 apply aw_seq
 refine awr []
  ⟨8, [0], [(0, .ls 0), (6, .b (decide (200 < (s.length : Int))))], [(0, some (.ro 2 s.length (Lst eG s)))]⟩
  [] trivial ?_
 have h1 : (decide (200 < (s.length : Int))) = false := by simp; omega
 refine aw_cond (b := decide (200 < (s.length : Int))) rfl (fun h => Bool.noConfusion (h1.symm.trans h)) (fun _ => ?_)
 apply aw_skip
 apply aw_seq
 refine awr []
  ⟨8, [0], [(2, .ls 0), (3, .i 0)], [(0, some (.ro 2 s.length (Lst eG s)))]⟩
  [] trivial ?_
 exact aw_ret ⟨.inr rfl, eok ⟨8, [0], [(2, .ls 0), (3, .i 0)], []⟩
     (enr [] ⟨rfl, rfl, trivial⟩ trivial) wr_nil⟩
def add_frH1 (o : List Rg) : List (Nat × Option Cn) := [(0, some (.blk 173 [.ls 1])), (1, some (.vec 23 2 o.length (Lst eG o)))]
def add_frH2 (o : List Rg) (r : Rg) : List (Nat × Option Cn) := [(0, some (.blk 173 [.ls 1])), (1, some (.vec 23 2 o.length (Lst eG o))), (1003, some (.blk 23 [.i r.low, .i r.high]))]
def add_frK3 (o : List Rg) (r : Rg) : Cn := .vec 23 2 o.length (Lst eG (o.set (((o.length : Int) - 1).toNat) (⟨(ix o (((o.length : Int) - 1).toNat)).low, (max ((ix o (((o.length : Int) - 1).toNat)).high) r.high)⟩ : Rg)))
def add_frK4 (o : List Rg) (r : Rg) : Cn := .vec 23 2 ((addR o r).length) (Lst eG (addR o r))
def add_frK5 (o : List Rg) (r : Rg) : Cn := .vec 23 2 (o.length + 1) (Lst eG (o ++ [(⟨r.low, r.high⟩ : Rg)]))
def add_frH6 (o : List Rg) (r : Rg) : List (Nat × Option Cn) := [(0, some (.blk 173 [.ls 1049])), (1049, some (add_frK5 o r))]
set_option maxRecDepth 100000 in
theorem add_fr (o : List Rg) (r : Rg) (ho : ∀ q, q ∈ o → bdR q) (hr : bdR r) (hl : o.length ≤ 1000000) : CallFr Try.prog 114 [.l (.ref 0 0), .agg [.i r.low, .i r.high]] [0, 1] [some (.blk 173 [.ls 1]), some (.vec 23 2 o.length (Lst eG o))] (.tup []) [(0, some (.blk 173 [.ls 2])), (1, none), (2, some (.vec 23 2 ((addR o r).length) (Lst eG (addR o r))))] := by
 unfold bdR at hr
 refine callFr_of (fn := Try.f114) (by kernel_rfl) rfl (by kernel_rfl) (by kernel_rfl) fun E => ?_
 refine aw_ent (T := ⟨51, [0, 1], [(0, .l (.ref 0 0)), (1, .agg [.i r.low, .i r.high])], (add_frH1 o)⟩) (Ent.refl _) ?_
 apply aw_seq
 refine awr [(0, .new 1003)]
  ⟨51, [0, 1], [(0, .l (.ref 0 0)), (3, .l (.ref 1003 0))], (add_frH2 o r)⟩
  [] trivial ?_
 apply aw_seq
 apply aw_seq
 refine awr []
  ⟨51, [0, 1], [(0, .l (.ref 0 0)), (3, .l (.ref 1003 0)), (4, .i (o.length : Int))], (add_frH2 o r)⟩
  [] trivial ?_
 apply aw_seq
 have q : 0 < o.length → bdR (ix o ((o.length : Int) - 1).toNat) := fun h => ho _ (ix_mem (by omega))
 unfold bdR at q
 rcases Bool.eq_false_or_eq_true (decide (0 < (o.length : Int))) with h1 | h1
 ·
  have h1p : 0 < (o.length : Int) := dtr h1
  refine awd [(2, .dec true), (10, .idx (((o.length : Int) - 1).toNat))]
   ⟨51, [0, 1], [(0, .l (.ref 0 0)), (3, .l (.ref 1003 0)), (4, .i (o.length : Int)), (24, .b (decide (r.low ≤ ((ix o (((o.length : Int) - 1).toNat)).high + 1))))], (add_frH2 o r)⟩
   [decide (0 < (o.length : Int)) = true, -9223372036854775808 ≤ ((o.length : Int) - 1) ∧ ((o.length : Int) - 1) < 9223372036854775808, ((o.length : Int) - 1) = ((((o.length : Int) - 1).toNat : Nat) : Int), ((o.length : Int) - 1).toNat < o.length, ((o.length : Int) - 1).toNat < o.length, ((o.length : Int) - 1).toNat < o.length, -9223372036854775808 ≤ ((ix o (((o.length : Int) - 1).toNat)).high + 1) ∧ ((ix o (((o.length : Int) - 1).toNat)).high + 1) < 9223372036854775808] (al2 h1 (al2 (by omega) (al2 (by omega) (al2 (by omega) (al2 (by omega) (al2 (by omega) (al1 (by omega)))))))) ?_
  refine aw_cond (b := decide (r.low ≤ ((ix o (((o.length : Int) - 1).toNat)).high + 1))) rfl (fun h2 => ?_) (fun h2 => ?_)
  ·
   have h2p : r.low ≤ ((ix o (((o.length : Int) - 1).toNat)).high + 1) := dtr h2
   apply aw_seq
   refine awd [(10, .idx (((o.length : Int) - 1).toNat)), (16, .idx (((o.length : Int) - 1).toNat)), (18, .lst 0 0 (Lst eG (o.set (((o.length : Int) - 1).toNat) (⟨(ix o (((o.length : Int) - 1).toNat)).low, (max ((ix o (((o.length : Int) - 1).toNat)).high) r.high)⟩ : Rg))))]
    ⟨51, [0, 1], [], [(0, some (.blk 173 [.ls 1])), (1, some (add_frK3 o r))]⟩
    [-9223372036854775808 ≤ ((o.length : Int) - 1) ∧ ((o.length : Int) - 1) < 9223372036854775808, -9223372036854775808 ≤ ((o.length : Int) - 1) ∧ ((o.length : Int) - 1) < 9223372036854775808, ((o.length : Int) - 1) = ((((o.length : Int) - 1).toNat : Nat) : Int), ((o.length : Int) - 1).toNat < o.length, ((o.length : Int) - 1).toNat < o.length, ((o.length : Int) - 1).toNat < o.length, ((o.length : Int) - 1) = ((((o.length : Int) - 1).toNat : Nat) : Int), ((o.length : Int) - 1).toNat < o.length, ((o.length : Int) - 1).toNat < o.length, ((o.length : Int) - 1).toNat < o.length, StoreOk 2 o.length (Lst eG o) (((o.length : Int) - 1).toNat) 1 [.i (max ((ix o (((o.length : Int) - 1).toNat)).high) r.high)] (Lst eG (o.set (((o.length : Int) - 1).toNat) (⟨(ix o (((o.length : Int) - 1).toNat)).low, (max ((ix o (((o.length : Int) - 1).toNat)).high) r.high)⟩ : Rg)))] (al2 (by omega) (al2 (by omega) (al2 (by omega) (al2 (by omega) (al2 (by omega) (al2 (by omega) (al2 (by omega) (al2 (by omega) (al2 (by omega) (al2 (by omega) (al1 (store_at (by first | omega | rfl | assumption) (fun | 0, _ => rfl | 1, _ => rfl | (n + 2), h => absurd h (by omega)))))))))))))) ?_
   exact aw_ret (ret_then ⟨.inr rfl, eok ⟨51, [0, 1], [], [(0, some (.blk 173 [.ls 2])), (2, some (add_frK4 o r))]⟩
       (enr [(2, 1)] trivial (cbl rfl rfl (conts_cons rfl (le_vec (by first | rfl | omega | assumption | (unfold addR; rw [if_neg (by rintro ⟨_, h⟩; rw [← ix_sub (by omega)] at h; omega)]; first | done | (simp; done)) | (unfold addR; rw [if_pos ⟨by omega, by rw [← ix_sub (by omega)]; omega⟩, ix_sub (by omega)]; first | done | (simp; done)) | (unfold addR; rw [if_neg (by omega)]; first | done | (simp; done)) | (unfold addR; rw [if_pos ⟨by omega, by rw [← ix_sub (by omega)]; omega⟩]; first | done | (simp; done))) (lst_eq (by first | rfl | omega | assumption | (unfold addR; rw [if_neg (by rintro ⟨_, h⟩; rw [← ix_sub (by omega)] at h; omega)]; first | done | (simp; done)) | (unfold addR; rw [if_pos ⟨by omega, by rw [← ix_sub (by omega)]; omega⟩, ix_sub (by omega)]; first | done | (simp; done)) | (unfold addR; rw [if_neg (by omega)]; first | done | (simp; done)) | (unfold addR; rw [if_pos ⟨by omega, by rw [← ix_sub (by omega)]; omega⟩]; first | done | (simp; done))))) trivial))) (wr_cons rfl plain_blk (wr_none (wr_cons rfl (plain_Lst plain_eG) wr_nil)))⟩)
  ·
   have h2p : ((ix o (((o.length : Int) - 1).toNat)).high + 1) < r.low := dle h2
   apply aw_skip
   refine awd [(5, .new 1048), (6, .lst 1049 (o.length + 1) (Lst eG (o ++ [(⟨r.low, r.high⟩ : Rg)])))]
    ⟨51, [0, 1], [], (add_frH6 o r)⟩
    [o.length + 1 ≤ 1000000000000, (o.length + 1) * 16 ≤ 140737488355328, AppOk 2 o.length 1 (Lst eG o) (exEl 2 [.i r.low, .i r.high]) (o.length + 1) (Lst eG (o ++ [(⟨r.low, r.high⟩ : Rg)]))] (al2 (by omega) (al2 (by omega) (al1 (app_one (by first | omega | rfl | assumption) (by first | omega | rfl | assumption) (fun | 0, _ => rfl | 1, _ => rfl | (n + 2), h => absurd h (by omega)))))) ?_
   exact  ⟨.inl rfl, eok ⟨51, [0, 1], [], [(0, some (.blk 173 [.ls 2])), (2, some (add_frK4 o r))]⟩
       (enr [(2, 1049)] trivial (cbl rfl rfl (conts_cons rfl (le_vec (by first | rfl | omega | assumption | (unfold addR; rw [if_neg (by rintro ⟨_, h⟩; rw [← ix_sub (by omega)] at h; omega)]; first | done | (simp; done)) | (unfold addR; rw [if_pos ⟨by omega, by rw [← ix_sub (by omega)]; omega⟩, ix_sub (by omega)]; first | done | (simp; done)) | (unfold addR; rw [if_neg (by omega)]; first | done | (simp; done)) | (unfold addR; rw [if_pos ⟨by omega, by rw [← ix_sub (by omega)]; omega⟩]; first | done | (simp; done))) (lst_eq (by first | rfl | omega | assumption | (unfold addR; rw [if_neg (by rintro ⟨_, h⟩; rw [← ix_sub (by omega)] at h; omega)]; first | done | (simp; done)) | (unfold addR; rw [if_pos ⟨by omega, by rw [← ix_sub (by omega)]; omega⟩, ix_sub (by omega)]; first | done | (simp; done)) | (unfold addR; rw [if_neg (by omega)]; first | done | (simp; done)) | (unfold addR; rw [if_pos ⟨by omega, by rw [← ix_sub (by omega)]; omega⟩]; first | done | (simp; done))))) trivial))) (wr_cons rfl plain_blk (wr_none (wr_cons rfl (plain_Lst plain_eG) wr_nil)))⟩
 ·
  have h1p : (o.length : Int) ≤ 0 := dlt h1
  refine awd [(2, .dec false)]
   ⟨51, [0, 1], [(0, .l (.ref 0 0)), (3, .l (.ref 1003 0)), (4, .i (o.length : Int)), (24, .b false)], (add_frH2 o r)⟩
   [decide (0 < (o.length : Int)) = false] (al1 h1) ?_
  refine aw_false rfl ?_
  apply aw_skip
  refine awd [(5, .new 1048), (6, .lst 1049 (o.length + 1) (Lst eG (o ++ [(⟨r.low, r.high⟩ : Rg)])))]
   ⟨51, [0, 1], [], (add_frH6 o r)⟩
   [o.length + 1 ≤ 1000000000000, (o.length + 1) * 16 ≤ 140737488355328, AppOk 2 o.length 1 (Lst eG o) (exEl 2 [.i r.low, .i r.high]) (o.length + 1) (Lst eG (o ++ [(⟨r.low, r.high⟩ : Rg)]))] (al2 (by omega) (al2 (by omega) (al1 (app_one (by first | omega | rfl | assumption) (by first | omega | rfl | assumption) (fun | 0, _ => rfl | 1, _ => rfl | (n + 2), h => absurd h (by omega)))))) ?_
  exact  ⟨.inl rfl, eok ⟨51, [0, 1], [], [(0, some (.blk 173 [.ls 2])), (2, some (add_frK4 o r))]⟩
      (enr [(2, 1049)] trivial (cbl rfl rfl (conts_cons rfl (le_vec (by first | rfl | omega | assumption | (unfold addR; rw [if_neg (by rintro ⟨_, h⟩; rw [← ix_sub (by omega)] at h; omega)]; first | done | (simp; done)) | (unfold addR; rw [if_pos ⟨by omega, by rw [← ix_sub (by omega)]; omega⟩, ix_sub (by omega)]; first | done | (simp; done)) | (unfold addR; rw [if_neg (by omega)]; first | done | (simp; done)) | (unfold addR; rw [if_pos ⟨by omega, by rw [← ix_sub (by omega)]; omega⟩]; first | done | (simp; done))) (lst_eq (by first | rfl | omega | assumption | (unfold addR; rw [if_neg (by rintro ⟨_, h⟩; rw [← ix_sub (by omega)] at h; omega)]; first | done | (simp; done)) | (unfold addR; rw [if_pos ⟨by omega, by rw [← ix_sub (by omega)]; omega⟩, ix_sub (by omega)]; first | done | (simp; done)) | (unfold addR; rw [if_neg (by omega)]; first | done | (simp; done)) | (unfold addR; rw [if_pos ⟨by omega, by rw [← ix_sub (by omega)]; omega⟩]; first | done | (simp; done))))) trivial))) (wr_cons rfl plain_blk (wr_none (wr_cons rfl (plain_Lst plain_eG) wr_nil)))⟩
def common_frH1 (a : List Rg) (b : List Rg) : List (Nat × Option Cn) := [(0, some (.ro 2 a.length (Lst eG a))), (1, some (.ro 2 b.length (Lst eG b)))]
def common_frH2 (a : List Rg) (b : List Rg) : List (Nat × Option Cn) := [(0, some (.ro 2 a.length (Lst eG a))), (1, some (.ro 2 b.length (Lst eG b))), (1004, some (.blk 173 [.v (.slice none 0 0)]))]
def common_frH3 (a : List Rg) (b : List Rg) (o : List Rg) : List (Nat × Option Cn) := [(0, some (.ro 2 a.length (Lst eG a))), (1, some (.ro 2 b.length (Lst eG b))), (1004, some (.blk 173 [.ls 2001])), (2001, some (.vec 23 2 o.length (Lst eG o)))]
def common_frK4 (a : List Rg) (i : Nat) (b : List Rg) (k : Nat) : Cn := .blk 23 [.i (max ((ix a i).low) ((ix b k).low)), .i (min ((ix a i).high) ((ix b k).high))]
def common_frH5 (a : List Rg) (b : List Rg) (i : Nat) (k : Nat) (o : List Rg) : List (Nat × Option Cn) := [(0, some (.ro 2 a.length (Lst eG a))), (1, some (.ro 2 b.length (Lst eG b))), (1004, some (.blk 173 [.ls 2001])), (1007, some (common_frK4 a i b k)), (2001, some (.vec 23 2 o.length (Lst eG o)))]
def common_frK6 (o : List Rg) (a : List Rg) (i : Nat) (b : List Rg) (k : Nat) : Cn := .vec 23 2 ((addR o ⟨(max ((ix a i).low) ((ix b k).low)), (min ((ix a i).high) ((ix b k).high))⟩).length) (Lst eG (addR o ⟨(max ((ix a i).low) ((ix b k).low)), (min ((ix a i).high) ((ix b k).high))⟩))
def common_frA7 (a : List Rg) (i : Nat) (b : List Rg) (k : Nat) : SV := .agg [.i (max ((ix a i).low) ((ix b k).low)), .i (min ((ix a i).high) ((ix b k).high))]
def common_frH8 (a : List Rg) (b : List Rg) (o : List Rg) (i : Nat) (k : Nat) : List (Nat × Option Cn) := [(0, some (.ro 2 a.length (Lst eG a))), (1, some (.ro 2 b.length (Lst eG b))), (1004, some (.blk 173 [.ls 10470])), (10470, some (common_frK6 o a i b k))]
def common_frH9 (o : List Rg) : List (Nat × Option Cn) := [(1004, some (.blk 173 [.ls 2001])), (2001, some (.vec 23 2 o.length (Lst eG o)))]
def common_frK10 (a : List Rg) (b : List Rg) : Cn := .vec 23 2 ((commonV a b).length) (Lst eG (commonV a b))
def common_frH11 (a : List Rg) (b : List Rg) : List (Nat × Option Cn) := [(2, some (common_frK10 a b)), (8004, some (.blk 173 [.ls 2]))]
set_option maxRecDepth 100000 in
theorem common_fr (a b : List Rg) (ha : ∀ q, q ∈ a → bdR q) (hb : ∀ q, q ∈ b → bdR q) (hla : a.length ≤ 100000) (hlb : b.length ≤ 100000) : CallFr Try.prog 109 [.ls 0, .ls 1] [0, 1] [some (.ro 2 a.length (Lst eG a)), some (.ro 2 b.length (Lst eG b))] (.ls 2) [(2, some (.vec 23 2 ((commonV a b).length) (Lst eG (commonV a b))))] := by
 refine callFr_of (fn := Try.f109) (by kernel_rfl) rfl (by kernel_rfl) (by kernel_rfl) fun E => ?_
 refine aw_ent (T := ⟨64, [0, 1], [(0, .ls 0), (1, .ls 1)], (common_frH1 a b)⟩) (Ent.refl _) ?_
 apply aw_seq
 refine awr [(0, .new 1004)]
  ⟨64, [0, 1], [(0, .ls 0), (1, .ls 1), (4, .l (.ref 1004 0))], (common_frH2 a b)⟩
  [] trivial ?_
 apply aw_seq
 apply aw_seq
 refine awr []
  ⟨64, [0, 1], [(0, .ls 0), (1, .ls 1), (4, .l (.ref 1004 0)), (5, .i 0), (6, .i 0)], (common_frH2 a b)⟩
  [] trivial ?_
 apply aw_block
 refine aw_loop (ι := Nat × Nat × List Rg) (fun zz => ⟨64, [0, 1], [(0, .ls 0), (1, .ls 1), (4, .l (.ref 1004 0)), (5, .i (zz.1 : Int)), (6, .i (zz.2.1 : Int))], (common_frH3 a b zz.2.2)⟩) (fun zz => (zz.1 ≤ a.length) ∧ (zz.2.1 ≤ b.length) ∧ (zz.2.2.length ≤ zz.1 + zz.2.1) ∧ (∀ q, q ∈ zz.2.2 → bdR q) ∧ (commonL (a.length - zz.1 + (b.length - zz.2.1)) zz.2.2 (a.drop zz.1) (b.drop zz.2.1) = commonV a b)) (fun zz => a.length - zz.1 + (b.length - zz.2.1)) (0, 0, []) ⟨(by (try dsimp only); first | omega | rfl | assumption | (simp; done)), (by (try dsimp only); first | omega | rfl | assumption | (simp; done)), (by (try dsimp only); first | omega | rfl | assumption | (simp; done)), (by (try dsimp only); intro q hq; cases hq), (by (try dsimp only); rfl)⟩
     (Ent.trans (Ent.nilCell 1004 70001 23 2 173 [.v (.slice none 0 0)] 0 (Lst eG ([])) rfl rfl (by omega) (by kernel_rfl) (by kernel_rfl)) (enr [(2001, 70001)] ⟨rfl, rfl, rfl, rfl, rfl, trivial⟩ (cro rfl (cro rfl (cbl rfl rfl (conts_cons rfl (le_vec (by first | rfl | omega | assumption | (rw [hz])) el_rfl) trivial)))))) fun zz hp => ?_
 obtain ⟨i, k, o⟩ := zz
 obtain ⟨hiL, hkL, hoL, hob, hq⟩ := hp
 dsimp only at hiL hkL hoL hob hq
 show AW _ E _ _ ⟨64, [0, 1], [(0, .ls 0), (1, .ls 1), (4, .l (.ref 1004 0)), (5, .i (i : Int)), (6, .i (k : Int))], (common_frH3 a b o)⟩
 apply aw_seq
 apply aw_seq
 rcases Bool.eq_false_or_eq_true (decide ((i : Int) < (a.length : Int))) with h1 | h1
 ·
  have h1p : (i : Int) < (a.length : Int) := dtr h1
  refine awr [(4, .dec true)]
   ⟨64, [0, 1], [(0, .ls 0), (1, .ls 1), (4, .l (.ref 1004 0)), (5, .i (i : Int)), (6, .i (k : Int)), (17, .b (decide ((k : Int) < (b.length : Int))))], (common_frH3 a b o)⟩
   [decide ((i : Int) < (a.length : Int)) = true] (al1 h1) ?_
  refine aw_cond (b := decide ((k : Int) < (b.length : Int))) rfl (fun h2 => ?_) (fun h2 => ?_)
  ·
   have h2p : (k : Int) < (b.length : Int) := dtr h2
   apply aw_skip
   apply aw_block
   apply aw_seq
   have qa := ha _ (ix_mem (l := a) (i := i) (by omega))
   have qb := hb _ (ix_mem (l := b) (i := k) (by omega))
   have hrb : bdR ⟨max (ix a i).low (ix b k).low, min (ix a i).high (ix b k).high⟩ := by
    unfold bdR at *
    simp only
    omega
   refine awd [(2, .idx i), (7, .idx k), (13, .idx i), (18, .idx k), (23, .new 1007)]
    ⟨64, [0, 1], [(0, .ls 0), (1, .ls 1), (4, .l (.ref 1004 0)), (5, .i (i : Int)), (6, .i (k : Int)), (7, .l (.ref 1007 0))], (common_frH5 a b i k o)⟩
    [(i : Int) = (i : Int), i < a.length, i < a.length, i < a.length, (k : Int) = (k : Int), k < b.length, k < b.length, k < b.length, (i : Int) = (i : Int), i < a.length, i < a.length, i < a.length, (k : Int) = (k : Int), k < b.length, k < b.length, k < b.length] (al2 (by omega) (al2 (by omega) (al2 (by omega) (al2 (by omega) (al2 (by omega) (al2 (by omega) (al2 (by omega) (al2 (by omega) (al2 (by omega) (al2 (by omega) (al2 (by omega) (al2 (by omega) (al2 (by omega) (al2 (by omega) (al2 (by omega) (al1 (by omega))))))))))))))))) ?_
   apply aw_seq
   apply aw_seq
   refine awr []
    ⟨64, [0, 1], [(0, .ls 0), (1, .ls 1), (4, .l (.ref 1004 0)), (5, .i (i : Int)), (6, .i (k : Int)), (7, .l (.ref 1007 0)), (45, .b (decide ((max ((ix a i).low) ((ix b k).low)) ≤ (min ((ix a i).high) ((ix b k).high)))))], (common_frH5 a b i k o)⟩
    [] trivial ?_
   refine aw_cond (b := decide ((max ((ix a i).low) ((ix b k).low)) ≤ (min ((ix a i).high) ((ix b k).high)))) rfl (fun h3 => ?_) (fun h3 => ?_)
   ·
    have h3p : (max ((ix a i).low) ((ix b k).low)) ≤ (min ((ix a i).high) ((ix b k).high)) := dtr h3
    refine awr [(1, .call [1004, 2001] (.tup []) [(1004, some (.blk 173 [.ls 10470])), (2001, none), (10470, some (common_frK6 o a i b k))])]
     ⟨64, [0, 1], [(0, .ls 0), (1, .ls 1), (4, .l (.ref 1004 0)), (5, .i (i : Int)), (6, .i (k : Int))], (common_frH8 a b o i k)⟩
     [CallOK Try.prog 114 [.l (.ref 1004 0), (common_frA7 a i b k)] [1004, 2001] [some (.blk 173 [.ls 2001]), some (.vec 23 2 o.length (Lst eG o))] (.tup []) [(1004, some (.blk 173 [.ls 10470])), (2001, none), (10470, some (common_frK6 o a i b k))]] (al1 (cfr (add_fr o ⟨(max ((ix a i).low) ((ix b k).low)), (min ((ix a i).high) ((ix b k).high))⟩ (by assumption) (by first | assumption | (unfold bdR at *; simp only; omega)) (by omega)) [(0, 1004), (1, 2001), (2, 10470)] (dem_cons rfl (le_blk rfl) (dem_cons rfl (le_vec rfl el_rfl) dem_nil)))) ?_
    apply aw_seq
    refine awd [(2, .idx i), (7, .idx k)]
     ⟨64, [0, 1], [(0, .ls 0), (1, .ls 1), (4, .l (.ref 1004 0)), (5, .i (i : Int)), (6, .i (k : Int)), (58, .b (decide ((ix a i).high < (ix b k).high)))], (common_frH8 a b o i k)⟩
     [(i : Int) = (i : Int), i < a.length, i < a.length, i < a.length, (k : Int) = (k : Int), k < b.length, k < b.length, k < b.length] (al2 (by omega) (al2 (by omega) (al2 (by omega) (al2 (by omega) (al2 (by omega) (al2 (by omega) (al2 (by omega) (al1 (by omega))))))))) ?_
    refine aw_cond (b := decide ((ix a i).high < (ix b k).high)) rfl (fun h4 => ?_) (fun h4 => ?_)
    ·
     have h4p : (ix a i).high < (ix b k).high := dtr h4
     refine awr [(1, .num (((i + 1) : Nat) : Int))]
      ⟨64, [0, 1], [(0, .ls 0), (1, .ls 1), (4, .l (.ref 1004 0)), (5, .i (((i + 1) : Nat) : Int)), (6, .i (k : Int))], (common_frH8 a b o i k)⟩
      [((i : Int) + 1) = (((i + 1) : Nat) : Int), -9223372036854775808 ≤ (((i + 1) : Nat) : Int) ∧ (((i + 1) : Nat) : Int) < 9223372036854775808] (al2 (by omega) (al1 (by omega))) ?_
     exact ⟨((i + 1), k, (addR o ⟨(max ((ix a i).low) ((ix b k).low)), (min ((ix a i).high) ((ix b k).high))⟩)), ⟨(by (try dsimp only); first | omega | rfl | assumption | (simp; done)), (by (try dsimp only); first | omega | rfl | assumption | (simp; done)), (by (try dsimp only); first | omega | (refine Nat.le_trans addR_len ?_; omega)), (by (try dsimp only); first | assumption | exact addR_bd hob hrb), (by (try dsimp only); rw [← hq, common_next (i := i) (k := k) (o := o) (by omega) (by omega)]; (first | rw [if_pos (by assumption)] | rw [if_neg (by omega)]); simp only [addIf]; (first | rw [if_pos (by assumption)] | rw [if_neg (by omega)]))⟩, (show a.length - (i + 1) + (b.length - k) < a.length - i + (b.length - k) by first | omega | rfl | assumption),
         (enr [(2001, 10470)] ⟨rfl, rfl, rfl, rfl, rfl, trivial⟩ (cro rfl (cro rfl (cbl rfl rfl (cve rfl trivial)))))⟩
    ·
     have h4p : (ix b k).high ≤ (ix a i).high := dlt h4
     refine awr [(1, .num (((k + 1) : Nat) : Int))]
      ⟨64, [0, 1], [(0, .ls 0), (1, .ls 1), (4, .l (.ref 1004 0)), (5, .i (i : Int)), (6, .i (((k + 1) : Nat) : Int))], (common_frH8 a b o i k)⟩
      [((k : Int) + 1) = (((k + 1) : Nat) : Int), -9223372036854775808 ≤ (((k + 1) : Nat) : Int) ∧ (((k + 1) : Nat) : Int) < 9223372036854775808] (al2 (by omega) (al1 (by omega))) ?_
     exact ⟨(i, (k + 1), (addR o ⟨(max ((ix a i).low) ((ix b k).low)), (min ((ix a i).high) ((ix b k).high))⟩)), ⟨(by (try dsimp only); first | omega | rfl | assumption | (simp; done)), (by (try dsimp only); first | omega | rfl | assumption | (simp; done)), (by (try dsimp only); first | omega | (refine Nat.le_trans addR_len ?_; omega)), (by (try dsimp only); first | assumption | exact addR_bd hob hrb), (by (try dsimp only); rw [← hq, common_next (i := i) (k := k) (o := o) (by omega) (by omega)]; (first | rw [if_pos (by assumption)] | rw [if_neg (by omega)]); simp only [addIf]; (first | rw [if_pos (by assumption)] | rw [if_neg (by omega)]))⟩, (show a.length - i + (b.length - (k + 1)) < a.length - i + (b.length - k) by first | omega | rfl | assumption),
         (enr [(2001, 10470)] ⟨rfl, rfl, rfl, rfl, rfl, trivial⟩ (cro rfl (cro rfl (cbl rfl rfl (cve rfl trivial)))))⟩
   ·
    have h3p : (min ((ix a i).high) ((ix b k).high)) < (max ((ix a i).low) ((ix b k).low)) := dle h3
    apply aw_skip
    apply aw_seq
    refine awd [(2, .idx i), (7, .idx k)]
     ⟨64, [0, 1], [(0, .ls 0), (1, .ls 1), (4, .l (.ref 1004 0)), (5, .i (i : Int)), (6, .i (k : Int)), (58, .b (decide ((ix a i).high < (ix b k).high)))], (common_frH3 a b o)⟩
     [(i : Int) = (i : Int), i < a.length, i < a.length, i < a.length, (k : Int) = (k : Int), k < b.length, k < b.length, k < b.length] (al2 (by omega) (al2 (by omega) (al2 (by omega) (al2 (by omega) (al2 (by omega) (al2 (by omega) (al2 (by omega) (al1 (by omega))))))))) ?_
    refine aw_cond (b := decide ((ix a i).high < (ix b k).high)) rfl (fun h5 => ?_) (fun h5 => ?_)
    ·
     have h5p : (ix a i).high < (ix b k).high := dtr h5
     refine awr [(1, .num (((i + 1) : Nat) : Int))]
      ⟨64, [0, 1], [(0, .ls 0), (1, .ls 1), (4, .l (.ref 1004 0)), (5, .i (((i + 1) : Nat) : Int)), (6, .i (k : Int))], (common_frH3 a b o)⟩
      [((i : Int) + 1) = (((i + 1) : Nat) : Int), -9223372036854775808 ≤ (((i + 1) : Nat) : Int) ∧ (((i + 1) : Nat) : Int) < 9223372036854775808] (al2 (by omega) (al1 (by omega))) ?_
     exact ⟨((i + 1), k, o), ⟨(by (try dsimp only); first | omega | rfl | assumption | (simp; done)), (by (try dsimp only); first | omega | rfl | assumption | (simp; done)), (by (try dsimp only); first | omega | (refine Nat.le_trans addR_len ?_; omega)), (by (try dsimp only); first | assumption | exact addR_bd hob hrb), (by (try dsimp only); rw [← hq, common_next (i := i) (k := k) (o := o) (by omega) (by omega)]; (first | rw [if_pos (by assumption)] | rw [if_neg (by omega)]); simp only [addIf]; (first | rw [if_pos (by assumption)] | rw [if_neg (by omega)]))⟩, (show a.length - (i + 1) + (b.length - k) < a.length - i + (b.length - k) by first | omega | rfl | assumption),
         (enr [] ⟨rfl, rfl, rfl, rfl, rfl, trivial⟩ (cro rfl (cro rfl (cbl rfl rfl (cve rfl trivial)))))⟩
    ·
     have h5p : (ix b k).high ≤ (ix a i).high := dlt h5
     refine awr [(1, .num (((k + 1) : Nat) : Int))]
      ⟨64, [0, 1], [(0, .ls 0), (1, .ls 1), (4, .l (.ref 1004 0)), (5, .i (i : Int)), (6, .i (((k + 1) : Nat) : Int))], (common_frH3 a b o)⟩
      [((k : Int) + 1) = (((k + 1) : Nat) : Int), -9223372036854775808 ≤ (((k + 1) : Nat) : Int) ∧ (((k + 1) : Nat) : Int) < 9223372036854775808] (al2 (by omega) (al1 (by omega))) ?_
     exact ⟨(i, (k + 1), o), ⟨(by (try dsimp only); first | omega | rfl | assumption | (simp; done)), (by (try dsimp only); first | omega | rfl | assumption | (simp; done)), (by (try dsimp only); first | omega | (refine Nat.le_trans addR_len ?_; omega)), (by (try dsimp only); first | assumption | exact addR_bd hob hrb), (by (try dsimp only); rw [← hq, common_next (i := i) (k := k) (o := o) (by omega) (by omega)]; (first | rw [if_pos (by assumption)] | rw [if_neg (by omega)]); simp only [addIf]; (first | rw [if_pos (by assumption)] | rw [if_neg (by omega)]))⟩, (show a.length - i + (b.length - (k + 1)) < a.length - i + (b.length - k) by first | omega | rfl | assumption),
         (enr [] ⟨rfl, rfl, rfl, rfl, rfl, trivial⟩ (cro rfl (cro rfl (cbl rfl rfl (cve rfl trivial)))))⟩
  ·
   have h2p : (b.length : Int) ≤ (k : Int) := dlt h2
   refine aw_exit (exit_then (exit_then (exit_in ?_)))
   apply aw_seq
   have hz : o = commonV a b := by
    rw [common_stop (by first | exact .inl (List.drop_eq_nil_of_le (by omega)) | exact .inr (List.drop_eq_nil_of_le (by omega)))] at hq
    exact hq
   refine awr []
    ⟨64, [0, 1], [(4, .l (.ref 1004 0))], (common_frH9 o)⟩
    [] trivial ?_
   exact aw_ret ⟨.inr rfl, eok ⟨64, [0, 1], [(4, .l (.ref 8004 0))], (common_frH11 a b)⟩
       (enr [(8004, 1004), (2, 2001)] ⟨rfl, trivial⟩ (conts_cons rfl (le_vec (by first | rfl | omega | assumption | (rw [hz])) (lst_eq (by first | rfl | omega | assumption | (rw [hz])))) (cbl rfl rfl trivial))) (wr_cons rfl (plain_Lst plain_eG) wr_nil)⟩
 ·
  have h1p : (a.length : Int) ≤ (i : Int) := dlt h1
  refine awr [(4, .dec false)]
   ⟨64, [0, 1], [(0, .ls 0), (1, .ls 1), (4, .l (.ref 1004 0)), (5, .i (i : Int)), (6, .i (k : Int)), (17, .b false)], (common_frH3 a b o)⟩
   [decide ((i : Int) < (a.length : Int)) = false] (al1 h1) ?_
  refine aw_false rfl ?_
  refine aw_exit (exit_then (exit_then (exit_in ?_)))
  apply aw_seq
  have hz : o = commonV a b := by
   rw [common_stop (by first | exact .inl (List.drop_eq_nil_of_le (by omega)) | exact .inr (List.drop_eq_nil_of_le (by omega)))] at hq
   exact hq
  refine awr []
   ⟨64, [0, 1], [(4, .l (.ref 1004 0))], (common_frH9 o)⟩
   [] trivial ?_
  exact aw_ret ⟨.inr rfl, eok ⟨64, [0, 1], [(4, .l (.ref 8004 0))], (common_frH11 a b)⟩
      (enr [(8004, 1004), (2, 2001)] ⟨rfl, trivial⟩ (conts_cons rfl (le_vec (by first | rfl | omega | assumption | (rw [hz])) (lst_eq (by first | rfl | omega | assumption | (rw [hz])))) (cbl rfl rfl trivial))) (wr_cons rfl (plain_Lst plain_eG) wr_nil)⟩
def Without_okH1 (a : List Rg) (b : List Rg) : List (Nat × Option Cn) := [(0, some (.ro 2 a.length (Lst eG a))), (1, some (.ro 2 b.length (Lst eG b)))]
def Without_okH2 (a : List Rg) (b : List Rg) (gs : List Rg) : List (Nat × Option Cn) := [(0, some (.ro 2 a.length (Lst eG a))), (1, some (.ro 2 b.length (Lst eG b))), (2001, some (.vec 23 2 gs.length (Lst eG gs)))]
def Without_okK3 (b : List Rg) (i : Nat) : Cn := .blk 23 [.i ((ix b i).low), .i ((ix b i).high)]
def Without_okH4 (a : List Rg) (b : List Rg) (i : Nat) (gs : List Rg) : List (Nat × Option Cn) := [(0, some (.ro 2 a.length (Lst eG a))), (1, some (.ro 2 b.length (Lst eG b))), (1010, some (Without_okK3 b i)), (2001, some (.vec 23 2 gs.length (Lst eG gs)))]
def Without_okK5 (gs : List Rg) (f : Int) (b : List Rg) (i : Nat) : Cn := .vec 23 2 (gs.length + 1) (Lst eG (gs ++ [(⟨f, ((ix b i).low - 1)⟩ : Rg)]))
def Without_okH6 (a : List Rg) (b : List Rg) (i : Nat) (gs : List Rg) (f : Int) : List (Nat × Option Cn) := [(0, some (.ro 2 a.length (Lst eG a))), (1, some (.ro 2 b.length (Lst eG b))), (1010, some (Without_okK3 b i)), (1035, some (Without_okK5 gs f b i))]
def Without_okH7 (a : List Rg) (b : List Rg) (gs : List Rg) (f : Int) (i : Nat) : List (Nat × Option Cn) := [(0, some (.ro 2 a.length (Lst eG a))), (1, some (.ro 2 b.length (Lst eG b))), (1035, some (Without_okK5 gs f b i))]
def Without_okH8 (a : List Rg) (gs : List Rg) : List (Nat × Option Cn) := [(0, some (.ro 2 a.length (Lst eG a))), (2001, some (.vec 23 2 gs.length (Lst eG gs)))]
def Without_okK9 (gs : List Rg) (f : Int) : Cn := .vec 23 2 (gs.length + 1) (Lst eG (gs ++ [(⟨f, 1000000000000000⟩ : Rg)]))
def Without_okH10 (a : List Rg) (gs : List Rg) (f : Int) : List (Nat × Option Cn) := [(0, some (.ro 2 a.length (Lst eG a))), (1046, some (Without_okK9 gs f))]
def Without_okK11 (b : List Rg) : Cn := .vec 23 2 ((gapsV b).length) (Lst eG (gapsV b))
def Without_okH12 (a : List Rg) (b : List Rg) : List (Nat × Option Cn) := [(0, some (.ro 2 a.length (Lst eG a))), (1046, some (Without_okK11 b))]
def Without_okK13 (a : List Rg) (b : List Rg) : Cn := .vec 23 2 ((commonV a (gapsV b)).length) (Lst eG (commonV a (gapsV b)))
def Without_okK14 (a : List Rg) (b : List Rg) : Cn := .vec 23 2 ((withoutV a b).length) (Lst eG (withoutV a b))
def Without_okH15 (a : List Rg) (b : List Rg) : List (Nat × Option Cn) := [(0, some (.ro 2 a.length (Lst eG a))), (2001, some (Without_okK11 b))]
set_option maxRecDepth 100000 in
theorem Without_ok (a b : List Rg) (ha : SetOk a) (hb : SetOk b) (hn : (withoutV a b).length ≤ 200) : CallFr Try.prog 94 [.ls 0, .ls 1] [0, 1] [some (.ro 2 a.length (Lst eG a)), some (.ro 2 b.length (Lst eG b))] (.tup [.one (.ls 5), .one (.i 0)]) [(5, some (.vec 23 2 ((withoutV a b).length) (Lst eG (withoutV a b))))] := by
 have hal := ha.len
 have hbl := hb.len
 refine callFr_of (fn := Try.f94) (by kernel_rfl) rfl (by kernel_rfl) (by kernel_rfl) fun E => ?_
 refine aw_ent (T := ⟨53, [0, 1], [(0, .ls 0), (1, .ls 1)], (Without_okH1 a b)⟩) (Ent.refl _) ?_
 apply aw_seq
 refine awr []
  ⟨53, [0, 1], [(0, .ls 0), (1, .ls 1)], (Without_okH1 a b)⟩
  [] trivial ?_
 apply aw_seq
 apply aw_seq
 refine awr [(2, .act [0, 1] (.ls 1013) [(1013, some (.vec 52 1 2 (LstL 2 eG ([a, b]))))]), (3, .call [1013] (.i 0) [])]
  ⟨53, [0, 1], [(0, .ls 0), (1, .ls 1), (6, .i 0)], (Without_okH1 a b)⟩
  [ActOK Try.prog (.buildSlice 177 2 #[(0, (.tmp 11)), (1, (.tmp 12))]) 177 [.ls 0, .ls 1] [0, 1] [some (.ro 2 a.length (Lst eG a)), some (.ro 2 b.length (Lst eG b))] (.ls 1013) [(1013, some (.vec 52 1 2 (LstL 2 eG ([a, b]))))], CallOK Try.prog 108 [.ls 1013] [1013] [some (.vec 52 1 2 (LstL 2 eG ([a, b])))] (.i 0) []] (al2 (act_pair (by kernel_rfl) (by kernel_rfl) (fun _ => rfl) rfl (by first | rfl | omega) (by first | rfl | omega) rfl) (al1 (cfr (checked_ok ([a, b]) (by intro s hs; simp only [List.mem_cons, List.not_mem_nil, or_false] at hs; rcases hs with rfl | rfl <;> assumption) (by simp)) [(0, 1013)] (dem_cons rfl (le_vec_ro (by first | omega | rfl | assumption) el_rfl) dem_nil)))) ?_
 apply aw_seq
 refine awr []
  ⟨53, [0, 1], [(0, .ls 0), (1, .ls 1), (6, .i 0), (16, .b (decide ((0 : Int) ≠ (0 : Int))))], (Without_okH1 a b)⟩
  [] trivial ?_
 have h1 : (decide ((0 : Int) ≠ (0 : Int))) = false := by decide
 refine aw_cond (b := decide ((0 : Int) ≠ (0 : Int))) rfl (fun h => Bool.noConfusion (h1.symm.trans h)) (fun _ => ?_)
 apply aw_skip
 apply aw_seq
 refine awr []
  ⟨53, [0, 1], [(0, .ls 0), (1, .ls 1), (7, .l (.v (.slice none 0 0)))], (Without_okH1 a b)⟩
  [] trivial ?_
 apply aw_seq
 refine awr []
  ⟨53, [0, 1], [(0, .ls 0), (1, .ls 1), (7, .l (.v (.slice none 0 0))), (8, .i (-1000000000000000))], (Without_okH1 a b)⟩
  [] trivial ?_
 apply aw_seq
 apply aw_seq
 refine awr []
  ⟨53, [0, 1], [(0, .ls 0), (7, .l (.v (.slice none 0 0))), (8, .i (-1000000000000000)), (18, .ls 1), (19, .i (b.length : Int)), (20, .i 0)], (Without_okH1 a b)⟩
  [] trivial ?_
 apply aw_block
 refine aw_loop (ι := Nat × List Rg × Int) (fun zz => ⟨53, [0, 1], [(0, .ls 0), (7, .ls 2001), (8, .i zz.2.2), (18, .ls 1), (19, .i (b.length : Int)), (20, .i (zz.1 : Int))], (Without_okH2 a b zz.2.1)⟩) (fun zz => (zz.1 ≤ b.length) ∧ (zz.2.1.length ≤ zz.1) ∧ (∀ q, q ∈ zz.2.1 → bdR q) ∧ (-1000000000000000 ≤ zz.2.2 ∧ zz.2.2 ≤ 1000000000000001) ∧ (gapsL zz.2.2 zz.2.1 (b.drop zz.1) = gapsV b)) (fun zz => b.length - zz.1) (0, [], (-1000000000000000)) ⟨(by (try dsimp only); first | omega | rfl | assumption | (simp; done)), (by (try dsimp only); first | omega | rfl | assumption | (simp; done)), (by (try dsimp only); intro q hq; cases hq), (by (try dsimp only); first | omega | rfl | assumption | (simp; done)), (by (try dsimp only); rfl)⟩
     (Ent.trans (Ent.nilSlot 7 70001 23 2 (Lst eG ([])) rfl (by omega) (by kernel_rfl)) (enr [(2001, 70001)] ⟨rfl, rfl, rfl, rfl, rfl, rfl, trivial⟩ (cro rfl (cro rfl (conts_cons rfl (le_vec (by first | rfl | omega | assumption) el_rfl) trivial))))) fun zz hp => ?_
 obtain ⟨i, gs, f⟩ := zz
 obtain ⟨hiL, hgL, hgb, hf, hq⟩ := hp
 dsimp only at hiL hgL hgb hf hq
 show AW _ E _ _ ⟨53, [0, 1], [(0, .ls 0), (7, .ls 2001), (8, .i f), (18, .ls 1), (19, .i (b.length : Int)), (20, .i (i : Int))], (Without_okH2 a b gs)⟩
 apply aw_seq
 refine awr []
  ⟨53, [0, 1], [(0, .ls 0), (7, .ls 2001), (8, .i f), (18, .ls 1), (19, .i (b.length : Int)), (20, .i (i : Int)), (21, .b (decide ((i : Int) < (b.length : Int))))], (Without_okH2 a b gs)⟩
  [] trivial ?_
 apply aw_seq
 refine aw_cond (b := decide ((i : Int) < (b.length : Int))) rfl (fun h2 => ?_) (fun h2 => ?_)
 ·
  have h2p : (i : Int) < (b.length : Int) := dtr h2
  apply aw_skip
  apply aw_seq
  apply aw_block
  apply aw_seq
  refine awr [(0, .idx i), (2, .new 1010)]
   ⟨53, [0, 1], [(0, .ls 0), (7, .ls 2001), (8, .i f), (10, .l (.ref 1010 0)), (18, .ls 1), (19, .i (b.length : Int)), (20, .i (i : Int))], (Without_okH4 a b i gs)⟩
   [(i : Int) = (i : Int), i < b.length, i < b.length] (al2 (by omega) (al2 (by omega) (al1 (by omega)))) ?_
  apply aw_seq
  apply aw_seq
  have qb := (hb.ok _ (ix_mem (l := b) (i := i) (by omega))).1
  unfold bdR at qb
  refine awr []
   ⟨53, [0, 1], [(0, .ls 0), (7, .ls 2001), (8, .i f), (10, .l (.ref 1010 0)), (18, .ls 1), (19, .i (b.length : Int)), (20, .i (i : Int)), (27, .b (decide (f < (ix b i).low)))], (Without_okH4 a b i gs)⟩
   [] trivial ?_
  refine aw_cond (b := decide (f < (ix b i).low)) rfl (fun h3 => ?_) (fun h3 => ?_)
  ·
   have h3p : f < (ix b i).low := dtr h3
   refine awr [(6, .new 1034), (7, .lst 1035 (gs.length + 1) (Lst eG (gs ++ [(⟨f, ((ix b i).low - 1)⟩ : Rg)])))]
    ⟨53, [0, 1], [(0, .ls 0), (7, .ls 1035), (10, .l (.ref 1010 0)), (18, .ls 1), (19, .i (b.length : Int)), (20, .i (i : Int))], (Without_okH6 a b i gs f)⟩
    [-9223372036854775808 ≤ ((ix b i).low - 1) ∧ ((ix b i).low - 1) < 9223372036854775808, gs.length + 1 ≤ 1000000000000, (gs.length + 1) * 16 ≤ 140737488355328, AppOk 2 gs.length 1 (Lst eG gs) (exEl 2 [.i f, .i ((ix b i).low - 1)]) (gs.length + 1) (Lst eG (gs ++ [(⟨f, ((ix b i).low - 1)⟩ : Rg)]))] (al2 (by omega) (al2 (by omega) (al2 (by omega) (al1 (app_one (by first | omega | rfl | assumption) (by first | omega | rfl | assumption) (fun | 0, _ => rfl | 1, _ => rfl | (n + 2), h => absurd h (by omega))))))) ?_
   refine awr []
    ⟨53, [0, 1], [(0, .ls 0), (7, .ls 1035), (8, .i ((ix b i).high + 1)), (18, .ls 1), (19, .i (b.length : Int)), (20, .i (i : Int))], (Without_okH7 a b gs f i)⟩
    [-9223372036854775808 ≤ ((ix b i).high + 1) ∧ ((ix b i).high + 1) < 9223372036854775808] (al1 (by omega)) ?_
   refine awr [(0, .num (((i + 1) : Nat) : Int))]
    ⟨53, [0, 1], [(0, .ls 0), (7, .ls 1035), (8, .i ((ix b i).high + 1)), (18, .ls 1), (19, .i (b.length : Int)), (20, .i (((i + 1) : Nat) : Int))], (Without_okH7 a b gs f i)⟩
    [((i : Int) + 1) = (((i + 1) : Nat) : Int), -9223372036854775808 ≤ (((i + 1) : Nat) : Int) ∧ (((i + 1) : Nat) : Int) < 9223372036854775808] (al2 (by omega) (al1 (by omega))) ?_
   exact ⟨((i + 1), (gs ++ [(⟨f, ((ix b i).low - 1)⟩ : Rg)]), ((ix b i).high + 1)), ⟨(by (try dsimp only); first | omega | rfl | assumption | (simp; done)), (by (try dsimp only); first | omega | (simp; omega)), (by (try dsimp only); first | assumption | exact bd_snoc hgb (by unfold bdR; simp only; omega)), (by (try dsimp only); first | omega | rfl | assumption | (simp; done)), (by (try dsimp only); rw [← hq, drop_ix (by omega : i < b.length)]; simp only [gapsL]; (first | rw [if_pos (by assumption)] | rw [if_neg (by omega)]))⟩, (show b.length - (i + 1) < b.length - i by first | omega | rfl | assumption),
       (enr [(2001, 1035)] ⟨rfl, rfl, rfl, rfl, rfl, rfl, trivial⟩ (cro rfl (cro rfl (conts_cons rfl (le_vec (by first | rfl | omega | assumption | (simp; done)) el_rfl) trivial))))⟩
  ·
   have h3p : (ix b i).low ≤ f := dlt h3
   apply aw_skip
   refine awr []
    ⟨53, [0, 1], [(0, .ls 0), (7, .ls 2001), (8, .i ((ix b i).high + 1)), (18, .ls 1), (19, .i (b.length : Int)), (20, .i (i : Int))], (Without_okH2 a b gs)⟩
    [-9223372036854775808 ≤ ((ix b i).high + 1) ∧ ((ix b i).high + 1) < 9223372036854775808] (al1 (by omega)) ?_
   refine awr [(0, .num (((i + 1) : Nat) : Int))]
    ⟨53, [0, 1], [(0, .ls 0), (7, .ls 2001), (8, .i ((ix b i).high + 1)), (18, .ls 1), (19, .i (b.length : Int)), (20, .i (((i + 1) : Nat) : Int))], (Without_okH2 a b gs)⟩
    [((i : Int) + 1) = (((i + 1) : Nat) : Int), -9223372036854775808 ≤ (((i + 1) : Nat) : Int) ∧ (((i + 1) : Nat) : Int) < 9223372036854775808] (al2 (by omega) (al1 (by omega))) ?_
   exact ⟨((i + 1), gs, ((ix b i).high + 1)), ⟨(by (try dsimp only); first | omega | rfl | assumption | (simp; done)), (by (try dsimp only); first | omega | (simp; omega)), (by (try dsimp only); first | assumption | exact bd_snoc hgb (by unfold bdR; simp only; omega)), (by (try dsimp only); first | omega | rfl | assumption | (simp; done)), (by (try dsimp only); rw [← hq, drop_ix (by omega : i < b.length)]; simp only [gapsL]; (first | rw [if_pos (by assumption)] | rw [if_neg (by omega)]))⟩, (show b.length - (i + 1) < b.length - i by first | omega | rfl | assumption),
       (enr [] ⟨rfl, rfl, rfl, rfl, rfl, rfl, trivial⟩ (cro rfl (cro rfl (cve rfl trivial))))⟩
 ·
  have h2p : (b.length : Int) ≤ (i : Int) := dlt h2
  refine aw_exit (exit_then (exit_then (exit_in ?_)))
  apply aw_seq
  apply aw_seq
  refine awr []
   ⟨53, [0, 1], [(0, .ls 0), (7, .ls 2001), (8, .i f), (41, .b (decide (f ≤ 1000000000000000)))], (Without_okH8 a gs)⟩
   [] trivial ?_
  refine aw_cond (b := decide (f ≤ 1000000000000000)) rfl (fun h4 => ?_) (fun h4 => ?_)
  ·
   have h4p : f ≤ 1000000000000000 := dtr h4
   have hgb2 : ∀ q, q ∈ gs ++ [⟨f, 1000000000000000⟩] → bdR q := bd_snoc hgb (by unfold bdR; simp only; omega)
   refine awr [(3, .new 1045), (4, .lst 1046 (gs.length + 1) (Lst eG (gs ++ [(⟨f, 1000000000000000⟩ : Rg)])))]
    ⟨53, [0, 1], [(0, .ls 0), (7, .ls 1046)], (Without_okH10 a gs f)⟩
    [gs.length + 1 ≤ 1000000000000, (gs.length + 1) * 16 ≤ 140737488355328, AppOk 2 gs.length 1 (Lst eG gs) (exEl 2 [.i f, .i 1000000000000000]) (gs.length + 1) (Lst eG (gs ++ [(⟨f, 1000000000000000⟩ : Rg)]))] (al2 (by omega) (al2 (by omega) (al1 (app_one (by first | omega | rfl | assumption) (by first | omega | rfl | assumption) (fun | 0, _ => rfl | 1, _ => rfl | (n + 2), h => absurd h (by omega)))))) ?_
   apply aw_seq
   have hz : (if f ≤ 1000000000000000 then gs ++ [⟨f, 1000000000000000⟩] else gs) = gapsV b := by
    rw [List.drop_eq_nil_of_le (by omega)] at hq
    exact hq
   have hn2 : (commonV a (gapsV b)).length ≤ 200 := hn
   have hgl : (gapsV b).length ≤ 1000 := by
    rw [← hz]
    first
    | (rw [if_pos (by assumption)]; simp; omega)
    | (rw [if_neg (by omega)]; omega)
   have hgB : ∀ q, q ∈ gapsV b → bdR q := by
    rw [← hz]
    first
    | (rw [if_pos (by assumption)]; exact hgb2)
    | (rw [if_neg (by omega)]; exact hgb)
   refine aw_ent (T := ⟨53, [0, 1], [(0, .ls 0), (7, .ls 1046)], (Without_okH12 a b)⟩)
       (enr [] ⟨rfl, rfl, trivial⟩ (cro rfl (conts_cons rfl (le_vec (by first | rfl | omega | assumption | (rw [← hz, if_pos (by assumption)]; first | done | (simp; done)) | (rw [← hz, if_neg (by omega)]; first | done | (simp; done))) (lst_eq (by first | rfl | omega | assumption | (rw [← hz, if_pos (by assumption)]; first | done | (simp; done)) | (rw [← hz, if_neg (by omega)]; first | done | (simp; done))))) trivial))) ?_
   refine awr [(2, .call [0, 1046] (.ls 10490) [(10490, some (Without_okK13 a b))]), (3, .call [10490] (.tup [.one (.ls 10490), .one (.i 0)]) [])]
    ⟨53, [0, 1], [(4, .ls 10490), (5, .i 0)], [(10490, some (Without_okK13 a b))]⟩
    [CallOK Try.prog 109 [.ls 0, .ls 1046] [0, 1046] [some (.ro 2 a.length (Lst eG a)), some (Without_okK11 b)] (.ls 10490) [(10490, some (Without_okK13 a b))], CallOK Try.prog 110 [.ls 10490] [10490] [some (Without_okK13 a b)] (.tup [.one (.ls 10490), .one (.i 0)]) []] (al2 (cfr (common_fr a (gapsV b) (by first | assumption | exact fun q hq => (SetOk.ok (by assumption) q hq).1) (by first | assumption | exact fun q hq => (SetOk.ok (by assumption) q hq).1) (by omega) (by omega)) [(0, 0), (1, 1046), (2, 10490)] (dem_cons rfl (le_ro rfl el_rfl) (dem_cons rfl (le_vec_ro rfl el_rfl) dem_nil))) (al1 (cfr (full_ok (commonV a (gapsV b)) (by assumption)) [(0, 10490)] (dem_cons rfl (le_vec_ro rfl el_rfl) dem_nil)))) ?_
   exact aw_ret ⟨.inr rfl, eok ⟨53, [0, 1], [(4, .ls 5), (5, .i 0)], [(5, some (Without_okK14 a b))]⟩
       (enr [(5, 10490)] ⟨rfl, rfl, trivial⟩ (conts_cons rfl (le_vec (by first | rfl | omega | assumption) (lst_eq (by first | rfl | omega | assumption))) trivial)) (wr_cons rfl (plain_Lst plain_eG) wr_nil)⟩
  ·
   have h4p : 1000000000000000 < f := dle h4
   apply aw_skip
   apply aw_seq
   have hz : (if f ≤ 1000000000000000 then gs ++ [⟨f, 1000000000000000⟩] else gs) = gapsV b := by
    rw [List.drop_eq_nil_of_le (by omega)] at hq
    exact hq
   have hn2 : (commonV a (gapsV b)).length ≤ 200 := hn
   have hgl : (gapsV b).length ≤ 1000 := by
    rw [← hz]
    first
    | (rw [if_pos (by assumption)]; simp; omega)
    | (rw [if_neg (by omega)]; omega)
   have hgB : ∀ q, q ∈ gapsV b → bdR q := by
    rw [← hz]
    first
    | (rw [if_pos (by assumption)]; exact hgb2)
    | (rw [if_neg (by omega)]; exact hgb)
   refine aw_ent (T := ⟨53, [0, 1], [(0, .ls 0), (7, .ls 2001), (8, .i f), (41, .b (decide (f ≤ 1000000000000000)))], (Without_okH15 a b)⟩)
       (enr [] ⟨rfl, rfl, rfl, rfl, trivial⟩ (cro rfl (conts_cons rfl (le_vec (by first | rfl | omega | assumption | (rw [← hz, if_pos (by assumption)]; first | done | (simp; done)) | (rw [← hz, if_neg (by omega)]; first | done | (simp; done))) (lst_eq (by first | rfl | omega | assumption | (rw [← hz, if_pos (by assumption)]; first | done | (simp; done)) | (rw [← hz, if_neg (by omega)]; first | done | (simp; done))))) trivial))) ?_
   refine awr [(2, .call [0, 2001] (.ls 10490) [(10490, some (Without_okK13 a b))]), (3, .call [10490] (.tup [.one (.ls 10490), .one (.i 0)]) [])]
    ⟨53, [0, 1], [(4, .ls 10490), (5, .i 0)], [(10490, some (Without_okK13 a b))]⟩
    [CallOK Try.prog 109 [.ls 0, .ls 2001] [0, 2001] [some (.ro 2 a.length (Lst eG a)), some (Without_okK11 b)] (.ls 10490) [(10490, some (Without_okK13 a b))], CallOK Try.prog 110 [.ls 10490] [10490] [some (Without_okK13 a b)] (.tup [.one (.ls 10490), .one (.i 0)]) []] (al2 (cfr (common_fr a (gapsV b) (by first | assumption | exact fun q hq => (SetOk.ok (by assumption) q hq).1) (by first | assumption | exact fun q hq => (SetOk.ok (by assumption) q hq).1) (by omega) (by omega)) [(0, 0), (1, 2001), (2, 10490)] (dem_cons rfl (le_ro rfl el_rfl) (dem_cons rfl (le_vec_ro rfl el_rfl) dem_nil))) (al1 (cfr (full_ok (commonV a (gapsV b)) (by assumption)) [(0, 10490)] (dem_cons rfl (le_vec_ro rfl el_rfl) dem_nil)))) ?_
   exact aw_ret ⟨.inr rfl, eok ⟨53, [0, 1], [(4, .ls 5), (5, .i 0)], [(5, some (Without_okK14 a b))]⟩
       (enr [(5, 10490)] ⟨rfl, rfl, trivial⟩ (conts_cons rfl (le_vec (by first | rfl | omega | assumption) (lst_eq (by first | rfl | omega | assumption))) trivial)) (wr_cons rfl (plain_Lst plain_eG) wr_nil)⟩
end Go.Proofs.Ytbpblhmigijkaaa
