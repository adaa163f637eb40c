/- Checks. -/
import Derived.Test.YtbpblhmigijkaaaTb
namespace Go.Proofs.Ytbpblhmigijkaaa
open Go.RowKit
set_option linter.unusedVariables false
set_option linter.unusedSimpArgs false
set_option maxRecDepth 100000 in
theorem within1_fr (lo hi x : Int) : CallFr Try.prog 86 [.i x, .l (.ref 1 0), .l (.ref 2 0)] [1, 2] [some (.rblk [.i lo]), some (.rblk [.i hi])] (.b (outB lo hi x)) [] := by
 refine callFr_of (fn := Try.f86) (by kernel_rfl) rfl (by kernel_rfl) (by kernel_rfl) fun E => ?_
 refine aw_ent (T := ⟨13, [1, 2], [(0, .i x), (1, .l (.ref 1 0)), (2, .l (.ref 2 0))], [(1, some (.rblk [.i lo])), (2, some (.rblk [.i hi]))]⟩) (Ent.refl _) ?_
 apply aw_seq
 refine awr []
  ⟨13, [1, 2], [(0, .i x), (1, .l (.ref 1 0)), (2, .l (.ref 2 0))], [(1, some (.rblk [.i lo])), (2, some (.rblk [.i hi]))]⟩
  [] trivial ?_
 apply aw_seq
 rcases Bool.eq_false_or_eq_true (decide (x < lo)) with h1 | h1
 ·
  have h1p : x < lo := dtr h1
  refine awr [(3, .dec true)]
   ⟨13, [1, 2], [(4, .b true)], []⟩
   [decide (x < lo) = true] (al1 h1) ?_
  exact aw_ret ⟨.inr rfl, eok ⟨13, [1, 2], [(4, .b (outB lo hi x))], []⟩
      (enr [] ⟨(slot_b (a := true) rfl (by first | rfl | omega | assumption | (simp [outB, *]))), trivial⟩ trivial) wr_nil⟩
 ·
  have h1p : lo ≤ x := dlt h1
  refine awr [(3, .dec false)]
   ⟨13, [1, 2], [(4, .b (decide (hi < x)))], []⟩
   [decide (x < lo) = false] (al1 h1) ?_
  exact aw_ret ⟨.inr rfl, eok ⟨13, [1, 2], [(4, .b (outB lo hi x))], []⟩
      (enr [] ⟨(slot_b (a := decide (hi < x)) rfl (by first | rfl | omega | assumption | (simp [outB, *]))), trivial⟩ trivial) wr_nil⟩
def within_ixH1 (l : List Int) (lo : Int) (hi : Int) : List (Nat × Option Cn) := [(0, some (.ro 1 l.length (Lst eI l))), (1, some (.rblk [.i lo])), (2, some (.rblk [.i hi]))]
set_option maxRecDepth 100000 in
theorem within_ix (lo hi : Int)  (l : List Int) (hl : l.length ≤ 1000000)  : CallFr Try.prog 103 [.ls 0, .l (.fnc (.func 86) [1, 2])] [0, 1, 2] [some (.ro 1 l.length (Lst eI l)), some (.rblk [.i lo]), some (.rblk [.i hi])] (.i (findI (outB lo hi) l)) [] := by
 refine callFr_of (fn := Try.f103) (by kernel_rfl) rfl (by kernel_rfl) (by kernel_rfl) fun E => ?_
 refine aw_ent (T := ⟨19, [0, 1, 2], [(0, .ls 0), (1, .l (.fnc (.func 86) [1, 2]))], (within_ixH1 l lo hi)⟩) (Ent.refl _) ?_
 apply aw_seq
 refine awr []
  ⟨19, [0, 1, 2], [(0, .ls 0), (1, .l (.fnc (.func 86) [1, 2]))], (within_ixH1 l lo hi)⟩
  [] trivial ?_
 apply aw_seq
 apply aw_seq
 refine awr []
  ⟨19, [0, 1, 2], [(0, .ls 0), (1, .l (.fnc (.func 86) [1, 2])), (7, .i (l.length : Int)), (8, .i 0)], (within_ixH1 l lo hi)⟩
  [] trivial ?_
 apply aw_block
 refine aw_loop (ι := Nat) (fun zz => ⟨19, [0, 1, 2], [(0, .ls 0), (1, .l (.fnc (.func 86) [1, 2])), (7, .i (l.length : Int)), (8, .i (zz : Int))], (within_ixH1 l lo hi)⟩) (fun zz => (zz ≤ l.length) ∧ (∀ j, j < zz → (outB lo hi) (ix l j) = false)) (fun zz => l.length - zz) 0 ⟨(by first | omega | rfl | assumption | (simp; done)), (by intro j hj; omega)⟩
     (enr [] ⟨rfl, rfl, rfl, rfl, trivial⟩ (cro rfl (crr rfl rfl (crr rfl rfl trivial)))) fun zz hp => ?_
 obtain ⟨i, rfl⟩ : ∃ x, x = zz := ⟨_, rfl⟩
 obtain ⟨hiL, hp⟩ := hp
 show AW _ E _ _ ⟨19, [0, 1, 2], [(0, .ls 0), (1, .l (.fnc (.func 86) [1, 2])), (7, .i (l.length : Int)), (8, .i (i : Int))], (within_ixH1 l lo hi)⟩
 apply aw_seq
 refine awr []
  ⟨19, [0, 1, 2], [(0, .ls 0), (1, .l (.fnc (.func 86) [1, 2])), (7, .i (l.length : Int)), (8, .i (i : Int)), (9, .b (decide ((i : Int) < (l.length : Int))))], (within_ixH1 l lo hi)⟩
  [] trivial ?_
 apply aw_seq
 refine aw_cond (b := decide ((i : Int) < (l.length : Int))) rfl (fun h1 => ?_) (fun h1 => ?_)
 ·
  have h1p : (i : Int) < (l.length : Int) := dtr h1
  apply aw_skip
  apply aw_seq
  apply aw_block
  apply aw_seq
  refine awr []
   ⟨19, [0, 1, 2], [(0, .ls 0), (1, .l (.fnc (.func 86) [1, 2])), (5, .i (i : Int)), (7, .i (l.length : Int)), (8, .i (i : Int))], (within_ixH1 l lo hi)⟩
   [] trivial ?_
  apply aw_seq
  refine awr [(3, .idx i), (5, .act [1, 2] (.b (outB lo hi (ix l i))) [])]
   ⟨19, [0, 1, 2], [(0, .ls 0), (1, .l (.fnc (.func 86) [1, 2])), (5, .i (i : Int)), (7, .i (l.length : Int)), (8, .i (i : Int)), (16, .b (outB lo hi (ix l i)))], (within_ixH1 l lo hi)⟩
   [(i : Int) = (i : Int), i < l.length, i < l.length, ActOK Try.prog (.call ⟨.value (.tmp 11), #[(.tmp 15)], #[3]⟩) 4 [.l (.fnc (.func 86) [1, 2]), .i (ix l i)] [1, 2] [some (.rblk [.i lo]), some (.rblk [.i hi])] (.b (outB lo hi (ix l i))) []] (al2 (by omega) (al2 (by omega) (al2 (by omega) (al1 (act_callv (by kernel_rfl) (by kernel_rfl) (cfr (within1_fr lo hi (ix l i)) [(1, 1), (2, 2)] (dem_cons rfl (le_rblk rfl) (dem_cons rfl (le_rblk rfl) dem_nil)))))))) ?_
  refine aw_cond (b := (outB lo hi (ix l i))) rfl (fun h2 => ?_) (fun h2 => ?_)
  ·
   apply aw_seq
   refine awr []
    ⟨19, [0, 1, 2], [(4, .i (i : Int))], []⟩
    [] trivial ?_
   exact aw_ret (ret_block (ret_then (ret_then (ret_block (ret_then ⟨.inr rfl, eok ⟨19, [0, 1, 2], [(4, .i (findI (outB lo hi) l))], []⟩
       (enr [] ⟨(slot_i rfl (by first | rfl | omega | assumption | (exact findI_at hp (by omega) (by assumption)) | (exact findI_no hp (by omega)))), trivial⟩ trivial) wr_nil⟩)))))
  ·
   apply aw_skip
   refine awr [(0, .num (((i + 1) : Nat) : Int))]
    ⟨19, [0, 1, 2], [(0, .ls 0), (1, .l (.fnc (.func 86) [1, 2])), (7, .i (l.length : Int)), (8, .i (((i + 1) : Nat) : Int))], (within_ixH1 l lo hi)⟩
    [((i : Int) + 1) = (((i + 1) : Nat) : Int), -9223372036854775808 ≤ (((i + 1) : Nat) : Int) ∧ (((i + 1) : Nat) : Int) < 9223372036854775808] (al2 (by omega) (al1 (by omega))) ?_
   exact ⟨(i + 1), ⟨(by first | omega | rfl | assumption | (simp; done)), (by exact all_snoc hp h2)⟩, (show l.length - (i + 1) < l.length - i by first | omega | rfl | assumption),
       (enr [] ⟨rfl, rfl, rfl, rfl, trivial⟩ (cro rfl (crr rfl rfl (crr rfl rfl trivial))))⟩
 ·
  have h1p : (l.length : Int) ≤ (i : Int) := dlt h1
  refine aw_exit (exit_then (exit_then (exit_in ?_)))
  apply aw_seq
  refine awr []
   ⟨19, [0, 1, 2], [(4, .i (-1))], []⟩
   [] trivial ?_
  exact aw_ret ⟨.inr rfl, eok ⟨19, [0, 1, 2], [(4, .i (findI (outB lo hi) l))], []⟩
      (enr [] ⟨(slot_i rfl (by first | rfl | omega | assumption | (exact findI_at hp (by omega) (by assumption)) | (exact findI_no hp (by omega)))), trivial⟩ trivial) wr_nil⟩
def within_anyH1 (l : List Int) (lo : Int) (hi : Int) : List (Nat × Option Cn) := [(0, some (.ro 1 l.length (Lst eI l))), (1, some (.rblk [.i lo])), (2, some (.rblk [.i hi]))]
set_option maxRecDepth 100000 in
theorem within_any (lo hi : Int)  (l : List Int) (hl : l.length ≤ 1000000)  : CallFr Try.prog 80 [.ls 0, .l (.fnc (.func 86) [1, 2])] [0, 1, 2] [some (.ro 1 l.length (Lst eI l)), some (.rblk [.i lo]), some (.rblk [.i hi])] (.b (l.any (outB lo hi))) [] := by
 refine callFr_of (fn := Try.f80) (by kernel_rfl) rfl (by kernel_rfl) (by kernel_rfl) fun E => ?_
 refine aw_ent (T := ⟨9, [0, 1, 2], [(0, .ls 0), (1, .l (.fnc (.func 86) [1, 2]))], (within_anyH1 l lo hi)⟩) (Ent.refl _) ?_
 apply aw_seq
 refine awr []
  ⟨9, [0, 1, 2], [(0, .ls 0), (1, .l (.fnc (.func 86) [1, 2]))], (within_anyH1 l lo hi)⟩
  [] trivial ?_
 apply aw_seq
 refine awr [(2, .call [0, 1, 2] (.i (findI (outB lo hi) l)) [])]
  ⟨9, [0, 1, 2], [(4, .b (decide (0 ≤ (findI (outB lo hi) l))))], []⟩
  [CallOK Try.prog 103 [.ls 0, .l (.fnc (.func 86) [1, 2])] [0, 1, 2] [some (.ro 1 l.length (Lst eI l)), some (.rblk [.i lo]), some (.rblk [.i hi])] (.i (findI (outB lo hi) l)) []] (al1 (cfr (within_ix lo hi  l hl ) [(0, 0), (1, 1), (2, 2)] (dem_cons rfl (le_ro rfl el_rfl) (dem_cons rfl (le_rblk rfl) (dem_cons rfl (le_rblk rfl) dem_nil))))) ?_
 exact aw_ret ⟨.inr rfl, eok ⟨9, [0, 1, 2], [(4, .b (l.any (outB lo hi)))], []⟩
     (enr [] ⟨(slot_b (a := decide (0 ≤ (findI (outB lo hi) l))) rfl (by first | rfl | omega | assumption | (exact findI_any))), trivial⟩ trivial) wr_nil⟩
def within_frH1 (l : List Int) (lo : Int) (hi : Int) : List (Nat × Option Cn) := [(0, some (.ro 1 l.length (Lst eI l))), (1003, some (.blk 3 [.i lo])), (1004, some (.blk 3 [.i hi]))]
set_option maxRecDepth 100000 in
theorem within_fr (lo hi : Int) (l : List Int) (hl : l.length ≤ 1000000) : CallFr Try.prog 55 [.i lo, .i hi, .ls 0] [0] [some (.ro 1 l.length (Lst eI l))] (.b (within lo hi l)) [] := by
 refine callFr_of (fn := Try.f55) (by kernel_rfl) rfl (by kernel_rfl) (by kernel_rfl) fun E => ?_
 refine aw_ent (T := ⟨11, [0], [(0, .i lo), (1, .i hi), (2, .ls 0)], [(0, some (.ro 1 l.length (Lst eI l)))]⟩) (Ent.refl _) ?_
 apply aw_seq
 refine awr [(0, .new 1003), (1, .new 1004)]
  ⟨11, [0], [(2, .ls 0), (3, .l (.ref 1003 0)), (4, .l (.ref 1004 0))], (within_frH1 l lo hi)⟩
  [] trivial ?_
 apply aw_seq
 refine awr [(2, .call [0, 1003, 1004] (.b (l.any (outB lo hi))) [])]
  ⟨11, [0], [(6, .b (!(l.any (outB lo hi))))], []⟩
  [CallOK Try.prog 80 [.ls 0, .l (.fnc (.func 86) [1003, 1004])] [0, 1003, 1004] [some (.ro 1 l.length (Lst eI l)), some (.blk 3 [.i lo]), some (.blk 3 [.i hi])] (.b (l.any (outB lo hi))) []] (al1 (cfr (within_any lo hi  l (by first | omega | (simp; done) | decide | (rw [List.length_take]; omega)) ) [(0, 0), (1, 1003), (2, 1004)] (dem_cons rfl (le_ro rfl el_rfl) (dem_cons rfl (le_blk_r rfl) (dem_cons rfl (le_blk_r rfl) dem_nil))))) ?_
 exact aw_ret ⟨.inr rfl, eok ⟨11, [0], [(6, .b (within lo hi l))], []⟩
     (enr [] ⟨(slot_b (a := (!(l.any (outB lo hi)))) rfl (by first | rfl | omega | assumption | (rfl))), trivial⟩ trivial) wr_nil⟩
set_option maxRecDepth 100000 in
theorem isRange_fr (a b lo hi : Int) : CallFr Try.prog 57 [.agg [.i a, .i b], .i lo, .i hi] [] [] (.b (rangeB a b lo hi)) [] := by
 refine callFr_of (fn := Try.f57) (by kernel_rfl) rfl (by kernel_rfl) (by kernel_rfl) fun E => ?_
 refine aw_ent (T := ⟨22, [], [(0, .agg [.i a, .i b]), (1, .i lo), (2, .i hi)], []⟩) (Ent.refl _) ?_
 apply aw_seq
 refine awr [(0, .new 1003)]
  ⟨22, [], [(1, .i lo), (2, .i hi), (3, .l (.ref 1003 0))], [(1003, some (.blk 23 [.i a, .i b]))]⟩
  [] trivial ?_
 apply aw_seq
 rcases Bool.eq_false_or_eq_true (decide (a ≤ b)) with h1 | h1
 ·
  have h1p : a ≤ b := dtr h1
  refine awr [(5, .dec true), (12, .new 1019), (13, .call [1019] (.b (within lo hi ([a, b]))) [])]
   ⟨22, [], [(6, .b (within lo hi ([a, b])))], []⟩
   [decide (a ≤ b) = true, CallOK Try.prog 55 [.i lo, .i hi, .ls 1019] [1019] [some (.vec 3 1 2 (exEl 1 [.i a, .i b]))] (.b (within lo hi ([a, b]))) []] (al2 h1 (al1 (cfr (within_fr lo hi ([a, b]) (by first | omega | (simp; done) | decide)) [(0, 1019)] (dem_cons rfl (le_vec_ro (by first | omega | rfl | assumption) (fun | 0, _ => (fun | 0, _ => rfl | (_n + 1), h => absurd h (by omega)) | 1, _ => (fun | 0, _ => rfl | (_n + 1), h => absurd h (by omega)) | (_n + 2), h => absurd h (by omega))) dem_nil)))) ?_
  exact aw_ret ⟨.inr rfl, eok ⟨22, [], [(6, .b (rangeB a b lo hi))], []⟩
      (enr [] ⟨(slot_b (a := (within lo hi ([a, b]))) rfl (by first | rfl | omega | assumption | (simp [rangeB, *]))), trivial⟩ trivial) wr_nil⟩
 ·
  have h1p : b < a := dle h1
  refine awr [(5, .dec false)]
   ⟨22, [], [(6, .b false)], []⟩
   [decide (a ≤ b) = false] (al1 h1) ?_
  exact aw_ret ⟨.inr rfl, eok ⟨22, [], [(6, .b (rangeB a b lo hi))], []⟩
      (enr [] ⟨(slot_b (a := false) rfl (by first | rfl | omega | assumption | (simp [rangeB, *]))), trivial⟩ trivial) wr_nil⟩
def spot1_frK1 (s : Spt) : Cn := .blk 72 [.i s.angle, .i s.height]
def spot1_frK2 (s : Spt) : Cn := .vec 3 1 1 (exEl 1 [.i s.height])
set_option maxRecDepth 100000 in
theorem spot1_fr (s : Spt) : CallFr Try.prog 88 [.agg [.i s.angle, .i s.height]] [] [] (.b (spotOut s)) [] := by
 refine callFr_of (fn := Try.f88) (by kernel_rfl) rfl (by kernel_rfl) (by kernel_rfl) fun E => ?_
 refine aw_ent (T := ⟨15, [], [(0, .agg [.i s.angle, .i s.height])], []⟩) (Ent.refl _) ?_
 apply aw_seq
 refine awr [(0, .new 1001)]
  ⟨15, [], [(1, .l (.ref 1001 0))], [(1001, some (spot1_frK1 s))]⟩
  [] trivial ?_
 apply aw_seq
 rcases Bool.eq_false_or_eq_true ((!(within 0 3599 ([s.angle])))) with h1 | h1
 ·
  refine awr [(2, .new 1005), (3, .call [1005] (.b (within 0 3599 ([s.angle]))) []), (5, .dec true)]
   ⟨15, [], [(2, .b true)], []⟩
   [CallOK Try.prog 55 [.i 0, .i 3599, .ls 1005] [1005] [some (.vec 3 1 1 (exEl 1 [.i s.angle]))] (.b (within 0 3599 ([s.angle]))) [], (!(within 0 3599 ([s.angle]))) = true] (al2 (cfr (within_fr 0 3599 ([s.angle]) (by first | omega | (simp; done) | decide)) [(0, 1005)] (dem_cons rfl (le_vec_ro (by first | omega | rfl | assumption) (fun | 0, _ => (fun | 0, _ => rfl | (_n + 1), h => absurd h (by omega)) | (_n + 1), h => absurd h (by omega))) dem_nil)) (al1 h1)) ?_
  exact aw_ret ⟨.inr rfl, eok ⟨15, [], [(2, .b (spotOut s))], []⟩
      (enr [] ⟨(slot_b (a := true) rfl (by first | rfl | omega | assumption | (simp [spotOut, *]))), trivial⟩ trivial) wr_nil⟩
 ·
  refine awr [(2, .new 1005), (3, .call [1005] (.b (within 0 3599 ([s.angle]))) []), (5, .dec false), (8, .new 1011), (9, .call [1011] (.b (within 0 5000 ([s.height]))) [])]
   ⟨15, [], [(2, .b (!(within 0 5000 ([s.height]))))], []⟩
   [CallOK Try.prog 55 [.i 0, .i 3599, .ls 1005] [1005] [some (.vec 3 1 1 (exEl 1 [.i s.angle]))] (.b (within 0 3599 ([s.angle]))) [], (!(within 0 3599 ([s.angle]))) = false, CallOK Try.prog 55 [.i 0, .i 5000, .ls 1011] [1011] [some (spot1_frK2 s)] (.b (within 0 5000 ([s.height]))) []] (al2 (cfr (within_fr 0 3599 ([s.angle]) (by first | omega | (simp; done) | decide)) [(0, 1005)] (dem_cons rfl (le_vec_ro (by first | omega | rfl | assumption) (fun | 0, _ => (fun | 0, _ => rfl | (_n + 1), h => absurd h (by omega)) | (_n + 1), h => absurd h (by omega))) dem_nil)) (al2 h1 (al1 (cfr (within_fr 0 5000 ([s.height]) (by first | omega | (simp; done) | decide)) [(0, 1011)] (dem_cons rfl (le_vec_ro (by first | omega | rfl | assumption) (fun | 0, _ => (fun | 0, _ => rfl | (_n + 1), h => absurd h (by omega)) | (_n + 1), h => absurd h (by omega))) dem_nil))))) ?_
  exact aw_ret ⟨.inr rfl, eok ⟨15, [], [(2, .b (spotOut s))], []⟩
      (enr [] ⟨(slot_b (a := (!(within 0 5000 ([s.height])))) rfl (by first | rfl | omega | assumption | (simp [spotOut, *]))), trivial⟩ trivial) wr_nil⟩
set_option maxRecDepth 100000 in
theorem spots_ix   (l : List Spt) (hl : l.length ≤ 1000000)  : CallFr Try.prog 106 [.ls 0, .l (.v (.func (.func 88) #[] #[]))] [0] [some (.ro 2 l.length (Lst eS l))] (.i (findI spotOut l)) [] := by
 refine callFr_of (fn := Try.f106) (by kernel_rfl) rfl (by kernel_rfl) (by kernel_rfl) fun E => ?_
 refine aw_ent (T := ⟨19, [0], [(0, .ls 0), (1, .l (.v (.func (.func 88) #[] #[])))], [(0, some (.ro 2 l.length (Lst eS l)))]⟩) (Ent.refl _) ?_
 apply aw_seq
 refine awr []
  ⟨19, [0], [(0, .ls 0), (1, .l (.v (.func (.func 88) #[] #[])))], [(0, some (.ro 2 l.length (Lst eS l)))]⟩
  [] trivial ?_
 apply aw_seq
 apply aw_seq
 refine awr []
  ⟨19, [0], [(0, .ls 0), (1, .l (.v (.func (.func 88) #[] #[]))), (7, .i (l.length : Int)), (8, .i 0)], [(0, some (.ro 2 l.length (Lst eS l)))]⟩
  [] trivial ?_
 apply aw_block
 refine aw_loop (ι := Nat) (fun zz => ⟨19, [0], [(0, .ls 0), (1, .l (.v (.func (.func 88) #[] #[]))), (7, .i (l.length : Int)), (8, .i (zz : Int))], [(0, some (.ro 2 l.length (Lst eS l)))]⟩) (fun zz => (zz ≤ l.length) ∧ (∀ j, j < zz → spotOut (ix l j) = false)) (fun zz => l.length - zz) 0 ⟨(by first | omega | rfl | assumption | (simp; done)), (by intro j hj; omega)⟩
     (enr [] ⟨rfl, rfl, rfl, rfl, trivial⟩ (cro rfl trivial)) fun zz hp => ?_
 obtain ⟨i, rfl⟩ : ∃ x, x = zz := ⟨_, rfl⟩
 obtain ⟨hiL, hp⟩ := hp
 show AW _ E _ _ ⟨19, [0], [(0, .ls 0), (1, .l (.v (.func (.func 88) #[] #[]))), (7, .i (l.length : Int)), (8, .i (i : Int))], [(0, some (.ro 2 l.length (Lst eS l)))]⟩
 apply aw_seq
 refine awr []
  ⟨19, [0], [(0, .ls 0), (1, .l (.v (.func (.func 88) #[] #[]))), (7, .i (l.length : Int)), (8, .i (i : Int)), (9, .b (decide ((i : Int) < (l.length : Int))))], [(0, some (.ro 2 l.length (Lst eS l)))]⟩
  [] trivial ?_
 apply aw_seq
 refine aw_cond (b := decide ((i : Int) < (l.length : Int))) rfl (fun h1 => ?_) (fun h1 => ?_)
 ·
  have h1p : (i : Int) < (l.length : Int) := dtr h1
  apply aw_skip
  apply aw_seq
  apply aw_block
  apply aw_seq
  refine awr []
   ⟨19, [0], [(0, .ls 0), (1, .l (.v (.func (.func 88) #[] #[]))), (5, .i (i : Int)), (7, .i (l.length : Int)), (8, .i (i : Int))], [(0, some (.ro 2 l.length (Lst eS l)))]⟩
   [] trivial ?_
  apply aw_seq
  refine awr [(3, .idx i), (5, .act [] (.b (spotOut (ix l i))) [])]
   ⟨19, [0], [(0, .ls 0), (1, .l (.v (.func (.func 88) #[] #[]))), (5, .i (i : Int)), (7, .i (l.length : Int)), (8, .i (i : Int)), (16, .b (spotOut (ix l i)))], [(0, some (.ro 2 l.length (Lst eS l)))]⟩
   [(i : Int) = (i : Int), i < l.length, i < l.length, ActOK Try.prog (.call ⟨.value (.tmp 11), #[(.tmp 15)], #[72]⟩) 4 [.l (.v (.func (.func 88) #[] #[])), .agg [.i ((ix l i).angle), .i ((ix l i).height)]] [] [] (.b (spotOut (ix l i))) []] (al2 (by omega) (al2 (by omega) (al2 (by omega) (al1 (act_callf (by kernel_rfl) (cfr (spot1_fr (ix l i)) [] dem_nil)))))) ?_
  refine aw_cond (b := (spotOut (ix l i))) rfl (fun h2 => ?_) (fun h2 => ?_)
  ·
   apply aw_seq
   refine awr []
    ⟨19, [0], [(4, .i (i : Int))], []⟩
    [] trivial ?_
   exact aw_ret (ret_block (ret_then (ret_then (ret_block (ret_then ⟨.inr rfl, eok ⟨19, [0], [(4, .i (findI spotOut l))], []⟩
       (enr [] ⟨(slot_i rfl (by first | rfl | omega | assumption | (exact findI_at hp (by omega) (by assumption)) | (exact findI_no hp (by omega)))), trivial⟩ trivial) wr_nil⟩)))))
  ·
   apply aw_skip
   refine awr [(0, .num (((i + 1) : Nat) : Int))]
    ⟨19, [0], [(0, .ls 0), (1, .l (.v (.func (.func 88) #[] #[]))), (7, .i (l.length : Int)), (8, .i (((i + 1) : Nat) : Int))], [(0, some (.ro 2 l.length (Lst eS l)))]⟩
    [((i : Int) + 1) = (((i + 1) : Nat) : Int), -9223372036854775808 ≤ (((i + 1) : Nat) : Int) ∧ (((i + 1) : Nat) : Int) < 9223372036854775808] (al2 (by omega) (al1 (by omega))) ?_
   exact ⟨(i + 1), ⟨(by first | omega | rfl | assumption | (simp; done)), (by exact all_snoc hp h2)⟩, (show l.length - (i + 1) < l.length - i by first | omega | rfl | assumption),
       (enr [] ⟨rfl, rfl, rfl, rfl, trivial⟩ (cro rfl trivial))⟩
 ·
  have h1p : (l.length : Int) ≤ (i : Int) := dlt h1
  refine aw_exit (exit_then (exit_then (exit_in ?_)))
  apply aw_seq
  refine awr []
   ⟨19, [0], [(4, .i (-1))], []⟩
   [] trivial ?_
  exact aw_ret ⟨.inr rfl, eok ⟨19, [0], [(4, .i (findI spotOut l))], []⟩
      (enr [] ⟨(slot_i rfl (by first | rfl | omega | assumption | (exact findI_at hp (by omega) (by assumption)) | (exact findI_no hp (by omega)))), trivial⟩ trivial) wr_nil⟩
set_option maxRecDepth 100000 in
theorem spots_any   (l : List Spt) (hl : l.length ≤ 1000000)  : CallFr Try.prog 87 [.ls 0, .l (.v (.func (.func 88) #[] #[]))] [0] [some (.ro 2 l.length (Lst eS l))] (.b (l.any spotOut)) [] := by
 refine callFr_of (fn := Try.f87) (by kernel_rfl) rfl (by kernel_rfl) (by kernel_rfl) fun E => ?_
 refine aw_ent (T := ⟨9, [0], [(0, .ls 0), (1, .l (.v (.func (.func 88) #[] #[])))], [(0, some (.ro 2 l.length (Lst eS l)))]⟩) (Ent.refl _) ?_
 apply aw_seq
 refine awr []
  ⟨9, [0], [(0, .ls 0), (1, .l (.v (.func (.func 88) #[] #[])))], [(0, some (.ro 2 l.length (Lst eS l)))]⟩
  [] trivial ?_
 apply aw_seq
 refine awr [(2, .call [0] (.i (findI spotOut l)) [])]
  ⟨9, [0], [(4, .b (decide (0 ≤ (findI spotOut l))))], []⟩
  [CallOK Try.prog 106 [.ls 0, .l (.v (.func (.func 88) #[] #[]))] [0] [some (.ro 2 l.length (Lst eS l))] (.i (findI spotOut l)) []] (al1 (cfr (spots_ix   l hl ) [(0, 0)] (dem_cons rfl (le_ro rfl el_rfl) dem_nil))) ?_
 exact aw_ret ⟨.inr rfl, eok ⟨9, [0], [(4, .b (l.any spotOut))], []⟩
     (enr [] ⟨(slot_b (a := decide (0 ≤ (findI spotOut l))) rfl (by first | rfl | omega | assumption | (exact findI_any))), trivial⟩ trivial) wr_nil⟩
set_option maxRecDepth 100000 in
theorem areSpots_fr (l : List Spt) (hl : l.length ≤ 1000000) : CallFr Try.prog 56 [.ls 0] [0] [some (.ro 2 l.length (Lst eS l))] (.b (spotsB l)) [] := by
 refine callFr_of (fn := Try.f56) (by kernel_rfl) rfl (by kernel_rfl) (by kernel_rfl) fun E => ?_
 refine aw_ent (T := ⟨6, [0], [(0, .ls 0)], [(0, some (.ro 2 l.length (Lst eS l)))]⟩) (Ent.refl _) ?_
 apply aw_seq
 refine awr []
  ⟨6, [0], [(0, .ls 0)], [(0, some (.ro 2 l.length (Lst eS l)))]⟩
  [] trivial ?_
 apply aw_seq
 refine awr [(1, .call [0] (.b (l.any spotOut)) [])]
  ⟨6, [0], [(2, .b (!(l.any spotOut)))], []⟩
  [CallOK Try.prog 87 [.ls 0, .l (.v (.func (.func 88) #[] #[]))] [0] [some (.ro 2 l.length (Lst eS l))] (.b (l.any spotOut)) []] (al1 (cfr (spots_any   l (by first | omega | (simp; done) | decide | (rw [List.length_take]; omega)) ) [(0, 0)] (dem_cons rfl (le_ro rfl el_rfl) dem_nil))) ?_
 exact aw_ret ⟨.inr rfl, eok ⟨6, [0], [(2, .b (spotsB l))], []⟩
     (enr [] ⟨(slot_b (a := (!(l.any spotOut))) rfl (by first | rfl | omega | assumption | (rfl))), trivial⟩ trivial) wr_nil⟩
def hole1_frK1 (h : Hol) : Cn := .blk 74 [.i h.year, .i h.angle, .i h.height]
def hole1_frK2 (h : Hol) : Cn := .vec 72 2 1 (exEl 2 [.i h.angle, .i h.height])
set_option maxRecDepth 100000 in
theorem hole1_fr (h : Hol) : CallFr Try.prog 54 [.agg [.i h.year, .i h.angle, .i h.height]] [] [] (.b (holeOut h)) [] := by
 refine callFr_of (fn := Try.f54) (by kernel_rfl) rfl (by kernel_rfl) (by kernel_rfl) fun E => ?_
 refine aw_ent (T := ⟨15, [], [(0, .agg [.i h.year, .i h.angle, .i h.height])], []⟩) (Ent.refl _) ?_
 apply aw_seq
 refine awr [(0, .new 1001)]
  ⟨15, [], [(1, .l (.ref 1001 0))], [(1001, some (hole1_frK1 h))]⟩
  [] trivial ?_
 apply aw_seq
 rcases Bool.eq_false_or_eq_true ((!(within 0 9999 ([h.year])))) with h1 | h1
 ·
  refine awr [(2, .new 1005), (3, .call [1005] (.b (within 0 9999 ([h.year]))) []), (5, .dec true)]
   ⟨15, [], [(2, .b true)], []⟩
   [CallOK Try.prog 55 [.i 0, .i 9999, .ls 1005] [1005] [some (.vec 3 1 1 (exEl 1 [.i h.year]))] (.b (within 0 9999 ([h.year]))) [], (!(within 0 9999 ([h.year]))) = true] (al2 (cfr (within_fr 0 9999 ([h.year]) (by first | omega | (simp; done) | decide)) [(0, 1005)] (dem_cons rfl (le_vec_ro (by first | omega | rfl | assumption) (fun | 0, _ => (fun | 0, _ => rfl | (_n + 1), h => absurd h (by omega)) | (_n + 1), h => absurd h (by omega))) dem_nil)) (al1 h1)) ?_
  exact aw_ret ⟨.inr rfl, eok ⟨15, [], [(2, .b (holeOut h))], []⟩
      (enr [] ⟨(slot_b (a := true) rfl (by first | rfl | omega | assumption | (simp [holeOut, *]))), trivial⟩ trivial) wr_nil⟩
 ·
  refine awr [(2, .new 1005), (3, .call [1005] (.b (within 0 9999 ([h.year]))) []), (5, .dec false), (8, .new 1011), (9, .call [1011] (.b (spotsB ([(⟨h.angle, h.height⟩ : Spt)]))) [])]
   ⟨15, [], [(2, .b (!(spotsB ([(⟨h.angle, h.height⟩ : Spt)]))))], []⟩
   [CallOK Try.prog 55 [.i 0, .i 9999, .ls 1005] [1005] [some (.vec 3 1 1 (exEl 1 [.i h.year]))] (.b (within 0 9999 ([h.year]))) [], (!(within 0 9999 ([h.year]))) = false, CallOK Try.prog 56 [.ls 1011] [1011] [some (hole1_frK2 h)] (.b (spotsB ([(⟨h.angle, h.height⟩ : Spt)]))) []] (al2 (cfr (within_fr 0 9999 ([h.year]) (by first | omega | (simp; done) | decide)) [(0, 1005)] (dem_cons rfl (le_vec_ro (by first | omega | rfl | assumption) (fun | 0, _ => (fun | 0, _ => rfl | (_n + 1), h => absurd h (by omega)) | (_n + 1), h => absurd h (by omega))) dem_nil)) (al2 h1 (al1 (cfr (areSpots_fr ([(⟨h.angle, h.height⟩ : Spt)]) (by first | omega | (simp; done) | decide)) [(0, 1011)] (dem_cons rfl (le_vec_ro (by first | omega | rfl | assumption) (fun | 0, _ => (fun | 0, _ => rfl | 1, _ => rfl | (_n + 2), h => absurd h (by omega)) | (_n + 1), h => absurd h (by omega))) dem_nil))))) ?_
  exact aw_ret ⟨.inr rfl, eok ⟨15, [], [(2, .b (holeOut h))], []⟩
      (enr [] ⟨(slot_b (a := (!(spotsB ([(⟨h.angle, h.height⟩ : Spt)])))) rfl (by first | rfl | omega | assumption | (simp [holeOut, *]))), trivial⟩ trivial) wr_nil⟩
def holes_ixA1 (l : List Hol) (i : Nat) : SV := .agg [.i ((ix l i).year), .i ((ix l i).angle), .i ((ix l i).height)]
set_option maxRecDepth 100000 in
theorem holes_ix   (l : List Hol) (hl : l.length ≤ 1000000)  : CallFr Try.prog 89 [.ls 0, .l (.v (.func (.func 54) #[] #[]))] [0] [some (.ro 3 l.length (Lst eH l))] (.i (findI holeOut l)) [] := by
 refine callFr_of (fn := Try.f89) (by kernel_rfl) rfl (by kernel_rfl) (by kernel_rfl) fun E => ?_
 refine aw_ent (T := ⟨19, [0], [(0, .ls 0), (1, .l (.v (.func (.func 54) #[] #[])))], [(0, some (.ro 3 l.length (Lst eH l)))]⟩) (Ent.refl _) ?_
 apply aw_seq
 refine awr []
  ⟨19, [0], [(0, .ls 0), (1, .l (.v (.func (.func 54) #[] #[])))], [(0, some (.ro 3 l.length (Lst eH l)))]⟩
  [] trivial ?_
 apply aw_seq
 apply aw_seq
 refine awr []
  ⟨19, [0], [(0, .ls 0), (1, .l (.v (.func (.func 54) #[] #[]))), (7, .i (l.length : Int)), (8, .i 0)], [(0, some (.ro 3 l.length (Lst eH l)))]⟩
  [] trivial ?_
 apply aw_block
 refine aw_loop (ι := Nat) (fun zz => ⟨19, [0], [(0, .ls 0), (1, .l (.v (.func (.func 54) #[] #[]))), (7, .i (l.length : Int)), (8, .i (zz : Int))], [(0, some (.ro 3 l.length (Lst eH l)))]⟩) (fun zz => (zz ≤ l.length) ∧ (∀ j, j < zz → holeOut (ix l j) = false)) (fun zz => l.length - zz) 0 ⟨(by first | omega | rfl | assumption | (simp; done)), (by intro j hj; omega)⟩
     (enr [] ⟨rfl, rfl, rfl, rfl, trivial⟩ (cro rfl trivial)) fun zz hp => ?_
 obtain ⟨i, rfl⟩ : ∃ x, x = zz := ⟨_, rfl⟩
 obtain ⟨hiL, hp⟩ := hp
 show AW _ E _ _ ⟨19, [0], [(0, .ls 0), (1, .l (.v (.func (.func 54) #[] #[]))), (7, .i (l.length : Int)), (8, .i (i : Int))], [(0, some (.ro 3 l.length (Lst eH l)))]⟩
 apply aw_seq
 refine awr []
  ⟨19, [0], [(0, .ls 0), (1, .l (.v (.func (.func 54) #[] #[]))), (7, .i (l.length : Int)), (8, .i (i : Int)), (9, .b (decide ((i : Int) < (l.length : Int))))], [(0, some (.ro 3 l.length (Lst eH l)))]⟩
  [] trivial ?_
 apply aw_seq
 refine aw_cond (b := decide ((i : Int) < (l.length : Int))) rfl (fun h1 => ?_) (fun h1 => ?_)
 ·
  have h1p : (i : Int) < (l.length : Int) := dtr h1
  apply aw_skip
  apply aw_seq
  apply aw_block
  apply aw_seq
  refine awr []
   ⟨19, [0], [(0, .ls 0), (1, .l (.v (.func (.func 54) #[] #[]))), (5, .i (i : Int)), (7, .i (l.length : Int)), (8, .i (i : Int))], [(0, some (.ro 3 l.length (Lst eH l)))]⟩
   [] trivial ?_
  apply aw_seq
  refine awr [(3, .idx i), (5, .act [] (.b (holeOut (ix l i))) [])]
   ⟨19, [0], [(0, .ls 0), (1, .l (.v (.func (.func 54) #[] #[]))), (5, .i (i : Int)), (7, .i (l.length : Int)), (8, .i (i : Int)), (16, .b (holeOut (ix l i)))], [(0, some (.ro 3 l.length (Lst eH l)))]⟩
   [(i : Int) = (i : Int), i < l.length, i < l.length, ActOK Try.prog (.call ⟨.value (.tmp 11), #[(.tmp 15)], #[74]⟩) 4 [.l (.v (.func (.func 54) #[] #[])), (holes_ixA1 l i)] [] [] (.b (holeOut (ix l i))) []] (al2 (by omega) (al2 (by omega) (al2 (by omega) (al1 (act_callf (by kernel_rfl) (cfr (hole1_fr (ix l i)) [] dem_nil)))))) ?_
  refine aw_cond (b := (holeOut (ix l i))) rfl (fun h2 => ?_) (fun h2 => ?_)
  ·
   apply aw_seq
   refine awr []
    ⟨19, [0], [(4, .i (i : Int))], []⟩
    [] trivial ?_
   exact aw_ret (ret_block (ret_then (ret_then (ret_block (ret_then ⟨.inr rfl, eok ⟨19, [0], [(4, .i (findI holeOut l))], []⟩
       (enr [] ⟨(slot_i rfl (by first | rfl | omega | assumption | (exact findI_at hp (by omega) (by assumption)) | (exact findI_no hp (by omega)))), trivial⟩ trivial) wr_nil⟩)))))
  ·
   apply aw_skip
   refine awr [(0, .num (((i + 1) : Nat) : Int))]
    ⟨19, [0], [(0, .ls 0), (1, .l (.v (.func (.func 54) #[] #[]))), (7, .i (l.length : Int)), (8, .i (((i + 1) : Nat) : Int))], [(0, some (.ro 3 l.length (Lst eH l)))]⟩
    [((i : Int) + 1) = (((i + 1) : Nat) : Int), -9223372036854775808 ≤ (((i + 1) : Nat) : Int) ∧ (((i + 1) : Nat) : Int) < 9223372036854775808] (al2 (by omega) (al1 (by omega))) ?_
   exact ⟨(i + 1), ⟨(by first | omega | rfl | assumption | (simp; done)), (by exact all_snoc hp h2)⟩, (show l.length - (i + 1) < l.length - i by first | omega | rfl | assumption),
       (enr [] ⟨rfl, rfl, rfl, rfl, trivial⟩ (cro rfl trivial))⟩
 ·
  have h1p : (l.length : Int) ≤ (i : Int) := dlt h1
  refine aw_exit (exit_then (exit_then (exit_in ?_)))
  apply aw_seq
  refine awr []
   ⟨19, [0], [(4, .i (-1))], []⟩
   [] trivial ?_
  exact aw_ret ⟨.inr rfl, eok ⟨19, [0], [(4, .i (findI holeOut l))], []⟩
      (enr [] ⟨(slot_i rfl (by first | rfl | omega | assumption | (exact findI_at hp (by omega) (by assumption)) | (exact findI_no hp (by omega)))), trivial⟩ trivial) wr_nil⟩
set_option maxRecDepth 100000 in
theorem holes_any   (l : List Hol) (hl : l.length ≤ 1000000)  : CallFr Try.prog 58 [.ls 0, .l (.v (.func (.func 54) #[] #[]))] [0] [some (.ro 3 l.length (Lst eH l))] (.b (l.any holeOut)) [] := by
 refine callFr_of (fn := Try.f58) (by kernel_rfl) rfl (by kernel_rfl) (by kernel_rfl) fun E => ?_
 refine aw_ent (T := ⟨9, [0], [(0, .ls 0), (1, .l (.v (.func (.func 54) #[] #[])))], [(0, some (.ro 3 l.length (Lst eH l)))]⟩) (Ent.refl _) ?_
 apply aw_seq
 refine awr []
  ⟨9, [0], [(0, .ls 0), (1, .l (.v (.func (.func 54) #[] #[])))], [(0, some (.ro 3 l.length (Lst eH l)))]⟩
  [] trivial ?_
 apply aw_seq
 refine awr [(2, .call [0] (.i (findI holeOut l)) [])]
  ⟨9, [0], [(4, .b (decide (0 ≤ (findI holeOut l))))], []⟩
  [CallOK Try.prog 89 [.ls 0, .l (.v (.func (.func 54) #[] #[]))] [0] [some (.ro 3 l.length (Lst eH l))] (.i (findI holeOut l)) []] (al1 (cfr (holes_ix   l hl ) [(0, 0)] (dem_cons rfl (le_ro rfl el_rfl) dem_nil))) ?_
 exact aw_ret ⟨.inr rfl, eok ⟨9, [0], [(4, .b (l.any holeOut))], []⟩
     (enr [] ⟨(slot_b (a := decide (0 ≤ (findI holeOut l))) rfl (by first | rfl | omega | assumption | (exact findI_any))), trivial⟩ trivial) wr_nil⟩
def CheckTree_frA1 (t : TreeV) : SV := .agg [.i t.year, .i t.glo, .i t.ghi, .i t.wlo, .i t.whi, .i t.health, .ls 1]
def CheckTree_frK2 (t : TreeV) : Cn := .ro 3 t.holes.length (Lst eH t.holes)
def CheckTree_frK3 (t : TreeV) : Cn := .blk 26 [.i t.year, .i t.glo, .i t.ghi, .i t.wlo, .i t.whi, .i t.health, .ls 1]
def CheckTree_frH4 (t : TreeV) : List (Nat × Option Cn) := [(1, some (CheckTree_frK2 t)), (1001, some (CheckTree_frK3 t))]
def CheckTree_frK5 (t : TreeV) : Cn := .vec 3 1 1 (exEl 1 [.i t.health])
set_option maxRecDepth 100000 in
theorem CheckTree_fr (t : TreeV) (ht : t.holes.length ≤ 1000000) : CallFr Try.prog 17 [(CheckTree_frA1 t)] [1] [some (.ro 3 t.holes.length (Lst eH t.holes))] (.i (treeE t)) [] := by
 refine callFr_of (fn := Try.f17) (by kernel_rfl) rfl (by kernel_rfl) (by kernel_rfl) fun E => ?_
 refine aw_ent (T := ⟨40, [1], [(0, (CheckTree_frA1 t))], [(1, some (CheckTree_frK2 t))]⟩) (Ent.refl _) ?_
 apply aw_seq
 refine awr [(0, .new 1001)]
  ⟨40, [1], [(1, .l (.ref 1001 0))], (CheckTree_frH4 t)⟩
  [] trivial ?_
 apply aw_seq
 refine awr []
  ⟨40, [1], [(1, .l (.ref 1001 0)), (3, .l (.v (.func (.func 54) #[] #[])))], (CheckTree_frH4 t)⟩
  [] trivial ?_
 apply aw_seq
 apply aw_seq
 rcases Bool.eq_false_or_eq_true ((!(within 0 9999 ([t.year])))) with h1 | h1
 ·
  refine awr [(2, .new 1006), (3, .call [1006] (.b (within 0 9999 ([t.year]))) []), (5, .dec true)]
   ⟨40, [1], [(39, .b true)], []⟩
   [CallOK Try.prog 55 [.i 0, .i 9999, .ls 1006] [1006] [some (.vec 3 1 1 (exEl 1 [.i t.year]))] (.b (within 0 9999 ([t.year]))) [], (!(within 0 9999 ([t.year]))) = true] (al2 (cfr (within_fr 0 9999 ([t.year]) (by first | omega | (simp; done) | decide)) [(0, 1006)] (dem_cons rfl (le_vec_ro (by first | omega | rfl | assumption) (fun | 0, _ => (fun | 0, _ => rfl | (_n + 1), h => absurd h (by omega)) | (_n + 1), h => absurd h (by omega))) dem_nil)) (al1 h1)) ?_
  refine aw_true rfl ?_
  apply aw_seq
  refine awr []
   ⟨40, [1], [(2, .i 2)], []⟩
   [] trivial ?_
  exact aw_ret (ret_then ⟨.inr rfl, eok ⟨40, [1], [(2, .i (treeE t))], []⟩
      (enr [] ⟨(slot_i rfl (by first | rfl | omega | assumption | (simp_all [treeE, treeB]))), trivial⟩ trivial) wr_nil⟩)
 ·
  rcases Bool.eq_false_or_eq_true ((!(rangeB t.glo t.ghi 1 10000))) with h2 | h2
  ·
   refine awr [(2, .new 1006), (3, .call [1006] (.b (within 0 9999 ([t.year]))) []), (5, .dec false), (8, .call [] (.b (rangeB t.glo t.ghi 1 10000)) []), (11, .dec true)]
    ⟨40, [1], [(39, .b true)], []⟩
    [CallOK Try.prog 55 [.i 0, .i 9999, .ls 1006] [1006] [some (.vec 3 1 1 (exEl 1 [.i t.year]))] (.b (within 0 9999 ([t.year]))) [], (!(within 0 9999 ([t.year]))) = false, CallOK Try.prog 57 [.agg [.i t.glo, .i t.ghi], .i 1, .i 10000] [] [] (.b (rangeB t.glo t.ghi 1 10000)) [], (!(rangeB t.glo t.ghi 1 10000)) = true] (al2 (cfr (within_fr 0 9999 ([t.year]) (by first | omega | (simp; done) | decide)) [(0, 1006)] (dem_cons rfl (le_vec_ro (by first | omega | rfl | assumption) (fun | 0, _ => (fun | 0, _ => rfl | (_n + 1), h => absurd h (by omega)) | (_n + 1), h => absurd h (by omega))) dem_nil)) (al2 h1 (al2 (cfr (isRange_fr t.glo t.ghi 1 10000) [] dem_nil) (al1 h2)))) ?_
   refine aw_true rfl ?_
   apply aw_seq
   refine awr []
    ⟨40, [1], [(2, .i 2)], []⟩
    [] trivial ?_
   exact aw_ret (ret_then ⟨.inr rfl, eok ⟨40, [1], [(2, .i (treeE t))], []⟩
       (enr [] ⟨(slot_i rfl (by first | rfl | omega | assumption | (simp_all [treeE, treeB]))), trivial⟩ trivial) wr_nil⟩)
  ·
   rcases Bool.eq_false_or_eq_true ((!(rangeB t.wlo t.whi 0 10000))) with h3 | h3
   ·
    refine awr [(2, .new 1006), (3, .call [1006] (.b (within 0 9999 ([t.year]))) []), (5, .dec false), (8, .call [] (.b (rangeB t.glo t.ghi 1 10000)) []), (11, .dec false), (14, .call [] (.b (rangeB t.wlo t.whi 0 10000)) []), (17, .dec true)]
     ⟨40, [1], [(39, .b true)], []⟩
     [CallOK Try.prog 55 [.i 0, .i 9999, .ls 1006] [1006] [some (.vec 3 1 1 (exEl 1 [.i t.year]))] (.b (within 0 9999 ([t.year]))) [], (!(within 0 9999 ([t.year]))) = false, CallOK Try.prog 57 [.agg [.i t.glo, .i t.ghi], .i 1, .i 10000] [] [] (.b (rangeB t.glo t.ghi 1 10000)) [], (!(rangeB t.glo t.ghi 1 10000)) = false, CallOK Try.prog 57 [.agg [.i t.wlo, .i t.whi], .i 0, .i 10000] [] [] (.b (rangeB t.wlo t.whi 0 10000)) [], (!(rangeB t.wlo t.whi 0 10000)) = true] (al2 (cfr (within_fr 0 9999 ([t.year]) (by first | omega | (simp; done) | decide)) [(0, 1006)] (dem_cons rfl (le_vec_ro (by first | omega | rfl | assumption) (fun | 0, _ => (fun | 0, _ => rfl | (_n + 1), h => absurd h (by omega)) | (_n + 1), h => absurd h (by omega))) dem_nil)) (al2 h1 (al2 (cfr (isRange_fr t.glo t.ghi 1 10000) [] dem_nil) (al2 h2 (al2 (cfr (isRange_fr t.wlo t.whi 0 10000) [] dem_nil) (al1 h3)))))) ?_
    refine aw_true rfl ?_
    apply aw_seq
    refine awr []
     ⟨40, [1], [(2, .i 2)], []⟩
     [] trivial ?_
    exact aw_ret (ret_then ⟨.inr rfl, eok ⟨40, [1], [(2, .i (treeE t))], []⟩
        (enr [] ⟨(slot_i rfl (by first | rfl | omega | assumption | (simp_all [treeE, treeB]))), trivial⟩ trivial) wr_nil⟩)
   ·
    rcases Bool.eq_false_or_eq_true ((!(within 0 4 ([t.health])))) with h4 | h4
    ·
     refine awr [(2, .new 1006), (3, .call [1006] (.b (within 0 9999 ([t.year]))) []), (5, .dec false), (8, .call [] (.b (rangeB t.glo t.ghi 1 10000)) []), (11, .dec false), (14, .call [] (.b (rangeB t.wlo t.whi 0 10000)) []), (17, .dec false), (20, .new 1024), (21, .call [1024] (.b (within 0 4 ([t.health]))) []), (24, .dec true)]
      ⟨40, [1], [(39, .b true)], []⟩
      [CallOK Try.prog 55 [.i 0, .i 9999, .ls 1006] [1006] [some (.vec 3 1 1 (exEl 1 [.i t.year]))] (.b (within 0 9999 ([t.year]))) [], (!(within 0 9999 ([t.year]))) = false, CallOK Try.prog 57 [.agg [.i t.glo, .i t.ghi], .i 1, .i 10000] [] [] (.b (rangeB t.glo t.ghi 1 10000)) [], (!(rangeB t.glo t.ghi 1 10000)) = false, CallOK Try.prog 57 [.agg [.i t.wlo, .i t.whi], .i 0, .i 10000] [] [] (.b (rangeB t.wlo t.whi 0 10000)) [], (!(rangeB t.wlo t.whi 0 10000)) = false, CallOK Try.prog 55 [.i 0, .i 4, .ls 1024] [1024] [some (CheckTree_frK5 t)] (.b (within 0 4 ([t.health]))) [], (!(within 0 4 ([t.health]))) = true] (al2 (cfr (within_fr 0 9999 ([t.year]) (by first | omega | (simp; done) | decide)) [(0, 1006)] (dem_cons rfl (le_vec_ro (by first | omega | rfl | assumption) (fun | 0, _ => (fun | 0, _ => rfl | (_n + 1), h => absurd h (by omega)) | (_n + 1), h => absurd h (by omega))) dem_nil)) (al2 h1 (al2 (cfr (isRange_fr t.glo t.ghi 1 10000) [] dem_nil) (al2 h2 (al2 (cfr (isRange_fr t.wlo t.whi 0 10000) [] dem_nil) (al2 h3 (al2 (cfr (within_fr 0 4 ([t.health]) (by first | omega | (simp; done) | decide)) [(0, 1024)] (dem_cons rfl (le_vec_ro (by first | omega | rfl | assumption) (fun | 0, _ => (fun | 0, _ => rfl | (_n + 1), h => absurd h (by omega)) | (_n + 1), h => absurd h (by omega))) dem_nil)) (al1 h4)))))))) ?_
     refine aw_true rfl ?_
     apply aw_seq
     refine awr []
      ⟨40, [1], [(2, .i 2)], []⟩
      [] trivial ?_
     exact aw_ret (ret_then ⟨.inr rfl, eok ⟨40, [1], [(2, .i (treeE t))], []⟩
         (enr [] ⟨(slot_i rfl (by first | rfl | omega | assumption | (simp_all [treeE, treeB]))), trivial⟩ trivial) wr_nil⟩)
    ·
     rcases Bool.eq_false_or_eq_true (decide (60 < (t.holes.length : Int))) with h5 | h5
     ·
      have h5p : 60 < (t.holes.length : Int) := dtr h5
      refine awr [(2, .new 1006), (3, .call [1006] (.b (within 0 9999 ([t.year]))) []), (5, .dec false), (8, .call [] (.b (rangeB t.glo t.ghi 1 10000)) []), (11, .dec false), (14, .call [] (.b (rangeB t.wlo t.whi 0 10000)) []), (17, .dec false), (20, .new 1024), (21, .call [1024] (.b (within 0 4 ([t.health]))) []), (24, .dec false), (30, .dec true)]
       ⟨40, [1], [(39, .b true)], []⟩
       [CallOK Try.prog 55 [.i 0, .i 9999, .ls 1006] [1006] [some (.vec 3 1 1 (exEl 1 [.i t.year]))] (.b (within 0 9999 ([t.year]))) [], (!(within 0 9999 ([t.year]))) = false, CallOK Try.prog 57 [.agg [.i t.glo, .i t.ghi], .i 1, .i 10000] [] [] (.b (rangeB t.glo t.ghi 1 10000)) [], (!(rangeB t.glo t.ghi 1 10000)) = false, CallOK Try.prog 57 [.agg [.i t.wlo, .i t.whi], .i 0, .i 10000] [] [] (.b (rangeB t.wlo t.whi 0 10000)) [], (!(rangeB t.wlo t.whi 0 10000)) = false, CallOK Try.prog 55 [.i 0, .i 4, .ls 1024] [1024] [some (CheckTree_frK5 t)] (.b (within 0 4 ([t.health]))) [], (!(within 0 4 ([t.health]))) = false, decide (60 < (t.holes.length : Int)) = true] (al2 (cfr (within_fr 0 9999 ([t.year]) (by first | omega | (simp; done) | decide)) [(0, 1006)] (dem_cons rfl (le_vec_ro (by first | omega | rfl | assumption) (fun | 0, _ => (fun | 0, _ => rfl | (_n + 1), h => absurd h (by omega)) | (_n + 1), h => absurd h (by omega))) dem_nil)) (al2 h1 (al2 (cfr (isRange_fr t.glo t.ghi 1 10000) [] dem_nil) (al2 h2 (al2 (cfr (isRange_fr t.wlo t.whi 0 10000) [] dem_nil) (al2 h3 (al2 (cfr (within_fr 0 4 ([t.health]) (by first | omega | (simp; done) | decide)) [(0, 1024)] (dem_cons rfl (le_vec_ro (by first | omega | rfl | assumption) (fun | 0, _ => (fun | 0, _ => rfl | (_n + 1), h => absurd h (by omega)) | (_n + 1), h => absurd h (by omega))) dem_nil)) (al2 h4 (al1 h5))))))))) ?_
      refine aw_true rfl ?_
      apply aw_seq
      refine awr []
       ⟨40, [1], [(2, .i 2)], []⟩
       [] trivial ?_
      exact aw_ret (ret_then ⟨.inr rfl, eok ⟨40, [1], [(2, .i (treeE t))], []⟩
          (enr [] ⟨(slot_i rfl (by first | rfl | omega | assumption | (simp_all [treeE, treeB]))), trivial⟩ trivial) wr_nil⟩)
     ·
      have h5p : (t.holes.length : Int) ≤ 60 := dlt h5
      refine awr [(2, .new 1006), (3, .call [1006] (.b (within 0 9999 ([t.year]))) []), (5, .dec false), (8, .call [] (.b (rangeB t.glo t.ghi 1 10000)) []), (11, .dec false), (14, .call [] (.b (rangeB t.wlo t.whi 0 10000)) []), (17, .dec false), (20, .new 1024), (21, .call [1024] (.b (within 0 4 ([t.health]))) []), (24, .dec false), (30, .dec false), (34, .call [1] (.b (t.holes.any holeOut)) [])]
       ⟨40, [1], [(39, .b (t.holes.any holeOut))], []⟩
       [CallOK Try.prog 55 [.i 0, .i 9999, .ls 1006] [1006] [some (.vec 3 1 1 (exEl 1 [.i t.year]))] (.b (within 0 9999 ([t.year]))) [], (!(within 0 9999 ([t.year]))) = false, CallOK Try.prog 57 [.agg [.i t.glo, .i t.ghi], .i 1, .i 10000] [] [] (.b (rangeB t.glo t.ghi 1 10000)) [], (!(rangeB t.glo t.ghi 1 10000)) = false, CallOK Try.prog 57 [.agg [.i t.wlo, .i t.whi], .i 0, .i 10000] [] [] (.b (rangeB t.wlo t.whi 0 10000)) [], (!(rangeB t.wlo t.whi 0 10000)) = false, CallOK Try.prog 55 [.i 0, .i 4, .ls 1024] [1024] [some (CheckTree_frK5 t)] (.b (within 0 4 ([t.health]))) [], (!(within 0 4 ([t.health]))) = false, decide (60 < (t.holes.length : Int)) = false, CallOK Try.prog 58 [.ls 1, .l (.v (.func (.func 54) #[] #[]))] [1] [some (CheckTree_frK2 t)] (.b (t.holes.any holeOut)) []] (al2 (cfr (within_fr 0 9999 ([t.year]) (by first | omega | (simp; done) | decide)) [(0, 1006)] (dem_cons rfl (le_vec_ro (by first | omega | rfl | assumption) (fun | 0, _ => (fun | 0, _ => rfl | (_n + 1), h => absurd h (by omega)) | (_n + 1), h => absurd h (by omega))) dem_nil)) (al2 h1 (al2 (cfr (isRange_fr t.glo t.ghi 1 10000) [] dem_nil) (al2 h2 (al2 (cfr (isRange_fr t.wlo t.whi 0 10000) [] dem_nil) (al2 h3 (al2 (cfr (within_fr 0 4 ([t.health]) (by first | omega | (simp; done) | decide)) [(0, 1024)] (dem_cons rfl (le_vec_ro (by first | omega | rfl | assumption) (fun | 0, _ => (fun | 0, _ => rfl | (_n + 1), h => absurd h (by omega)) | (_n + 1), h => absurd h (by omega))) dem_nil)) (al2 h4 (al2 h5 (al1 (cfr (holes_any   t.holes (by first | omega | (simp; done) | decide | (rw [List.length_take]; omega)) ) [(0, 1)] (dem_cons rfl (le_ro rfl el_rfl) dem_nil)))))))))))) ?_
      refine aw_cond (b := (t.holes.any holeOut)) rfl (fun h6 => ?_) (fun h6 => ?_)
      ·
       apply aw_seq
       refine awr []
        ⟨40, [1], [(2, .i 2)], []⟩
        [] trivial ?_
       exact aw_ret (ret_then ⟨.inr rfl, eok ⟨40, [1], [(2, .i (treeE t))], []⟩
           (enr [] ⟨(slot_i rfl (by first | rfl | omega | assumption | (simp_all [treeE, treeB]))), trivial⟩ trivial) wr_nil⟩)
      ·
       apply aw_skip
       apply aw_seq
       refine awr []
        ⟨40, [1], [(2, .i 0)], []⟩
        [] trivial ?_
       exact aw_ret ⟨.inr rfl, eok ⟨40, [1], [(2, .i (treeE t))], []⟩
           (enr [] ⟨(slot_i rfl (by first | rfl | omega | assumption | (simp_all [treeE, treeB]))), trivial⟩ trivial) wr_nil⟩
def CheckRules_frA1 (r : RuleV) : SV := .agg [.i r.slo, .i r.shi, .i r.ulo, .i r.uhi, .i r.hlo, .i r.hhi, .i r.apart, .i r.blo, .i r.bhi, .ls 2, .i r.n0, .i r.n1, .i r.n2, .i r.n3, .i r.n4, .i r.opn]
def CheckRules_frK2 (r : RuleV) : Cn := .ro 2 r.sizes.length (Lst eZ r.sizes)
def CheckRules_frK3 (r : RuleV) : Cn := .blk 30 [.i r.slo, .i r.shi, .i r.ulo, .i r.uhi, .i r.hlo, .i r.hhi, .i r.apart, .i r.blo, .i r.bhi, .ls 2, .i r.n0, .i r.n1, .i r.n2, .i r.n3, .i r.n4, .i r.opn]
def CheckRules_frH4 (r : RuleV) : List (Nat × Option Cn) := [(2, some (CheckRules_frK2 r)), (1001, some (CheckRules_frK3 r))]
def CheckRules_frK5 (r : RuleV) : Cn := .rblk [.i r.slo, .i r.shi, .i r.ulo, .i r.uhi, .i r.hlo, .i r.hhi, .i r.apart, .i r.blo, .i r.bhi, .ls 2, .i r.n0, .i r.n1, .i r.n2, .i r.n3, .i r.n4, .i r.opn]
def CheckRules_frK6 (r : RuleV) : Cn := .ro 1 5 (exEl 1 [.i r.n0, .i r.n1, .i r.n2, .i r.n3, .i r.n4])
def CheckRules_frH7 (r : RuleV) : List (Nat × Option Cn) := [(2, some (CheckRules_frK2 r)), (1001, some (CheckRules_frK5 r))]
def CheckRules_frH8 (r : RuleV) : List (Nat × Option Cn) := [(2, some (CheckRules_frK2 r)), (1001, some (CheckRules_frK5 r)), (1003, some (.blk 45 [.i 0, .i 0]))]
def CheckRules_frH9 (r : RuleV) : List (Nat × Option Cn) := [(2, some (CheckRules_frK2 r)), (1003, some (.blk 45 [.i 0, .i 0]))]
def CheckRules_frH10 (r : RuleV) (bg : Int) (bt : Int) : List (Nat × Option Cn) := [(2, some (CheckRules_frK2 r)), (1003, some (.blk 45 [.i bg, .i bt]))]
def CheckRules_frK11 (r : RuleV) (i : Nat) : Cn := .blk 45 [.i ((ix r.sizes i).girth), .i ((ix r.sizes i).taps)]
def CheckRules_frH12 (r : RuleV) (bg : Int) (bt : Int) (i : Nat) : List (Nat × Option Cn) := [(2, some (CheckRules_frK2 r)), (1003, some (.blk 45 [.i bg, .i bt])), (1005, some (CheckRules_frK11 r i))]
def CheckRules_frK13 (r : RuleV) (i : Nat) : Cn := .vec 3 1 1 (exEl 1 [.i ((ix r.sizes i).girth)])
def CheckRules_frK14 (r : RuleV) (i : Nat) : Cn := .vec 3 1 1 (exEl 1 [.i ((ix r.sizes i).taps)])
def CheckRules_frH15 (r : RuleV) (i : Nat) : List (Nat × Option Cn) := [(2, some (CheckRules_frK2 r)), (1003, some (CheckRules_frK11 r i))]
set_option maxRecDepth 100000 in
theorem CheckRules_fr (r : RuleV) (hr : r.sizes.length ≤ 1000000) : CallFr Try.prog 18 [(CheckRules_frA1 r)] [2] [some (.ro 2 r.sizes.length (Lst eZ r.sizes))] (.i (ruleE r)) [] := by
 refine callFr_of (fn := Try.f18) (by kernel_rfl) rfl (by kernel_rfl) (by kernel_rfl) fun E => ?_
 refine aw_ent (T := ⟨80, [2], [(0, (CheckRules_frA1 r))], [(2, some (CheckRules_frK2 r))]⟩) (Ent.refl _) ?_
 apply aw_seq
 refine awr [(0, .new 1001)]
  ⟨80, [2], [(1, .l (.ref 1001 0))], (CheckRules_frH4 r)⟩
  [] trivial ?_
 apply aw_seq
 apply aw_seq
 rcases Bool.eq_false_or_eq_true ((!(rangeB r.slo r.shi 0 5000))) with h1 | h1
 ·
  refine awr [(2, .call [] (.b (rangeB r.slo r.shi 0 5000)) []), (4, .dec true)]
   ⟨80, [2], [(1, .l (.ref 1001 0)), (53, .b true)], (CheckRules_frH4 r)⟩
   [CallOK Try.prog 57 [.agg [.i r.slo, .i r.shi], .i 0, .i 5000] [] [] (.b (rangeB r.slo r.shi 0 5000)) [], (!(rangeB r.slo r.shi 0 5000)) = true] (al2 (cfr (isRange_fr r.slo r.shi 0 5000) [] dem_nil) (al1 h1)) ?_
  refine aw_true rfl ?_
  apply aw_seq
  refine awr []
   ⟨80, [2], [(2, .i 2)], []⟩
   [] trivial ?_
  exact aw_ret (ret_then ⟨.inr rfl, eok ⟨80, [2], [(2, .i (ruleE r))], []⟩
      (enr [] ⟨(slot_i rfl (by first | rfl | omega | assumption | (simp_all [ruleE, ruleB]))), trivial⟩ trivial) wr_nil⟩)
 ·
  rcases Bool.eq_false_or_eq_true ((!(rangeB r.ulo r.uhi 0 5000))) with h2 | h2
  ·
   refine awr [(2, .call [] (.b (rangeB r.slo r.shi 0 5000)) []), (4, .dec false), (7, .call [] (.b (rangeB r.ulo r.uhi 0 5000)) []), (10, .dec true)]
    ⟨80, [2], [(1, .l (.ref 1001 0)), (53, .b true)], (CheckRules_frH4 r)⟩
    [CallOK Try.prog 57 [.agg [.i r.slo, .i r.shi], .i 0, .i 5000] [] [] (.b (rangeB r.slo r.shi 0 5000)) [], (!(rangeB r.slo r.shi 0 5000)) = false, CallOK Try.prog 57 [.agg [.i r.ulo, .i r.uhi], .i 0, .i 5000] [] [] (.b (rangeB r.ulo r.uhi 0 5000)) [], (!(rangeB r.ulo r.uhi 0 5000)) = true] (al2 (cfr (isRange_fr r.slo r.shi 0 5000) [] dem_nil) (al2 h1 (al2 (cfr (isRange_fr r.ulo r.uhi 0 5000) [] dem_nil) (al1 h2)))) ?_
   refine aw_true rfl ?_
   apply aw_seq
   refine awr []
    ⟨80, [2], [(2, .i 2)], []⟩
    [] trivial ?_
   exact aw_ret (ret_then ⟨.inr rfl, eok ⟨80, [2], [(2, .i (ruleE r))], []⟩
       (enr [] ⟨(slot_i rfl (by first | rfl | omega | assumption | (simp_all [ruleE, ruleB]))), trivial⟩ trivial) wr_nil⟩)
  ·
   rcases Bool.eq_false_or_eq_true ((!(rangeB r.hlo r.hhi 0 100))) with h3 | h3
   ·
    refine awr [(2, .call [] (.b (rangeB r.slo r.shi 0 5000)) []), (4, .dec false), (7, .call [] (.b (rangeB r.ulo r.uhi 0 5000)) []), (10, .dec false), (13, .call [] (.b (rangeB r.hlo r.hhi 0 100)) []), (16, .dec true)]
     ⟨80, [2], [(1, .l (.ref 1001 0)), (53, .b true)], (CheckRules_frH4 r)⟩
     [CallOK Try.prog 57 [.agg [.i r.slo, .i r.shi], .i 0, .i 5000] [] [] (.b (rangeB r.slo r.shi 0 5000)) [], (!(rangeB r.slo r.shi 0 5000)) = false, CallOK Try.prog 57 [.agg [.i r.ulo, .i r.uhi], .i 0, .i 5000] [] [] (.b (rangeB r.ulo r.uhi 0 5000)) [], (!(rangeB r.ulo r.uhi 0 5000)) = false, CallOK Try.prog 57 [.agg [.i r.hlo, .i r.hhi], .i 0, .i 100] [] [] (.b (rangeB r.hlo r.hhi 0 100)) [], (!(rangeB r.hlo r.hhi 0 100)) = true] (al2 (cfr (isRange_fr r.slo r.shi 0 5000) [] dem_nil) (al2 h1 (al2 (cfr (isRange_fr r.ulo r.uhi 0 5000) [] dem_nil) (al2 h2 (al2 (cfr (isRange_fr r.hlo r.hhi 0 100) [] dem_nil) (al1 h3)))))) ?_
    refine aw_true rfl ?_
    apply aw_seq
    refine awr []
     ⟨80, [2], [(2, .i 2)], []⟩
     [] trivial ?_
    exact aw_ret (ret_then ⟨.inr rfl, eok ⟨80, [2], [(2, .i (ruleE r))], []⟩
        (enr [] ⟨(slot_i rfl (by first | rfl | omega | assumption | (simp_all [ruleE, ruleB]))), trivial⟩ trivial) wr_nil⟩)
   ·
    rcases Bool.eq_false_or_eq_true ((!(within 1 5000 ([r.apart])))) with h4 | h4
    ·
     refine awr [(2, .call [] (.b (rangeB r.slo r.shi 0 5000)) []), (4, .dec false), (7, .call [] (.b (rangeB r.ulo r.uhi 0 5000)) []), (10, .dec false), (13, .call [] (.b (rangeB r.hlo r.hhi 0 100)) []), (16, .dec false), (19, .new 1025), (20, .call [1025] (.b (within 1 5000 ([r.apart]))) []), (23, .dec true)]
      ⟨80, [2], [(1, .l (.ref 1001 0)), (53, .b true)], (CheckRules_frH4 r)⟩
      [CallOK Try.prog 57 [.agg [.i r.slo, .i r.shi], .i 0, .i 5000] [] [] (.b (rangeB r.slo r.shi 0 5000)) [], (!(rangeB r.slo r.shi 0 5000)) = false, CallOK Try.prog 57 [.agg [.i r.ulo, .i r.uhi], .i 0, .i 5000] [] [] (.b (rangeB r.ulo r.uhi 0 5000)) [], (!(rangeB r.ulo r.uhi 0 5000)) = false, CallOK Try.prog 57 [.agg [.i r.hlo, .i r.hhi], .i 0, .i 100] [] [] (.b (rangeB r.hlo r.hhi 0 100)) [], (!(rangeB r.hlo r.hhi 0 100)) = false, CallOK Try.prog 55 [.i 1, .i 5000, .ls 1025] [1025] [some (.vec 3 1 1 (exEl 1 [.i r.apart]))] (.b (within 1 5000 ([r.apart]))) [], (!(within 1 5000 ([r.apart]))) = true] (al2 (cfr (isRange_fr r.slo r.shi 0 5000) [] dem_nil) (al2 h1 (al2 (cfr (isRange_fr r.ulo r.uhi 0 5000) [] dem_nil) (al2 h2 (al2 (cfr (isRange_fr r.hlo r.hhi 0 100) [] dem_nil) (al2 h3 (al2 (cfr (within_fr 1 5000 ([r.apart]) (by first | omega | (simp; done) | decide)) [(0, 1025)] (dem_cons rfl (le_vec_ro (by first | omega | rfl | assumption) (fun | 0, _ => (fun | 0, _ => rfl | (_n + 1), h => absurd h (by omega)) | (_n + 1), h => absurd h (by omega))) dem_nil)) (al1 h4)))))))) ?_
     refine aw_true rfl ?_
     apply aw_seq
     refine awr []
      ⟨80, [2], [(2, .i 2)], []⟩
      [] trivial ?_
     exact aw_ret (ret_then ⟨.inr rfl, eok ⟨80, [2], [(2, .i (ruleE r))], []⟩
         (enr [] ⟨(slot_i rfl (by first | rfl | omega | assumption | (simp_all [ruleE, ruleB]))), trivial⟩ trivial) wr_nil⟩)
    ·
     rcases Bool.eq_false_or_eq_true ((!(rangeB r.blo r.bhi 0 5000))) with h5 | h5
     ·
      refine awr [(2, .call [] (.b (rangeB r.slo r.shi 0 5000)) []), (4, .dec false), (7, .call [] (.b (rangeB r.ulo r.uhi 0 5000)) []), (10, .dec false), (13, .call [] (.b (rangeB r.hlo r.hhi 0 100)) []), (16, .dec false), (19, .new 1025), (20, .call [1025] (.b (within 1 5000 ([r.apart]))) []), (23, .dec false), (26, .call [] (.b (rangeB r.blo r.bhi 0 5000)) []), (29, .dec true)]
       ⟨80, [2], [(1, .l (.ref 1001 0)), (53, .b true)], (CheckRules_frH4 r)⟩
       [CallOK Try.prog 57 [.agg [.i r.slo, .i r.shi], .i 0, .i 5000] [] [] (.b (rangeB r.slo r.shi 0 5000)) [], (!(rangeB r.slo r.shi 0 5000)) = false, CallOK Try.prog 57 [.agg [.i r.ulo, .i r.uhi], .i 0, .i 5000] [] [] (.b (rangeB r.ulo r.uhi 0 5000)) [], (!(rangeB r.ulo r.uhi 0 5000)) = false, CallOK Try.prog 57 [.agg [.i r.hlo, .i r.hhi], .i 0, .i 100] [] [] (.b (rangeB r.hlo r.hhi 0 100)) [], (!(rangeB r.hlo r.hhi 0 100)) = false, CallOK Try.prog 55 [.i 1, .i 5000, .ls 1025] [1025] [some (.vec 3 1 1 (exEl 1 [.i r.apart]))] (.b (within 1 5000 ([r.apart]))) [], (!(within 1 5000 ([r.apart]))) = false, CallOK Try.prog 57 [.agg [.i r.blo, .i r.bhi], .i 0, .i 5000] [] [] (.b (rangeB r.blo r.bhi 0 5000)) [], (!(rangeB r.blo r.bhi 0 5000)) = true] (al2 (cfr (isRange_fr r.slo r.shi 0 5000) [] dem_nil) (al2 h1 (al2 (cfr (isRange_fr r.ulo r.uhi 0 5000) [] dem_nil) (al2 h2 (al2 (cfr (isRange_fr r.hlo r.hhi 0 100) [] dem_nil) (al2 h3 (al2 (cfr (within_fr 1 5000 ([r.apart]) (by first | omega | (simp; done) | decide)) [(0, 1025)] (dem_cons rfl (le_vec_ro (by first | omega | rfl | assumption) (fun | 0, _ => (fun | 0, _ => rfl | (_n + 1), h => absurd h (by omega)) | (_n + 1), h => absurd h (by omega))) dem_nil)) (al2 h4 (al2 (cfr (isRange_fr r.blo r.bhi 0 5000) [] dem_nil) (al1 h5)))))))))) ?_
      refine aw_true rfl ?_
      apply aw_seq
      refine awr []
       ⟨80, [2], [(2, .i 2)], []⟩
       [] trivial ?_
      exact aw_ret (ret_then ⟨.inr rfl, eok ⟨80, [2], [(2, .i (ruleE r))], []⟩
          (enr [] ⟨(slot_i rfl (by first | rfl | omega | assumption | (simp_all [ruleE, ruleB]))), trivial⟩ trivial) wr_nil⟩)
     ·
      rcases Bool.eq_false_or_eq_true (decide (10 < (r.sizes.length : Int))) with h6 | h6
      ·
       have h6p : 10 < (r.sizes.length : Int) := dtr h6
       refine awr [(2, .call [] (.b (rangeB r.slo r.shi 0 5000)) []), (4, .dec false), (7, .call [] (.b (rangeB r.ulo r.uhi 0 5000)) []), (10, .dec false), (13, .call [] (.b (rangeB r.hlo r.hhi 0 100)) []), (16, .dec false), (19, .new 1025), (20, .call [1025] (.b (within 1 5000 ([r.apart]))) []), (23, .dec false), (26, .call [] (.b (rangeB r.blo r.bhi 0 5000)) []), (29, .dec false), (35, .dec true)]
        ⟨80, [2], [(1, .l (.ref 1001 0)), (53, .b true)], (CheckRules_frH4 r)⟩
        [CallOK Try.prog 57 [.agg [.i r.slo, .i r.shi], .i 0, .i 5000] [] [] (.b (rangeB r.slo r.shi 0 5000)) [], (!(rangeB r.slo r.shi 0 5000)) = false, CallOK Try.prog 57 [.agg [.i r.ulo, .i r.uhi], .i 0, .i 5000] [] [] (.b (rangeB r.ulo r.uhi 0 5000)) [], (!(rangeB r.ulo r.uhi 0 5000)) = false, CallOK Try.prog 57 [.agg [.i r.hlo, .i r.hhi], .i 0, .i 100] [] [] (.b (rangeB r.hlo r.hhi 0 100)) [], (!(rangeB r.hlo r.hhi 0 100)) = false, CallOK Try.prog 55 [.i 1, .i 5000, .ls 1025] [1025] [some (.vec 3 1 1 (exEl 1 [.i r.apart]))] (.b (within 1 5000 ([r.apart]))) [], (!(within 1 5000 ([r.apart]))) = false, CallOK Try.prog 57 [.agg [.i r.blo, .i r.bhi], .i 0, .i 5000] [] [] (.b (rangeB r.blo r.bhi 0 5000)) [], (!(rangeB r.blo r.bhi 0 5000)) = false, decide (10 < (r.sizes.length : Int)) = true] (al2 (cfr (isRange_fr r.slo r.shi 0 5000) [] dem_nil) (al2 h1 (al2 (cfr (isRange_fr r.ulo r.uhi 0 5000) [] dem_nil) (al2 h2 (al2 (cfr (isRange_fr r.hlo r.hhi 0 100) [] dem_nil) (al2 h3 (al2 (cfr (within_fr 1 5000 ([r.apart]) (by first | omega | (simp; done) | decide)) [(0, 1025)] (dem_cons rfl (le_vec_ro (by first | omega | rfl | assumption) (fun | 0, _ => (fun | 0, _ => rfl | (_n + 1), h => absurd h (by omega)) | (_n + 1), h => absurd h (by omega))) dem_nil)) (al2 h4 (al2 (cfr (isRange_fr r.blo r.bhi 0 5000) [] dem_nil) (al2 h5 (al1 h6))))))))))) ?_
       refine aw_true rfl ?_
       apply aw_seq
       refine awr []
        ⟨80, [2], [(2, .i 2)], []⟩
        [] trivial ?_
       exact aw_ret (ret_then ⟨.inr rfl, eok ⟨80, [2], [(2, .i (ruleE r))], []⟩
           (enr [] ⟨(slot_i rfl (by first | rfl | omega | assumption | (simp_all [ruleE, ruleB]))), trivial⟩ trivial) wr_nil⟩)
      ·
       have h6p : (r.sizes.length : Int) ≤ 10 := dlt h6
       rcases Bool.eq_false_or_eq_true ((!(within 0 20 ([r.n0, r.n1, r.n2, r.n3, r.n4])))) with h7 | h7
       ·
        refine awr [(2, .call [] (.b (rangeB r.slo r.shi 0 5000)) []), (4, .dec false), (7, .call [] (.b (rangeB r.ulo r.uhi 0 5000)) []), (10, .dec false), (13, .call [] (.b (rangeB r.hlo r.hhi 0 100)) []), (16, .dec false), (19, .new 1025), (20, .call [1025] (.b (within 1 5000 ([r.apart]))) []), (23, .dec false), (26, .call [] (.b (rangeB r.blo r.bhi 0 5000)) []), (29, .dec false), (35, .dec false), (37, .act [1001] (.ls 1043) [(1001, some (CheckRules_frK5 r)), (1043, some (CheckRules_frK6 r))]), (38, .call [1043] (.b (within 0 20 ([r.n0, r.n1, r.n2, r.n3, r.n4]))) []), (41, .dec true)]
         ⟨80, [2], [(1, .l (.ref 1001 0)), (53, .b true)], (CheckRules_frH7 r)⟩
         [CallOK Try.prog 57 [.agg [.i r.slo, .i r.shi], .i 0, .i 5000] [] [] (.b (rangeB r.slo r.shi 0 5000)) [], (!(rangeB r.slo r.shi 0 5000)) = false, CallOK Try.prog 57 [.agg [.i r.ulo, .i r.uhi], .i 0, .i 5000] [] [] (.b (rangeB r.ulo r.uhi 0 5000)) [], (!(rangeB r.ulo r.uhi 0 5000)) = false, CallOK Try.prog 57 [.agg [.i r.hlo, .i r.hhi], .i 0, .i 100] [] [] (.b (rangeB r.hlo r.hhi 0 100)) [], (!(rangeB r.hlo r.hhi 0 100)) = false, CallOK Try.prog 55 [.i 1, .i 5000, .ls 1025] [1025] [some (.vec 3 1 1 (exEl 1 [.i r.apart]))] (.b (within 1 5000 ([r.apart]))) [], (!(within 1 5000 ([r.apart]))) = false, CallOK Try.prog 57 [.agg [.i r.blo, .i r.bhi], .i 0, .i 5000] [] [] (.b (rangeB r.blo r.bhi 0 5000)) [], (!(rangeB r.blo r.bhi 0 5000)) = false, decide (10 < (r.sizes.length : Int)) = false, ActOK Try.prog (.slice 28 (.tmp 42) none none none) 77 [.l (.ref 1001 10)] [1001] [some (CheckRules_frK3 r)] (.ls 1043) [(1001, some (CheckRules_frK5 r)), (1043, some (CheckRules_frK6 r))], CallOK Try.prog 55 [.i 0, .i 20, .ls 1043] [1043] [some (CheckRules_frK6 r)] (.b (within 0 20 ([r.n0, r.n1, r.n2, r.n3, r.n4]))) [], (!(within 0 20 ([r.n0, r.n1, r.n2, r.n3, r.n4]))) = true] (al2 (cfr (isRange_fr r.slo r.shi 0 5000) [] dem_nil) (al2 h1 (al2 (cfr (isRange_fr r.ulo r.uhi 0 5000) [] dem_nil) (al2 h2 (al2 (cfr (isRange_fr r.hlo r.hhi 0 100) [] dem_nil) (al2 h3 (al2 (cfr (within_fr 1 5000 ([r.apart]) (by first | omega | (simp; done) | decide)) [(0, 1025)] (dem_cons rfl (le_vec_ro (by first | omega | rfl | assumption) (fun | 0, _ => (fun | 0, _ => rfl | (_n + 1), h => absurd h (by omega)) | (_n + 1), h => absurd h (by omega))) dem_nil)) (al2 h4 (al2 (cfr (isRange_fr r.blo r.bhi 0 5000) [] dem_nil) (al2 h5 (al2 h6 (al2 (act_slArr (e := 3) (n := 5) [(.int .i64 r.n0), (.int .i64 r.n1), (.int .i64 r.n2), (.int .i64 r.n3), (.int .i64 r.n4)] (by kernel_rfl) (by kernel_rfl) rfl (by kernel_rfl) rfl (by kernel_rfl) (by kernel_rfl)) (al2 (cfr (within_fr 0 20 ([r.n0, r.n1, r.n2, r.n3, r.n4]) (by first | omega | (simp; done) | decide)) [(0, 1043)] (dem_cons rfl (le_ro (by first | omega | rfl | assumption) (fun | 0, _ => (fun | 0, _ => rfl | (_n + 1), h => absurd h (by omega)) | 1, _ => (fun | 0, _ => rfl | (_n + 1), h => absurd h (by omega)) | 2, _ => (fun | 0, _ => rfl | (_n + 1), h => absurd h (by omega)) | 3, _ => (fun | 0, _ => rfl | (_n + 1), h => absurd h (by omega)) | 4, _ => (fun | 0, _ => rfl | (_n + 1), h => absurd h (by omega)) | (_n + 5), h => absurd h (by omega))) dem_nil)) (al1 h7)))))))))))))) ?_
        refine aw_true rfl ?_
        apply aw_seq
        refine awr []
         ⟨80, [2], [(2, .i 2)], []⟩
         [] trivial ?_
        exact aw_ret (ret_then ⟨.inr rfl, eok ⟨80, [2], [(2, .i (ruleE r))], []⟩
            (enr [] ⟨(slot_i rfl (by first | rfl | omega | assumption | (simp_all [ruleE, ruleB]))), trivial⟩ trivial) wr_nil⟩)
       ·
        refine awr [(2, .call [] (.b (rangeB r.slo r.shi 0 5000)) []), (4, .dec false), (7, .call [] (.b (rangeB r.ulo r.uhi 0 5000)) []), (10, .dec false), (13, .call [] (.b (rangeB r.hlo r.hhi 0 100)) []), (16, .dec false), (19, .new 1025), (20, .call [1025] (.b (within 1 5000 ([r.apart]))) []), (23, .dec false), (26, .call [] (.b (rangeB r.blo r.bhi 0 5000)) []), (29, .dec false), (35, .dec false), (37, .act [1001] (.ls 1043) [(1001, some (CheckRules_frK5 r)), (1043, some (CheckRules_frK6 r))]), (38, .call [1043] (.b (within 0 20 ([r.n0, r.n1, r.n2, r.n3, r.n4]))) []), (41, .dec false), (44, .new 1050), (45, .call [1050] (.b (within 0 60 ([r.opn]))) [])]
         ⟨80, [2], [(1, .l (.ref 1001 0)), (53, .b (!(within 0 60 ([r.opn]))))], (CheckRules_frH7 r)⟩
         [CallOK Try.prog 57 [.agg [.i r.slo, .i r.shi], .i 0, .i 5000] [] [] (.b (rangeB r.slo r.shi 0 5000)) [], (!(rangeB r.slo r.shi 0 5000)) = false, CallOK Try.prog 57 [.agg [.i r.ulo, .i r.uhi], .i 0, .i 5000] [] [] (.b (rangeB r.ulo r.uhi 0 5000)) [], (!(rangeB r.ulo r.uhi 0 5000)) = false, CallOK Try.prog 57 [.agg [.i r.hlo, .i r.hhi], .i 0, .i 100] [] [] (.b (rangeB r.hlo r.hhi 0 100)) [], (!(rangeB r.hlo r.hhi 0 100)) = false, CallOK Try.prog 55 [.i 1, .i 5000, .ls 1025] [1025] [some (.vec 3 1 1 (exEl 1 [.i r.apart]))] (.b (within 1 5000 ([r.apart]))) [], (!(within 1 5000 ([r.apart]))) = false, CallOK Try.prog 57 [.agg [.i r.blo, .i r.bhi], .i 0, .i 5000] [] [] (.b (rangeB r.blo r.bhi 0 5000)) [], (!(rangeB r.blo r.bhi 0 5000)) = false, decide (10 < (r.sizes.length : Int)) = false, ActOK Try.prog (.slice 28 (.tmp 42) none none none) 77 [.l (.ref 1001 10)] [1001] [some (CheckRules_frK3 r)] (.ls 1043) [(1001, some (CheckRules_frK5 r)), (1043, some (CheckRules_frK6 r))], CallOK Try.prog 55 [.i 0, .i 20, .ls 1043] [1043] [some (CheckRules_frK6 r)] (.b (within 0 20 ([r.n0, r.n1, r.n2, r.n3, r.n4]))) [], (!(within 0 20 ([r.n0, r.n1, r.n2, r.n3, r.n4]))) = false, CallOK Try.prog 55 [.i 0, .i 60, .ls 1050] [1050] [some (.vec 3 1 1 (exEl 1 [.i r.opn]))] (.b (within 0 60 ([r.opn]))) []] (al2 (cfr (isRange_fr r.slo r.shi 0 5000) [] dem_nil) (al2 h1 (al2 (cfr (isRange_fr r.ulo r.uhi 0 5000) [] dem_nil) (al2 h2 (al2 (cfr (isRange_fr r.hlo r.hhi 0 100) [] dem_nil) (al2 h3 (al2 (cfr (within_fr 1 5000 ([r.apart]) (by first | omega | (simp; done) | decide)) [(0, 1025)] (dem_cons rfl (le_vec_ro (by first | omega | rfl | assumption) (fun | 0, _ => (fun | 0, _ => rfl | (_n + 1), h => absurd h (by omega)) | (_n + 1), h => absurd h (by omega))) dem_nil)) (al2 h4 (al2 (cfr (isRange_fr r.blo r.bhi 0 5000) [] dem_nil) (al2 h5 (al2 h6 (al2 (act_slArr (e := 3) (n := 5) [(.int .i64 r.n0), (.int .i64 r.n1), (.int .i64 r.n2), (.int .i64 r.n3), (.int .i64 r.n4)] (by kernel_rfl) (by kernel_rfl) rfl (by kernel_rfl) rfl (by kernel_rfl) (by kernel_rfl)) (al2 (cfr (within_fr 0 20 ([r.n0, r.n1, r.n2, r.n3, r.n4]) (by first | omega | (simp; done) | decide)) [(0, 1043)] (dem_cons rfl (le_ro (by first | omega | rfl | assumption) (fun | 0, _ => (fun | 0, _ => rfl | (_n + 1), h => absurd h (by omega)) | 1, _ => (fun | 0, _ => rfl | (_n + 1), h => absurd h (by omega)) | 2, _ => (fun | 0, _ => rfl | (_n + 1), h => absurd h (by omega)) | 3, _ => (fun | 0, _ => rfl | (_n + 1), h => absurd h (by omega)) | 4, _ => (fun | 0, _ => rfl | (_n + 1), h => absurd h (by omega)) | (_n + 5), h => absurd h (by omega))) dem_nil)) (al2 h7 (al1 (cfr (within_fr 0 60 ([r.opn]) (by first | omega | (simp; done) | decide)) [(0, 1050)] (dem_cons rfl (le_vec_ro (by first | omega | rfl | assumption) (fun | 0, _ => (fun | 0, _ => rfl | (_n + 1), h => absurd h (by omega)) | (_n + 1), h => absurd h (by omega))) dem_nil))))))))))))))))) ?_
        refine aw_cond (b := (!(within 0 60 ([r.opn])))) rfl (fun h8 => ?_) (fun h8 => ?_)
        ·
         apply aw_seq
         refine awr []
          ⟨80, [2], [(2, .i 2)], []⟩
          [] trivial ?_
         exact aw_ret (ret_then ⟨.inr rfl, eok ⟨80, [2], [(2, .i (ruleE r))], []⟩
             (enr [] ⟨(slot_i rfl (by first | rfl | omega | assumption | (simp_all [ruleE, ruleB]))), trivial⟩ trivial) wr_nil⟩)
        ·
         apply aw_skip
         apply aw_seq
         refine awr [(0, .new 1003)]
          ⟨80, [2], [(1, .l (.ref 1001 0)), (3, .l (.ref 1003 0))], (CheckRules_frH8 r)⟩
          [] trivial ?_
         apply aw_seq
         apply aw_seq
         refine awr []
          ⟨80, [2], [(3, .l (.ref 1003 0)), (55, .ls 2), (56, .i (r.sizes.length : Int)), (57, .i 0)], (CheckRules_frH9 r)⟩
          [] trivial ?_
         apply aw_block
         refine aw_loop (ι := Nat × Int × Int) (fun zz => ⟨80, [2], [(3, .l (.ref 1003 0)), (55, .ls 2), (56, .i (r.sizes.length : Int)), (57, .i (zz.1 : Int))], (CheckRules_frH10 r zz.2.1 zz.2.2)⟩) (fun zz => (zz.1 ≤ r.sizes.length) ∧ (0 ≤ zz.2.1 ∧ zz.2.1 ≤ 10000) ∧ (sizesB zz.2.1 zz.2.2 (r.sizes.drop zz.1) = sizesB 0 0 r.sizes)) (fun zz => r.sizes.length - zz.1) (0, 0, 0) ⟨(by (try dsimp only); first | omega | rfl | assumption | (simp; done)), (by (try dsimp only); first | omega | rfl | assumption | (simp; done)), (by (try dsimp only); first | omega | rfl | assumption | (simp; done))⟩
             (enr [] ⟨rfl, rfl, rfl, rfl, trivial⟩ (cro rfl (cbl rfl rfl trivial))) fun zz hp => ?_
         obtain ⟨i, bg, bt⟩ := zz
         obtain ⟨hiL, hb, hs⟩ := hp
         dsimp only at hiL hb hs
         show AW _ E _ _ ⟨80, [2], [(3, .l (.ref 1003 0)), (55, .ls 2), (56, .i (r.sizes.length : Int)), (57, .i (i : Int))], (CheckRules_frH10 r bg bt)⟩
         apply aw_seq
         refine awr []
          ⟨80, [2], [(3, .l (.ref 1003 0)), (55, .ls 2), (56, .i (r.sizes.length : Int)), (57, .i (i : Int)), (58, .b (decide ((i : Int) < (r.sizes.length : Int))))], (CheckRules_frH10 r bg bt)⟩
          [] trivial ?_
         apply aw_seq
         refine aw_cond (b := decide ((i : Int) < (r.sizes.length : Int))) rfl (fun h9 => ?_) (fun h9 => ?_)
         ·
          have h9p : (i : Int) < (r.sizes.length : Int) := dtr h9
          apply aw_skip
          apply aw_seq
          apply aw_block
          apply aw_seq
          refine awr [(0, .idx i), (2, .new 1005)]
           ⟨80, [2], [(3, .l (.ref 1003 0)), (5, .l (.ref 1005 0)), (55, .ls 2), (56, .i (r.sizes.length : Int)), (57, .i (i : Int))], (CheckRules_frH12 r bg bt i)⟩
           [(i : Int) = (i : Int), i < r.sizes.length, i < r.sizes.length] (al2 (by omega) (al2 (by omega) (al1 (by omega)))) ?_
          apply aw_seq
          apply aw_seq
          rcases Bool.eq_false_or_eq_true ((!(within (bg + 1) 10000 ([(ix r.sizes i).girth])))) with h10 | h10
          ·
           refine awr [(5, .new 1066), (6, .call [1066] (.b (within (bg + 1) 10000 ([(ix r.sizes i).girth]))) []), (8, .dec true)]
            ⟨80, [2], [(3, .l (.ref 1003 0)), (5, .l (.ref 1005 0)), (55, .ls 2), (56, .i (r.sizes.length : Int)), (57, .i (i : Int)), (77, .b true)], (CheckRules_frH12 r bg bt i)⟩
            [-9223372036854775808 ≤ (bg + 1) ∧ (bg + 1) < 9223372036854775808, CallOK Try.prog 55 [.i (bg + 1), .i 10000, .ls 1066] [1066] [some (CheckRules_frK13 r i)] (.b (within (bg + 1) 10000 ([(ix r.sizes i).girth]))) [], (!(within (bg + 1) 10000 ([(ix r.sizes i).girth]))) = true] (al2 (by omega) (al2 (cfr (within_fr (bg + 1) 10000 ([(ix r.sizes i).girth]) (by first | omega | (simp; done) | decide)) [(0, 1066)] (dem_cons rfl (le_vec_ro (by first | omega | rfl | assumption) (fun | 0, _ => (fun | 0, _ => rfl | (_n + 1), h => absurd h (by omega)) | (_n + 1), h => absurd h (by omega))) dem_nil)) (al1 h10))) ?_
           refine aw_true rfl ?_
           apply aw_seq
           have hf : sizesB 0 0 r.sizes = false := by
            rw [← hs, drop_ix (by omega : i < r.sizes.length)]
            simp_all [sizesB]
           refine awr []
            ⟨80, [2], [(2, .i 2)], []⟩
            [] trivial ?_
           exact aw_ret (ret_then (ret_block (ret_then (ret_then (ret_block (ret_then ⟨.inr rfl, eok ⟨80, [2], [(2, .i (ruleE r))], []⟩
               (enr [] ⟨(slot_i rfl (by first | rfl | omega | assumption | (simp_all [ruleE, ruleB]))), trivial⟩ trivial) wr_nil⟩))))))
          ·
           refine awr [(5, .new 1066), (6, .call [1066] (.b (within (bg + 1) 10000 ([(ix r.sizes i).girth]))) []), (8, .dec false), (13, .new 1074), (14, .call [1074] (.b (within bt 20 ([(ix r.sizes i).taps]))) [])]
            ⟨80, [2], [(3, .l (.ref 1003 0)), (5, .l (.ref 1005 0)), (55, .ls 2), (56, .i (r.sizes.length : Int)), (57, .i (i : Int)), (77, .b (!(within bt 20 ([(ix r.sizes i).taps]))))], (CheckRules_frH12 r bg bt i)⟩
            [-9223372036854775808 ≤ (bg + 1) ∧ (bg + 1) < 9223372036854775808, CallOK Try.prog 55 [.i (bg + 1), .i 10000, .ls 1066] [1066] [some (CheckRules_frK13 r i)] (.b (within (bg + 1) 10000 ([(ix r.sizes i).girth]))) [], (!(within (bg + 1) 10000 ([(ix r.sizes i).girth]))) = false, CallOK Try.prog 55 [.i bt, .i 20, .ls 1074] [1074] [some (CheckRules_frK14 r i)] (.b (within bt 20 ([(ix r.sizes i).taps]))) []] (al2 (by omega) (al2 (cfr (within_fr (bg + 1) 10000 ([(ix r.sizes i).girth]) (by first | omega | (simp; done) | decide)) [(0, 1066)] (dem_cons rfl (le_vec_ro (by first | omega | rfl | assumption) (fun | 0, _ => (fun | 0, _ => rfl | (_n + 1), h => absurd h (by omega)) | (_n + 1), h => absurd h (by omega))) dem_nil)) (al2 h10 (al1 (cfr (within_fr bt 20 ([(ix r.sizes i).taps]) (by first | omega | (simp; done) | decide)) [(0, 1074)] (dem_cons rfl (le_vec_ro (by first | omega | rfl | assumption) (fun | 0, _ => (fun | 0, _ => rfl | (_n + 1), h => absurd h (by omega)) | (_n + 1), h => absurd h (by omega))) dem_nil)))))) ?_
           refine aw_cond (b := (!(within bt 20 ([(ix r.sizes i).taps])))) rfl (fun h11 => ?_) (fun h11 => ?_)
           ·
            apply aw_seq
            have hf : sizesB 0 0 r.sizes = false := by
             rw [← hs, drop_ix (by omega : i < r.sizes.length)]
             simp_all [sizesB]
            refine awr []
             ⟨80, [2], [(2, .i 2)], []⟩
             [] trivial ?_
            exact aw_ret (ret_then (ret_block (ret_then (ret_then (ret_block (ret_then ⟨.inr rfl, eok ⟨80, [2], [(2, .i (ruleE r))], []⟩
                (enr [] ⟨(slot_i rfl (by first | rfl | omega | assumption | (simp_all [ruleE, ruleB]))), trivial⟩ trivial) wr_nil⟩))))))
           ·
            apply aw_skip
            refine awr []
             ⟨80, [2], [(3, .l (.ref 1003 0)), (55, .ls 2), (56, .i (r.sizes.length : Int)), (57, .i (i : Int))], (CheckRules_frH15 r i)⟩
             [] trivial ?_
            refine awr [(0, .num (((i + 1) : Nat) : Int))]
             ⟨80, [2], [(3, .l (.ref 1003 0)), (55, .ls 2), (56, .i (r.sizes.length : Int)), (57, .i (((i + 1) : Nat) : Int))], (CheckRules_frH15 r i)⟩
             [((i : Int) + 1) = (((i + 1) : Nat) : Int), -9223372036854775808 ≤ (((i + 1) : Nat) : Int) ∧ (((i + 1) : Nat) : Int) < 9223372036854775808] (al2 (by omega) (al1 (by omega))) ?_
            exact ⟨((i + 1), (ix r.sizes i).girth, (ix r.sizes i).taps), ⟨(by (try dsimp only); first | omega | rfl | assumption | (simp; done)), (by (try dsimp only); have := within1.1 (by simpa using (by assumption : (!within (bg + 1) 10000 [(ix r.sizes i).girth]) = false)); omega), (by (try dsimp only); rw [← hs, drop_ix (by omega : i < r.sizes.length)]; simp_all [sizesB])⟩, (show r.sizes.length - (i + 1) < r.sizes.length - i by first | omega | rfl | assumption),
                (enr [] ⟨rfl, rfl, rfl, rfl, trivial⟩ (cro rfl (cbl rfl rfl trivial)))⟩
         ·
          have h9p : (r.sizes.length : Int) ≤ (i : Int) := dlt h9
          refine aw_exit (exit_then (exit_then (exit_in ?_)))
          apply aw_seq
          have hf : sizesB 0 0 r.sizes = true := by
           rw [← hs, List.drop_eq_nil_of_le (by omega)]
           rfl
          refine awr []
           ⟨80, [2], [(2, .i 0)], []⟩
           [] trivial ?_
          exact aw_ret ⟨.inr rfl, eok ⟨80, [2], [(2, .i (ruleE r))], []⟩
              (enr [] ⟨(slot_i rfl (by first | rfl | omega | assumption | (simp_all [ruleE, ruleB]))), trivial⟩ trivial) wr_nil⟩
end Go.Proofs.Ytbpblhmigijkaaa
