/- Is a set of angles inside of another one? -/
import Derived.Test.YtbpblhmigijkaaaTxa
import Derived.Test.YtbpblhmigijkaaaTfl
namespace Go.Proofs.Ytbpblhmigijkaaa
open Go.RowKit
set_option linter.unusedVariables false
set_option linter.unusedSimpArgs false
def inside_frK1  : Cn := .blk 131 (flagsC (fun _ => false))
def inside_frK2 (fb : (Nat → Bool)) (z : Int) : Cn := .blk 131 (flagsC (setB fb z.toNat true))
set_option maxHeartbeats 4000000 in
set_option maxRecDepth 100000 in
theorem inside_fr (a b : List Rg) (n m : Nat) (ha : FreeOk a n) (hb : FreeOk b m) (hn : n ≤ 1000) (hm : m ≤ 1000) (hs : ∀ z, inS a z = true → inS b z = true) : CallFr Try.prog 37 [.ls 0, .ls 1] [0, 1] [some (.ro 2 a.length (Lst eG a)), some (.ro 2 b.length (Lst eG b))] (.b true) [] := by
 have hla := ha.len
 have hlb := hb.len
 refine callFr_of (fn := Try.f37) (by kernel_rfl) rfl (by kernel_rfl) (by kernel_rfl) fun E => ?_
 refine aw_ent (T := ⟨67, [0, 1], [(0, .ls 0), (1, .ls 1)], [(0, some (.ro 2 a.length (Lst eG a))), (1, some (.ro 2 b.length (Lst eG b)))]⟩) (Ent.refl _) ?_
 refine aw_seq ?_
 refine aw_r []
  ⟨67, [0, 1], [(0, .ls 0), (1, .ls 1)], [(0, some (.ro 2 a.length (Lst eG a))), (1, some (.ro 2 b.length (Lst eG b)))]⟩
  [] (by kernel_rfl) trivial ?_
 refine aw_seq ?_
 refine aw_r [(1, .new 1005)]
  ⟨67, [0, 1], [(0, .ls 0), (1, .ls 1), (5, .l (.ref 1005 0))], [(0, some (.ro 2 a.length (Lst eG a))), (1, some (.ro 2 b.length (Lst eG b))), (1005, some inside_frK1)]⟩
  [] (by kernel_rfl) trivial ?_
 refine aw_seq ?_
 refine aw_seq ?_
 refine aw_r []
  ⟨67, [0, 1], [(0, .ls 0), (1, .ls 1), (5, .l (.ref 1005 0)), (6, .i 0)], [(0, some (.ro 2 a.length (Lst eG a))), (1, some (.ro 2 b.length (Lst eG b))), (1005, some inside_frK1)]⟩
  [] (by kernel_rfl) trivial ?_
 refine aw_block ?_
 refine aw_loop (ι := Nat × (Nat → Bool)) (fun zz => ⟨67, [0, 1], [(0, .ls 0), (1, .ls 1), (5, .l (.ref 1005 0)), (6, .i ((zz.1 : Nat) : Int))], [(0, some (.ro 2 a.length (Lst eG a))), (1, some (.ro 2 b.length (Lst eG b))), (1005, some (.blk 131 (flagsC zz.2)))]⟩) (fun zz => (zz.1 ≤ b.length) ∧ (FlagOk (inS (b.take zz.1)) zz.2)) (fun zz => b.length - zz.1) (0, (fun _ => false)) ⟨(by (try dsimp only); first | omega | rfl | assumption | (simp; done)), (by (try dsimp only); exact flag_none)⟩
     (Ent.ren [] rfl rfl (by kernel_rfl) ⟨rfl, rfl, rfl, rfl, trivial⟩ (cro rfl (cro rfl (cbl rfl (flagsC_le rfl) trivial))) (by kernel_rfl)) fun zz hp => ?_
 obtain ⟨i, fa⟩ := zz
 obtain ⟨hiL, hf⟩ := hp
 dsimp only at hiL hf
 show AW _ E _ _ ⟨67, [0, 1], [(0, .ls 0), (1, .ls 1), (5, .l (.ref 1005 0)), (6, .i ((i : Nat) : Int))], [(0, some (.ro 2 a.length (Lst eG a))), (1, some (.ro 2 b.length (Lst eG b))), (1005, some (.blk 131 (flagsC fa)))]⟩
 refine aw_seq ?_
 refine aw_seq ?_
 refine aw_r []
  ⟨67, [0, 1], [(0, .ls 0), (1, .ls 1), (5, .l (.ref 1005 0)), (6, .i ((i : Nat) : Int)), (14, .b (decide (((i : Nat) : Int) < ((b.length : Nat) : Int))))], [(0, some (.ro 2 a.length (Lst eG a))), (1, some (.ro 2 b.length (Lst eG b))), (1005, some (.blk 131 (flagsC fa)))]⟩
  [] (by kernel_rfl) trivial ?_
 refine aw_cond (b := decide (((i : Nat) : Int) < ((b.length : Nat) : Int))) rfl (fun h1 => ?_) (fun h1 => ?_)
 ·
  have h1p : ((i : Nat) : Int) < ((b.length : Nat) : Int) := dtr h1
  refine aw_skip ?_
  refine aw_seq ?_
  refine aw_block ?_
  refine aw_seq ?_
  have hr := hb.ok _ (ix_mem (l := b) (i := i) (by omega))
  refine aw_r [(2, .idx i)]
   ⟨67, [0, 1], [(0, .ls 0), (1, .ls 1), (5, .l (.ref 1005 0)), (6, .i ((i : Nat) : Int)), (7, .i (max 0 ((ix b i).low)))], [(0, some (.ro 2 a.length (Lst eG a))), (1, some (.ro 2 b.length (Lst eG b))), (1005, some (.blk 131 (flagsC fa)))]⟩
   [((i : Nat) : Int) = ((i : Nat) : Int), i < b.length, i < b.length, i < b.length] (by kernel_rfl) (al2 (by omega) (al2 (by omega) (al2 (by omega) (al1 (by omega))))) ?_
  refine aw_block ?_
  refine aw_loop (ι := Int × (Nat → Bool)) (fun zz => ⟨67, [0, 1], [(0, .ls 0), (1, .ls 1), (5, .l (.ref 1005 0)), (6, .i ((i : Nat) : Int)), (7, .i zz.1)], [(0, some (.ro 2 a.length (Lst eG a))), (1, some (.ro 2 b.length (Lst eG b))), (1005, some (.blk 131 (flagsC zz.2)))]⟩) (fun zz => ((ix b i).low ≤ zz.1 ∧ zz.1 ≤ (ix b i).high + 1) ∧ (FlagOk (inTo (b.take i) (ix b i).low zz.1) zz.2)) (fun zz => ((ix b i).high + 1 - zz.1).toNat) ((max 0 (ix b i).low), fa) ⟨(by (try dsimp only); first | omega | rfl | assumption | (simp; done)), (by (try dsimp only); rw [show max 0 (ix b i).low = (ix b i).low by omega]; exact flag_start hf)⟩
      (Ent.ren [] rfl rfl (by kernel_rfl) ⟨rfl, rfl, rfl, rfl, rfl, trivial⟩ (cro rfl (cro rfl (cbl rfl (flagsC_le rfl) trivial))) (by kernel_rfl)) fun zz hp => ?_
  obtain ⟨z, fb⟩ := zz
  obtain ⟨hz, hh⟩ := hp
  dsimp only at hz hh
  show AW _ E _ _ ⟨67, [0, 1], [(0, .ls 0), (1, .ls 1), (5, .l (.ref 1005 0)), (6, .i ((i : Nat) : Int)), (7, .i z)], [(0, some (.ro 2 a.length (Lst eG a))), (1, some (.ro 2 b.length (Lst eG b))), (1005, some (.blk 131 (flagsC fb)))]⟩
  refine aw_seq ?_
  refine aw_seq ?_
  rcases Bool.eq_false_or_eq_true (decide (z ≤ (ix b i).high)) with h2 | h2
  ·
   have h2p : z ≤ (ix b i).high := dtr h2
   refine aw_r [(3, .idx i), (7, .dec true)]
    ⟨67, [0, 1], [(0, .ls 0), (1, .ls 1), (5, .l (.ref 1005 0)), (6, .i ((i : Nat) : Int)), (7, .i z), (33, .b (decide (z < 3600)))], [(0, some (.ro 2 a.length (Lst eG a))), (1, some (.ro 2 b.length (Lst eG b))), (1005, some (.blk 131 (flagsC fb)))]⟩
    [((i : Nat) : Int) = ((i : Nat) : Int), i < b.length, i < b.length, i < b.length, decide (z ≤ (ix b i).high) = true] (by kernel_rfl) (al2 (by omega) (al2 (by omega) (al2 (by omega) (al2 (by omega) (al1 h2))))) ?_
   have h3 : (decide (z < 3600)) = true := by exact decide_eq_true (by omega)
   refine aw_cond (b := decide (z < 3600)) rfl (fun _ => ?_) (fun h => Bool.noConfusion (h3.symm.trans h))
   refine aw_skip ?_
   refine aw_seq ?_
   refine aw_block ?_
   refine aw_r [(1, .act [1005] (.l (.ref 1005 z.toNat)) []), (2, .act [1005] (.v undef) [(1005, some (inside_frK2 fb z))])]
    ⟨67, [0, 1], [(0, .ls 0), (1, .ls 1), (5, .l (.ref 1005 0)), (6, .i ((i : Nat) : Int)), (7, .i z)], [(0, some (.ro 2 a.length (Lst eG a))), (1, some (.ro 2 b.length (Lst eG b))), (1005, some (inside_frK2 fb z))]⟩
    [ActOK Try.prog (.indexAddr 131 (.tmp 5) (.tmp 36)) 0 [.l (.ref 1005 0), .i z] [1005] [some (.blk 131 (flagsC fb))] (.l (.ref 1005 z.toNat)) [], ActOK Try.prog (.store 4 (.tmp 37) (.const ((.bool true)))) 0 [.l (.ref 1005 z.toNat), .b true] [1005] [some (.blk 131 (flagsC fb))] (.v undef) [(1005, some (inside_frK2 fb z))]] (by kernel_rfl) (al2 (act_idxAt2 (k := z.toNat) (n := 3600) (e := 4) (m := 1) (by kernel_rfl) (by kernel_rfl) rfl (by omega) (by omega) (by omega)) (al1 (act_storeAt2 (by kernel_rfl) rfl (flags_len (by omega)) (flags_set (by omega))))) ?_
   refine aw_r []
    ⟨67, [0, 1], [(0, .ls 0), (1, .ls 1), (5, .l (.ref 1005 0)), (6, .i ((i : Nat) : Int)), (7, .i (z + 1))], [(0, some (.ro 2 a.length (Lst eG a))), (1, some (.ro 2 b.length (Lst eG b))), (1005, some (inside_frK2 fb z))]⟩
    [-9223372036854775808 ≤ (z + 1) ∧ (z + 1) < 9223372036854775808] (by kernel_rfl) (al1 (by omega)) ?_
   exact ⟨((z + 1), (setB fb z.toNat true)), ⟨(by (try dsimp only); first | omega | rfl | assumption | (simp; done)), (by (try dsimp only); exact flag_step hh (by omega) (by omega))⟩, (show ((ix b i).high + 1 - (z + 1)).toNat < ((ix b i).high + 1 - z).toNat by first | omega | rfl | assumption),
       (Ent.ren [] rfl rfl (by kernel_rfl) ⟨rfl, rfl, rfl, rfl, rfl, trivial⟩ (cro rfl (cro rfl (cbl rfl (flagsC_le rfl) trivial))) (by kernel_rfl))⟩
  ·
   have h2p : (ix b i).high < z := dle h2
   refine aw_r [(3, .idx i), (7, .dec false)]
    ⟨67, [0, 1], [(0, .ls 0), (1, .ls 1), (5, .l (.ref 1005 0)), (6, .i ((i : Nat) : Int)), (7, .i z), (33, .b false)], [(0, some (.ro 2 a.length (Lst eG a))), (1, some (.ro 2 b.length (Lst eG b))), (1005, some (.blk 131 (flagsC fb)))]⟩
    [((i : Nat) : Int) = ((i : Nat) : Int), i < b.length, i < b.length, i < b.length, decide (z ≤ (ix b i).high) = false] (by kernel_rfl) (al2 (by omega) (al2 (by omega) (al2 (by omega) (al2 (by omega) (al1 h2))))) ?_
   refine aw_false rfl ?_
   refine aw_exit (exit_then (exit_then (exit_in ?_)))
   refine aw_r [(1, .num (((i + 1) : Nat) : Int))]
    ⟨67, [0, 1], [(0, .ls 0), (1, .ls 1), (5, .l (.ref 1005 0)), (6, .i (((i + 1) : Nat) : Int))], [(0, some (.ro 2 a.length (Lst eG a))), (1, some (.ro 2 b.length (Lst eG b))), (1005, some (.blk 131 (flagsC fb)))]⟩
    [(((i : Nat) : Int) + 1) = (((i + 1) : Nat) : Int), -9223372036854775808 ≤ (((i + 1) : Nat) : Int) ∧ (((i + 1) : Nat) : Int) < 9223372036854775808] (by kernel_rfl) (al2 (by omega) (al1 (by omega))) ?_
   exact ⟨((i + 1), fb), ⟨(by (try dsimp only); first | omega | rfl | assumption | (simp; done)), (by (try dsimp only); exact flag_end (by omega) hh (by omega))⟩, (show b.length - (i + 1) < b.length - i by first | omega | rfl | assumption),
       (Ent.ren [] rfl rfl (by kernel_rfl) ⟨rfl, rfl, rfl, rfl, trivial⟩ (cro rfl (cro rfl (cbl rfl (flagsC_le rfl) trivial))) (by kernel_rfl))⟩
 ·
  have h1p : ((b.length : Nat) : Int) ≤ ((i : Nat) : Int) := dlt h1
  refine aw_exit (exit_then (exit_then (exit_in ?_)))
  refine aw_seq ?_
  refine aw_seq ?_
  refine aw_r []
   ⟨67, [0, 1], [(0, .ls 0), (5, .l (.ref 1005 0)), (8, .i 0)], [(0, some (.ro 2 a.length (Lst eG a))), (1005, some (.blk 131 (flagsC fa)))]⟩
   [] (by kernel_rfl) trivial ?_
  refine aw_block ?_
  refine aw_loop (ι := Nat) (fun zz => ⟨67, [0, 1], [(0, .ls 0), (5, .l (.ref 1005 0)), (8, .i ((zz : Nat) : Int))], [(0, some (.ro 2 a.length (Lst eG a))), (1005, some (.blk 131 (flagsC fa)))]⟩) (fun zz => (zz ≤ a.length)) (fun zz => a.length - zz) 0 (by first | omega | rfl | assumption | (simp; done))
      (Ent.ren [] rfl rfl (by kernel_rfl) ⟨rfl, rfl, rfl, trivial⟩ (cro rfl (cbl rfl (flagsC_le rfl) trivial)) (by kernel_rfl)) fun zz hp => ?_
  obtain ⟨j, rfl⟩ : ∃ x, x = zz := ⟨_, rfl⟩
  have hjL := hp
  show AW _ E _ _ ⟨67, [0, 1], [(0, .ls 0), (5, .l (.ref 1005 0)), (8, .i ((j : Nat) : Int))], [(0, some (.ro 2 a.length (Lst eG a))), (1005, some (.blk 131 (flagsC fa)))]⟩
  refine aw_seq ?_
  refine aw_seq ?_
  refine aw_r []
   ⟨67, [0, 1], [(0, .ls 0), (5, .l (.ref 1005 0)), (8, .i ((j : Nat) : Int)), (41, .b (decide (((j : Nat) : Int) < ((a.length : Nat) : Int))))], [(0, some (.ro 2 a.length (Lst eG a))), (1005, some (.blk 131 (flagsC fa)))]⟩
   [] (by kernel_rfl) trivial ?_
  refine aw_cond (b := decide (((j : Nat) : Int) < ((a.length : Nat) : Int))) rfl (fun h4 => ?_) (fun h4 => ?_)
  ·
   have h4p : ((j : Nat) : Int) < ((a.length : Nat) : Int) := dtr h4
   refine aw_skip ?_
   refine aw_seq ?_
   refine aw_block ?_
   refine aw_seq ?_
   have hr := ha.ok _ (ix_mem (l := a) (i := j) (by omega))
   refine aw_r [(2, .idx j)]
    ⟨67, [0, 1], [(0, .ls 0), (5, .l (.ref 1005 0)), (8, .i ((j : Nat) : Int)), (9, .i (max 0 ((ix a j).low)))], [(0, some (.ro 2 a.length (Lst eG a))), (1005, some (.blk 131 (flagsC fa)))]⟩
    [((j : Nat) : Int) = ((j : Nat) : Int), j < a.length, j < a.length, j < a.length] (by kernel_rfl) (al2 (by omega) (al2 (by omega) (al2 (by omega) (al1 (by omega))))) ?_
   refine aw_block ?_
   refine aw_loop (ι := Int) (fun zz => ⟨67, [0, 1], [(0, .ls 0), (5, .l (.ref 1005 0)), (8, .i ((j : Nat) : Int)), (9, .i zz)], [(0, some (.ro 2 a.length (Lst eG a))), (1005, some (.blk 131 (flagsC fa)))]⟩) (fun zz => ((ix a j).low ≤ zz ∧ zz ≤ (ix a j).high + 1)) (fun zz => ((ix a j).high + 1 - zz).toNat) (max 0 (ix a j).low) (by first | omega | rfl | assumption | (simp; done))
       (Ent.ren [] rfl rfl (by kernel_rfl) ⟨rfl, rfl, rfl, rfl, trivial⟩ (cro rfl (cbl rfl (flagsC_le rfl) trivial)) (by kernel_rfl)) fun zz hp => ?_
   obtain ⟨u, rfl⟩ : ∃ x, x = zz := ⟨_, rfl⟩
   have hu := hp
   show AW _ E _ _ ⟨67, [0, 1], [(0, .ls 0), (5, .l (.ref 1005 0)), (8, .i ((j : Nat) : Int)), (9, .i u)], [(0, some (.ro 2 a.length (Lst eG a))), (1005, some (.blk 131 (flagsC fa)))]⟩
   refine aw_seq ?_
   refine aw_seq ?_
   rcases Bool.eq_false_or_eq_true (decide (u ≤ (ix a j).high)) with h5 | h5
   ·
    have h5p : u ≤ (ix a j).high := dtr h5
    refine aw_r [(3, .idx j), (7, .dec true)]
     ⟨67, [0, 1], [(0, .ls 0), (5, .l (.ref 1005 0)), (8, .i ((j : Nat) : Int)), (9, .i u), (60, .b (decide (u < 3600)))], [(0, some (.ro 2 a.length (Lst eG a))), (1005, some (.blk 131 (flagsC fa)))]⟩
     [((j : Nat) : Int) = ((j : Nat) : Int), j < a.length, j < a.length, j < a.length, decide (u ≤ (ix a j).high) = true] (by kernel_rfl) (al2 (by omega) (al2 (by omega) (al2 (by omega) (al2 (by omega) (al1 h5))))) ?_
    have h6 : (decide (u < 3600)) = true := by exact decide_eq_true (by omega)
    refine aw_cond (b := decide (u < 3600)) rfl (fun _ => ?_) (fun h => Bool.noConfusion (h6.symm.trans h))
    refine aw_skip ?_
    refine aw_seq ?_
    refine aw_block ?_
    refine aw_seq ?_
    refine aw_r [(1, .act [1005] (.l (.ref 1005 u.toNat)) []), (2, .act [1005] (.b (fa u.toNat)) [])]
     ⟨67, [0, 1], [(0, .ls 0), (5, .l (.ref 1005 0)), (8, .i ((j : Nat) : Int)), (9, .i u), (66, .b (!(fa u.toNat)))], [(0, some (.ro 2 a.length (Lst eG a))), (1005, some (.blk 131 (flagsC fa)))]⟩
     [ActOK Try.prog (.indexAddr 131 (.tmp 5) (.tmp 63)) 0 [.l (.ref 1005 0), .i u] [1005] [some (.blk 131 (flagsC fa))] (.l (.ref 1005 u.toNat)) [], ActOK Try.prog (.load 4 (.tmp 64)) 4 [.l (.ref 1005 u.toNat)] [1005] [some (.blk 131 (flagsC fa))] (.b (fa u.toNat)) []] (by kernel_rfl) (al2 (act_idxAt2 (k := u.toNat) (n := 3600) (e := 4) (m := 1) (by kernel_rfl) (by kernel_rfl) rfl (by omega) (by omega) (by omega)) (al1 (act_loadAt (by kernel_rfl) rfl (flags_at (by omega))))) ?_
    have h7 : ((!(fa u.toNat))) = false := by rw [flag_get hf (show b.length ≤ i by omega) (show 0 ≤ u by omega) (show u ≤ 3599 by omega), hs _ (in_of (i := j) (by omega) (by omega))]; rfl
    refine aw_cond (b := (!(fa u.toNat))) rfl (fun h => Bool.noConfusion (h7.symm.trans h)) (fun _ => ?_)
    refine aw_skip ?_
    refine aw_r []
     ⟨67, [0, 1], [(0, .ls 0), (5, .l (.ref 1005 0)), (8, .i ((j : Nat) : Int)), (9, .i (u + 1))], [(0, some (.ro 2 a.length (Lst eG a))), (1005, some (.blk 131 (flagsC fa)))]⟩
     [-9223372036854775808 ≤ (u + 1) ∧ (u + 1) < 9223372036854775808] (by kernel_rfl) (al1 (by omega)) ?_
    exact ⟨(u + 1), (by first | omega | rfl | assumption | (simp; done)), (show ((ix a j).high + 1 - (u + 1)).toNat < ((ix a j).high + 1 - u).toNat by first | omega | rfl | assumption),
        (Ent.ren [] rfl rfl (by kernel_rfl) ⟨rfl, rfl, rfl, rfl, trivial⟩ (cro rfl (cbl rfl (flagsC_le rfl) trivial)) (by kernel_rfl))⟩
   ·
    have h5p : (ix a j).high < u := dle h5
    refine aw_r [(3, .idx j), (7, .dec false)]
     ⟨67, [0, 1], [(0, .ls 0), (5, .l (.ref 1005 0)), (8, .i ((j : Nat) : Int)), (9, .i u), (60, .b false)], [(0, some (.ro 2 a.length (Lst eG a))), (1005, some (.blk 131 (flagsC fa)))]⟩
     [((j : Nat) : Int) = ((j : Nat) : Int), j < a.length, j < a.length, j < a.length, decide (u ≤ (ix a j).high) = false] (by kernel_rfl) (al2 (by omega) (al2 (by omega) (al2 (by omega) (al2 (by omega) (al1 h5))))) ?_
    refine aw_false rfl ?_
    refine aw_exit (exit_then (exit_then (exit_in ?_)))
    refine aw_r [(1, .num (((j + 1) : Nat) : Int))]
     ⟨67, [0, 1], [(0, .ls 0), (5, .l (.ref 1005 0)), (8, .i (((j + 1) : Nat) : Int))], [(0, some (.ro 2 a.length (Lst eG a))), (1005, some (.blk 131 (flagsC fa)))]⟩
     [(((j : Nat) : Int) + 1) = (((j + 1) : Nat) : Int), -9223372036854775808 ≤ (((j + 1) : Nat) : Int) ∧ (((j + 1) : Nat) : Int) < 9223372036854775808] (by kernel_rfl) (al2 (by omega) (al1 (by omega))) ?_
    exact ⟨(j + 1), (by first | omega | rfl | assumption | (simp; done)), (show a.length - (j + 1) < a.length - j by first | omega | rfl | assumption),
        (Ent.ren [] rfl rfl (by kernel_rfl) ⟨rfl, rfl, rfl, trivial⟩ (cro rfl (cbl rfl (flagsC_le rfl) trivial)) (by kernel_rfl))⟩
  ·
   have h4p : ((a.length : Nat) : Int) ≤ ((j : Nat) : Int) := dlt h4
   refine aw_exit (exit_then (exit_then (exit_in ?_)))
   refine aw_seq ?_
   refine aw_r []
    ⟨67, [0, 1], [(4, .b true)], []⟩
    [] (by kernel_rfl) trivial ?_
   exact aw_ret ⟨.inr rfl, end_ok ⟨67, [0, 1], [(4, .b true)], []⟩
       (Ent.ren [] rfl rfl (by kernel_rfl) ⟨rfl, trivial⟩ trivial (by kernel_rfl)) rfl (by kernel_rfl) wr_nil (by kernel_rfl)⟩
end Go.Proofs.Ytbpblhmigijkaaa
