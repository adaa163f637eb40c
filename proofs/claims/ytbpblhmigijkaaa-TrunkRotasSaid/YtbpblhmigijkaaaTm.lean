/- Rooms: how many taps. -/
import Derived.Test.YtbpblhmigijkaaaTf
import Derived.Test.YtbpblhmigijkaaaTr
namespace Go.Proofs.Ytbpblhmigijkaaa
open Go.RowKit
set_option linter.unusedVariables false
set_option linter.unusedSimpArgs false
set_option maxRecDepth 100000 in
theorem from_fr (n : Nat → Int) (g a : Int) (ha : 0 ≤ a) : CallFr Try.prog 111 [.l (.ref 0 0), .i a] [0] [some (.rblk (roomC n g))] (.i (fromV n a)) [] := by
 refine callFr_of (fn := Try.f111) (by kernel_rfl) rfl (by kernel_rfl) (by kernel_rfl) fun E => ?_
 refine aw_ent (T := ⟨12, [0], [(0, .l (.ref 0 0)), (1, .i a)], [(0, some (.rblk (roomC n g)))]⟩) (Ent.refl _) ?_
 apply aw_seq
 refine awr []
  ⟨12, [0], [(0, .l (.ref 0 0)), (1, .i a)], [(0, some (.rblk (roomC n g)))]⟩
  [] trivial ?_
 apply aw_seq
 refine awr [(5, .act [0] (.l (.ref 0 ((min a 3600).toNat))) []), (6, .act [0] (.i (n ((min a 3600).toNat))) [])]
  ⟨12, [0], [(4, .i (n ((min a 3600).toNat)))], []⟩
  [ActOK Try.prog (.indexAddr 158 (.tmp 9) (.tmp 7)) 0 [.l (.ref 0 0), .i (min a 3600)] [0] [some (.rblk (roomC n g))] (.l (.ref 0 ((min a 3600).toNat))) [], ActOK Try.prog (.load 3 (.tmp 10)) 3 [.l (.ref 0 ((min a 3600).toNat))] [0] [some (.rblk (roomC n g))] (.i (n ((min a 3600).toNat))) []] (al2 (act_idxAt2 (k := (min a 3600).toNat) (n := 3601) (e := 3) (m := 1) (by kernel_rfl) (by kernel_rfl) rfl (by omega) (by omega) (by omega)) (al1 (act_loadAt (by kernel_rfl) rfl (room_at (by omega))))) ?_
 exact aw_ret ⟨.inr rfl, eok ⟨12, [0], [(4, .i (fromV n a))], []⟩
     (enr [] ⟨(slot_i rfl (by first | rfl | omega | assumption)), trivial⟩ trivial) wr_nil⟩
def row_frH1 (n : Nat → Int) (g : Int) (a : Int) : List (Nat × Option Cn) := [(0, some (.rblk (roomC n g))), (1002, some (.blk 127 [.ref 0 0])), (1003, some (.blk 3 [.i a]))]
set_option maxRecDepth 100000 in
theorem row_fr (n : Nat → Int) (g a : Int) : CallFr Try.prog 97 [.l (.ref 0 0), .i a] [0] [some (.rblk (roomC n g))] (.l (.fnc (.func 112) [2, 3])) [(2, some (.blk 3 [.i a])), (3, some (.blk 127 [.ref 0 0]))] := by
 refine callFr_of (fn := Try.f97) (by kernel_rfl) rfl (by kernel_rfl) (by kernel_rfl) fun E => ?_
 refine aw_ent (T := ⟨6, [0], [(0, .l (.ref 0 0)), (1, .i a)], [(0, some (.rblk (roomC n g)))]⟩) (Ent.refl _) ?_
 apply aw_seq
 refine awr [(0, .new 1002), (1, .new 1003)]
  ⟨6, [0], [(2, .l (.ref 1002 0)), (3, .l (.ref 1003 0))], (row_frH1 n g a)⟩
  [] trivial ?_
 apply aw_seq
 refine awr []
  ⟨6, [0], [(4, .l (.fnc (.func 112) [1003, 1002]))], (row_frH1 n g a)⟩
  [] trivial ?_
 exact aw_ret ⟨.inr rfl, eok ⟨6, [0], [(4, .l (.fnc (.func 112) [2, 3]))], [(2, some (.blk 3 [.i a])), (3, some (.blk 127 [.ref 0 0]))]⟩
     (enr [(2, 1003), (3, 1002)] ⟨rfl, trivial⟩ (cbl rfl rfl (cbl rfl rfl trivial))) (wr_cons rfl plain_blk (wr_cons rfl plain_blk wr_nil))⟩
def most_frH1 (n : Nat → Int) (g : Int) : List (Nat × Option Cn) := [(1, some (.rblk (roomC n g))), (1001, some (.blk 127 [.ref 1 0])), (1002, some (.blk 3 [.i 0]))]
set_option maxRecDepth 100000 in
theorem most_fr (n : Nat → Int) (g : Int) (hn : nextOk n) (hg : 1 ≤ g ∧ g ≤ 18000000) : CallFr Try.prog 68 [.l (.ref 1 0)] [1] [some (.rblk (roomC n g))] (.i (mostV n g)) [] := by
 refine callFr_ofR (fn := Try.f68) (by kernel_rfl) rfl (by kernel_rfl) (by kernel_rfl) fun E hE => ?_
 refine aw_ent (T := ⟨18, [1], [(0, .l (.ref 1 0))], [(1, some (.rblk (roomC n g)))]⟩) (Ent.refl _) ?_
 apply aw_seq
 refine awr [(0, .new 1001), (1, .new 1002)]
  ⟨18, [1], [(1, .l (.ref 1001 0)), (2, .l (.ref 1002 0))], (most_frH1 n g)⟩
  [] trivial ?_
 apply aw_seq
 apply aw_seq
 refine awr [(1, .act [1] (.l (.mth (.func 96) 1)) [])]
  ⟨18, [1], [(1, .l (.ref 1001 0)), (2, .l (.ref 1002 0)), (6, .l (.mth (.func 96) 1))], (most_frH1 n g)⟩
  [ActOK Try.prog (.makeFunc (.func 96) #[(.tmp 5)] #[]) 161 [.l (.ref 1 0)] [1] [some (.rblk (roomC n g))] (.l (.mth (.func 96) 1)) []] (al1 (act_makeM rfl)) ?_
 apply aw_block
 refine aw_range (gf := 96) (fN := Try.f96) (.mth (.func 96) 1) [1, 1001, 1002, 9001] 9001 (.inl hE) rfl rfl (by kernel_rfl) rfl (by kernel_rfl) (by kernel_rfl) fun E1 l1 r1 hR1 => ?_
 refine aw_ent (T := ⟨17, [1, 1001, 1002, 9001], [(0, .l (.ref 1 0)), (1, .l (.v (.func (.yield l1) #[] #[])))], [(9001, some (.mp (LpIs r1 .ready none))), (1, some (.rblk (roomC n g))), (1001, some (.blk 127 [.ref 1 0])), (1002, some (.blk 3 [.i 0]))]⟩) (Ent.refl _) ?_
 apply aw_seq
 refine awr [(1, .call [1] (.i (fromV n 0)) [])]
  ⟨17, [1, 1001, 1002, 9001], [(0, .l (.ref 1 0)), (1, .l (.v (.func (.yield l1) #[] #[]))), (4, .i (fromV n 0))], [(1, some (.rblk (roomC n g))), (1001, some (.blk 127 [.ref 1 0])), (1002, some (.blk 3 [.i 0])), (9001, some (.mp (LpIs r1 .ready none)))]⟩
  [CallOK Try.prog 111 [.l (.ref 1 0), .i 0] [1] [some (.rblk (roomC n g))] (.i (fromV n 0)) []] (al1 (cfr (from_fr n g 0 (by first | assumption | omega)) [(0, 1)] (dem_cons rfl (le_rblk (roomC_le rfl rfl)) dem_nil))) ?_
 apply aw_block
 refine aw_loop (ι := Nat × Int × Int) (fun zz => ⟨17, [1, 1001, 1002, 9001], [(0, .l (.ref 1 0)), (1, .l (.v (.func (.yield l1) #[] #[]))), (4, .i zz.2.1)], [(1, some (.rblk (roomC n g))), (1001, some (.blk 127 [.ref 1 0])), (1002, some (.blk 3 [.i zz.2.2])), (9001, some (.mp (LpIs r1 .ready none)))]⟩) (fun zz => (3600 - zz.2.1 < zz.1 ∧ 0 ≤ zz.2.1 ∧ zz.2.1 ≤ 7200) ∧ ((firstsL n zz.1 zz.2.1).foldl (mostS n g) zz.2.2 = mostV n g)) (fun zz => zz.1) (3601, (fromV n 0), 0) ⟨(by (try dsimp only); have := fromV_le hn (a := 0) (by omega); omega), (by (try dsimp only); first | omega | rfl | assumption | (simp; done))⟩
     (enr [] ⟨rfl, rfl, rfl, trivial⟩ (crr rfl (roomC_le rfl rfl) (cbl rfl rfl (cbl rfl rfl (cmp_ rfl (fun _ h => h) trivial))))) fun zz hp => ?_
 obtain ⟨k, a, m⟩ := zz
 obtain ⟨hk, hf⟩ := hp
 dsimp only at hk hf
 show AW _ E1 _ _ ⟨17, [1, 1001, 1002, 9001], [(0, .l (.ref 1 0)), (1, .l (.v (.func (.yield l1) #[] #[]))), (4, .i a)], [(1, some (.rblk (roomC n g))), (1001, some (.blk 127 [.ref 1 0])), (1002, some (.blk 3 [.i m])), (9001, some (.mp (LpIs r1 .ready none)))]⟩
 apply aw_seq
 apply aw_seq
 refine awr []
  ⟨17, [1, 1001, 1002, 9001], [(0, .l (.ref 1 0)), (1, .l (.v (.func (.yield l1) #[] #[]))), (4, .i a), (8, .b (decide (a < 3600)))], [(1, some (.rblk (roomC n g))), (1001, some (.blk 127 [.ref 1 0])), (1002, some (.blk 3 [.i m])), (9001, some (.mp (LpIs r1 .ready none)))]⟩
  [] trivial ?_
 refine aw_cond (b := decide (a < 3600)) rfl (fun h1 => ?_) (fun h1 => ?_)
 ·
  have h1p : a < 3600 := dtr h1
  apply aw_skip
  apply aw_seq
  apply aw_block
  apply aw_seq
  refine aw_yield hR1 2 []
   ⟨17, [1, 1001, 1002, 9001], [(0, .l (.ref 1 0)), (1, .l (.v (.func (.yield l1) #[] #[]))), (4, .i a), (13, .l (.v (.func (.yield l1) #[] #[]))), (14, .i a)], [(1, some (.rblk (roomC n g))), (1001, some (.blk 127 [.ref 1 0])), (1002, some (.blk 3 [.i m])), (9001, some (.mp (LpIs r1 .ready none)))]⟩
   [] [.i a] (some 15) [1, 1001, 1002, 9001] (by kernel_rfl) trivial (by kernel_rfl) rfl (by kernel_rfl) fun F1 hE1 hL1 => ?_
  refine aw_ent (T := ⟨18, [1, 1001, 1002, 9001], [(7, .i a), (1, .l (.ref 1001 0)), (2, .l (.ref 1002 0)), (6, .l (.mth (.func 96) 1))], [(1, some (.rblk (roomC n g))), (1001, some (.blk 127 [.ref 1 0])), (1002, some (.blk 3 [.i m])), (9001, some (.mp (LpIs r1 .ready none)))]⟩) (Ent.refl _) ?_
  refine awr []
   ⟨18, [1, 1001, 1002, 9001], [(1, .l (.ref 1001 0)), (2, .l (.ref 1002 0)), (3, .i a)], [(1, some (.rblk (roomC n g))), (1001, some (.blk 127 [.ref 1 0])), (1002, some (.blk 3 [.i m])), (9001, some (.mp (LpIs r1 .ready none)))]⟩
   [] trivial ?_
  refine ⟨rfl, rfl, ?_⟩
  refine aw_ent (T := ⟨18, [1, 1001, 1002, 9001], [(1, .l (.ref 1001 0)), (2, .l (.ref 1002 0)), (3, .i a)], [(1, some (.rblk (roomC n g))), (1001, some (.blk 127 [.ref 1 0])), (1002, some (.blk 3 [.i m])), (9001, some (.mp (LpIs r1 .busy none)))]⟩)
   (enr [] ⟨rfl, rfl, rfl, trivial⟩ (crr rfl (roomC_le rfl rfl) (cbl rfl rfl (cbl rfl rfl (cmp_ rfl (fun _ h => h) trivial))))) ?_
  apply aw_block
  apply aw_seq
  refine awr [(0, .new 1004)]
   ⟨18, [1, 1001, 1002, 9001], [(1, .l (.ref 1001 0)), (2, .l (.ref 1002 0)), (3, .i a), (4, .l (.ref 1004 0))], [(1, some (.rblk (roomC n g))), (1001, some (.blk 127 [.ref 1 0])), (1002, some (.blk 3 [.i m])), (1004, some (.blk 3 [.i 0])), (9001, some (.mp (LpIs r1 .busy none)))]⟩
   [] trivial ?_
  apply aw_seq
  apply aw_seq
  refine awr [(2, .call [1] (.l (.fnc (.func 112) [10100, 10101])) [(10100, some (.blk 3 [.i a])), (10101, some (.blk 127 [.ref 1 0]))])]
   ⟨18, [1, 1001, 1002, 9001], [(2, .l (.ref 1002 0)), (4, .l (.ref 1004 0)), (10, .l (.fnc (.func 112) [10100, 10101]))], [(1, some (.rblk (roomC n g))), (1001, some (.blk 127 [.ref 1 0])), (1002, some (.blk 3 [.i m])), (1004, some (.blk 3 [.i 0])), (9001, some (.mp (LpIs r1 .busy none))), (10100, some (.blk 3 [.i a])), (10101, some (.blk 127 [.ref 1 0]))]⟩
   [CallOK Try.prog 97 [.l (.ref 1 0), .i a] [1] [some (.rblk (roomC n g))] (.l (.fnc (.func 112) [10100, 10101])) [(10100, some (.blk 3 [.i a])), (10101, some (.blk 127 [.ref 1 0]))]] (al1 (cfr (row_fr n g a) [(0, 1), (2, 10100), (3, 10101)] (dem_cons rfl (le_rblk (roomC_le rfl rfl)) dem_nil))) ?_
  apply aw_block
  refine aw_range (gf := 112) (fN := Try.f112) (.fnc (.func 112) [10100, 10101]) [1, 1001, 1002, 1004, 9001, 9002, 10100, 10101] 9002 (.inr ⟨9001, _, _, _, _, hE1, rfl, (memB'_iff.1 rfl), hL1⟩) rfl rfl (by kernel_rfl) rfl (by kernel_rfl) (by kernel_rfl) fun E2 l2 r2 hR2 => ?_
  refine aw_ent (T := ⟨36, [1, 1001, 1002, 1004, 9001, 9002, 10100, 10101], [(0, .l (.v (.func (.yield l2) #[] #[]))), (1, .l (.ref 10100 0)), (2, .l (.ref 10101 0))], [(9002, some (.mp (LpIs r2 .ready none))), (1, some (.rblk (roomC n g))), (1001, some (.blk 127 [.ref 1 0])), (1002, some (.blk 3 [.i m])), (1004, some (.blk 3 [.i 0])), (9001, some (.mp (LpIs r1 .busy none))), (10100, some (.blk 3 [.i a])), (10101, some (.blk 127 [.ref 1 0]))]⟩) (Ent.refl _) ?_
  apply aw_seq
  refine awr []
   ⟨36, [1, 1001, 1002, 1004, 9001, 9002, 10100, 10101], [(0, .l (.v (.func (.yield l2) #[] #[]))), (1, .l (.ref 10100 0)), (2, .l (.ref 10101 0)), (4, .i a)], [(1, some (.rblk (roomC n g))), (1001, some (.blk 127 [.ref 1 0])), (1002, some (.blk 3 [.i m])), (1004, some (.blk 3 [.i 0])), (9001, some (.mp (LpIs r1 .busy none))), (9002, some (.mp (LpIs r2 .ready none))), (10100, some (.blk 3 [.i a])), (10101, some (.blk 127 [.ref 1 0]))]⟩
   [] trivial ?_
  apply aw_block
  refine aw_loop (ι := Nat × Int × Int) (fun zz => ⟨36, [1, 1001, 1002, 1004, 9001, 9002, 10100, 10101], [(0, .l (.v (.func (.yield l2) #[] #[]))), (1, .l (.ref 10100 0)), (2, .l (.ref 10101 0)), (4, .i zz.2.1)], [(1, some (.rblk (roomC n g))), (1001, some (.blk 127 [.ref 1 0])), (1002, some (.blk 3 [.i m])), (1004, some (.blk 3 [.i zz.2.2])), (9001, some (.mp (LpIs r1 .busy none))), (9002, some (.mp (LpIs r2 .ready none))), (10100, some (.blk 3 [.i a])), (10101, some (.blk 127 [.ref 1 0]))]⟩) (fun zz => (3600 - zz.2.1 < zz.1 ∧ 0 ≤ zz.2.1 ∧ zz.2.1 ≤ 7200) ∧ (0 ≤ zz.2.2 ∧ zz.2.2 ≤ 3601 - zz.1) ∧ (zz.2.2 + ((rowL n g a zz.1 zz.2.1).length : Int) = ((rowV n g a).length : Int))) (fun zz => zz.1) (3601, a, 0) ⟨(by (try dsimp only); first | omega | rfl | assumption | (simp; done)), (by (try dsimp only); first | omega | rfl | assumption | (simp; done)), (by (try dsimp only); simp [rowV])⟩
      (enr [] ⟨rfl, rfl, rfl, rfl, trivial⟩ (crr rfl (roomC_le rfl rfl) (cbl rfl rfl (cbl rfl rfl (cbl rfl rfl (cmp_ rfl (fun _ h => h) (cmp_ rfl (fun _ h => h) (cbl rfl rfl (cbl rfl rfl trivial))))))))) fun zz hp => ?_
  obtain ⟨j, b, c⟩ := zz
  obtain ⟨hj, hc, hl⟩ := hp
  dsimp only at hj hc hl
  show AW _ E2 _ _ ⟨36, [1, 1001, 1002, 1004, 9001, 9002, 10100, 10101], [(0, .l (.v (.func (.yield l2) #[] #[]))), (1, .l (.ref 10100 0)), (2, .l (.ref 10101 0)), (4, .i b)], [(1, some (.rblk (roomC n g))), (1001, some (.blk 127 [.ref 1 0])), (1002, some (.blk 3 [.i m])), (1004, some (.blk 3 [.i c])), (9001, some (.mp (LpIs r1 .busy none))), (9002, some (.mp (LpIs r2 .ready none))), (10100, some (.blk 3 [.i a])), (10101, some (.blk 127 [.ref 1 0]))]⟩
  apply aw_seq
  apply aw_seq
  rcases Bool.eq_false_or_eq_true (decide (b = a)) with h2 | h2
  ·
   have h2p : b = a := dtr h2
   refine awd [(3, .dec true)]
    ⟨36, [1, 1001, 1002, 1004, 9001, 9002, 10100, 10101], [(0, .l (.v (.func (.yield l2) #[] #[]))), (1, .l (.ref 10100 0)), (2, .l (.ref 10101 0)), (4, .i b), (23, .b true)], [(1, some (.rblk (roomC n g))), (1001, some (.blk 127 [.ref 1 0])), (1002, some (.blk 3 [.i m])), (1004, some (.blk 3 [.i c])), (9001, some (.mp (LpIs r1 .busy none))), (9002, some (.mp (LpIs r2 .ready none))), (10100, some (.blk 3 [.i a])), (10101, some (.blk 127 [.ref 1 0]))]⟩
    [decide (b = a) = true] (al1 h2) ?_
   refine aw_true rfl ?_
   apply aw_skip
   apply aw_seq
   apply aw_block
   apply aw_seq
   refine aw_yield hR2 2 []
    ⟨36, [1, 1001, 1002, 1004, 9001, 9002, 10100, 10101], [(0, .l (.v (.func (.yield l2) #[] #[]))), (1, .l (.ref 10100 0)), (2, .l (.ref 10101 0)), (4, .i b), (32, .l (.v (.func (.yield l2) #[] #[]))), (33, .i b)], [(1, some (.rblk (roomC n g))), (1001, some (.blk 127 [.ref 1 0])), (1002, some (.blk 3 [.i m])), (1004, some (.blk 3 [.i c])), (9001, some (.mp (LpIs r1 .busy none))), (9002, some (.mp (LpIs r2 .ready none))), (10100, some (.blk 3 [.i a])), (10101, some (.blk 127 [.ref 1 0]))]⟩
    [] [.i b] (some 34) [1, 1001, 1002, 1004, 9001, 9002, 10100, 10101] (by kernel_rfl) trivial (by kernel_rfl) rfl (by kernel_rfl) fun F2 hE2 hL2 => ?_
   refine aw_ent (T := ⟨18, [1, 1001, 1002, 1004, 9001, 9002, 10100, 10101], [(11, .i b), (2, .l (.ref 1002 0)), (4, .l (.ref 1004 0)), (10, .l (.fnc (.func 112) [10100, 10101]))], [(1, some (.rblk (roomC n g))), (1001, some (.blk 127 [.ref 1 0])), (1002, some (.blk 3 [.i m])), (1004, some (.blk 3 [.i c])), (9001, some (.mp (LpIs r1 .busy none))), (9002, some (.mp (LpIs r2 .ready none))), (10100, some (.blk 3 [.i a])), (10101, some (.blk 127 [.ref 1 0]))]⟩) (Ent.refl _) ?_
   apply aw_skip
   refine ⟨rfl, rfl, ?_⟩
   refine aw_ent (T := ⟨18, [1, 1001, 1002, 1004, 9001, 9002, 10100, 10101], [(11, .i b), (2, .l (.ref 1002 0)), (4, .l (.ref 1004 0)), (10, .l (.fnc (.func 112) [10100, 10101]))], [(1, some (.rblk (roomC n g))), (1001, some (.blk 127 [.ref 1 0])), (1002, some (.blk 3 [.i m])), (1004, some (.blk 3 [.i c])), (9001, some (.mp (LpIs r1 .busy none))), (9002, some (.mp (LpIs r2 .busy none))), (10100, some (.blk 3 [.i a])), (10101, some (.blk 127 [.ref 1 0]))]⟩)
    (enr [] ⟨rfl, rfl, rfl, rfl, trivial⟩ (crr rfl (roomC_le rfl rfl) (cbl rfl rfl (cbl rfl rfl (cbl rfl rfl (cmp_ rfl (fun _ h => h) (cmp_ rfl (fun _ h => h) (cbl rfl rfl (cbl rfl rfl trivial))))))))) ?_
   apply aw_block
   refine awr []
    ⟨18, [1, 1001, 1002, 1004, 9001, 9002, 10100, 10101], [], [(1, some (.rblk (roomC n g))), (1001, some (.blk 127 [.ref 1 0])), (1002, some (.blk 3 [.i m])), (1004, some (.blk 3 [.i (c + 1)])), (9001, some (.mp (LpIs r1 .busy none))), (9002, some (.mp (LpIs r2 .busy none))), (10100, some (.blk 3 [.i a])), (10101, some (.blk 127 [.ref 1 0]))]⟩
    [-9223372036854775808 ≤ (c + 1) ∧ (c + 1) < 9223372036854775808] (al1 (by omega)) ?_
   refine ⟨rfl, rfl, ?_⟩
   refine cont_mk []
    ⟨36, [1, 1001, 1002, 1004, 9001, 9002, 10100, 10101], [(0, .l (.v (.func (.yield l2) #[] #[]))), (1, .l (.ref 10100 0)), (2, .l (.ref 10101 0)), (4, .i b), (35, .b false)], [(1, some (.rblk (roomC n g))), (1001, some (.blk 127 [.ref 1 0])), (1002, some (.blk 3 [.i m])), (1004, some (.blk 3 [.i (c + 1)])), (9001, some (.mp (LpIs r1 .busy none))), (9002, some (.mp (LpIs r2 .ready none))), (10100, some (.blk 3 [.i a])), (10101, some (.blk 127 [.ref 1 0]))]⟩
    [] (by kernel_rfl) trivial ?_
   refine aw_false rfl ?_
   apply aw_skip
   refine awd [(5, .act [1] (.i g) []), (7, .call [1] (.i (fromV n (b + g))) [])]
    ⟨36, [1, 1001, 1002, 1004, 9001, 9002, 10100, 10101], [(0, .l (.v (.func (.yield l2) #[] #[]))), (1, .l (.ref 10100 0)), (2, .l (.ref 10101 0)), (4, .i (fromV n (b + g)))], [(1, some (.rblk (roomC n g))), (1001, some (.blk 127 [.ref 1 0])), (1002, some (.blk 3 [.i m])), (1004, some (.blk 3 [.i (c + 1)])), (9001, some (.mp (LpIs r1 .busy none))), (9002, some (.mp (LpIs r2 .ready none))), (10100, some (.blk 3 [.i a])), (10101, some (.blk 127 [.ref 1 0]))]⟩
    [ActOK Try.prog (.load 3 (.tmp 28)) 3 [.l (.ref 1 3601)] [1] [some (.rblk (roomC n g))] (.i g) [], -9223372036854775808 ≤ (b + g) ∧ (b + g) < 9223372036854775808, CallOK Try.prog 111 [.l (.ref 1 0), .i (b + g)] [1] [some (.rblk (roomC n g))] (.i (fromV n (b + g))) []] (al2 (act_loadAt (by kernel_rfl) rfl room_gap) (al2 (by omega) (al1 (cfr (from_fr n g (b + g) (by first | assumption | omega)) [(0, 1)] (dem_cons rfl (le_rblk (roomC_le rfl rfl)) dem_nil))))) ?_
   have hq := fromV_le hn (a := b + g) (by omega)
   exact ⟨((j - 1), (fromV n (b + g)), (c + 1)), ⟨(by (try dsimp only); first | omega | rfl | assumption | (simp; done)), (by (try dsimp only); first | omega | rfl | assumption | (simp; done)), (by (try dsimp only); rw [rowL_cons (by omega) (by omega)] at hl; simp only [List.length_cons] at hl; omega)⟩, (show (j - 1) < j by first | omega | rfl | assumption),
       (enr [] ⟨rfl, rfl, rfl, rfl, trivial⟩ (crr rfl (roomC_le rfl rfl) (cbl rfl rfl (cbl rfl rfl (cbl rfl rfl (cmp_ rfl (fun _ h => h) (cmp_ rfl (fun _ h => h) (cbl rfl rfl (cbl rfl rfl trivial)))))))))⟩
  ·
   have h2p : b ≠ a := deq h2
   rcases Bool.eq_false_or_eq_true (decide (b ≤ ((a + 3600) - g))) with h3 | h3
   ·
    have h3p : b ≤ ((a + 3600) - g) := dtr h3
    refine awd [(3, .dec false), (10, .act [1] (.i g) []), (13, .dec true)]
     ⟨36, [1, 1001, 1002, 1004, 9001, 9002, 10100, 10101], [(0, .l (.v (.func (.yield l2) #[] #[]))), (1, .l (.ref 10100 0)), (2, .l (.ref 10101 0)), (4, .i b), (23, .b (decide (b < 3600)))], [(1, some (.rblk (roomC n g))), (1001, some (.blk 127 [.ref 1 0])), (1002, some (.blk 3 [.i m])), (1004, some (.blk 3 [.i c])), (9001, some (.mp (LpIs r1 .busy none))), (9002, some (.mp (LpIs r2 .ready none))), (10100, some (.blk 3 [.i a])), (10101, some (.blk 127 [.ref 1 0]))]⟩
     [decide (b = a) = false, -9223372036854775808 ≤ (a + 3600) ∧ (a + 3600) < 9223372036854775808, ActOK Try.prog (.load 3 (.tmp 15)) 3 [.l (.ref 1 3601)] [1] [some (.rblk (roomC n g))] (.i g) [], -9223372036854775808 ≤ ((a + 3600) - g) ∧ ((a + 3600) - g) < 9223372036854775808, decide (b ≤ ((a + 3600) - g)) = true] (al2 h2 (al2 (by omega) (al2 (act_loadAt (by kernel_rfl) rfl room_gap) (al2 (by omega) (al1 h3))))) ?_
    refine aw_cond (b := decide (b < 3600)) rfl (fun h4 => ?_) (fun h4 => ?_)
    ·
     have h4p : b < 3600 := dtr h4
     apply aw_skip
     apply aw_seq
     apply aw_block
     apply aw_seq
     refine aw_yield hR2 2 []
      ⟨36, [1, 1001, 1002, 1004, 9001, 9002, 10100, 10101], [(0, .l (.v (.func (.yield l2) #[] #[]))), (1, .l (.ref 10100 0)), (2, .l (.ref 10101 0)), (4, .i b), (32, .l (.v (.func (.yield l2) #[] #[]))), (33, .i b)], [(1, some (.rblk (roomC n g))), (1001, some (.blk 127 [.ref 1 0])), (1002, some (.blk 3 [.i m])), (1004, some (.blk 3 [.i c])), (9001, some (.mp (LpIs r1 .busy none))), (9002, some (.mp (LpIs r2 .ready none))), (10100, some (.blk 3 [.i a])), (10101, some (.blk 127 [.ref 1 0]))]⟩
      [] [.i b] (some 34) [1, 1001, 1002, 1004, 9001, 9002, 10100, 10101] (by kernel_rfl) trivial (by kernel_rfl) rfl (by kernel_rfl) fun F3 hE3 hL3 => ?_
     refine aw_ent (T := ⟨18, [1, 1001, 1002, 1004, 9001, 9002, 10100, 10101], [(11, .i b), (2, .l (.ref 1002 0)), (4, .l (.ref 1004 0)), (10, .l (.fnc (.func 112) [10100, 10101]))], [(1, some (.rblk (roomC n g))), (1001, some (.blk 127 [.ref 1 0])), (1002, some (.blk 3 [.i m])), (1004, some (.blk 3 [.i c])), (9001, some (.mp (LpIs r1 .busy none))), (9002, some (.mp (LpIs r2 .ready none))), (10100, some (.blk 3 [.i a])), (10101, some (.blk 127 [.ref 1 0]))]⟩) (Ent.refl _) ?_
     apply aw_skip
     refine ⟨rfl, rfl, ?_⟩
     refine aw_ent (T := ⟨18, [1, 1001, 1002, 1004, 9001, 9002, 10100, 10101], [(11, .i b), (2, .l (.ref 1002 0)), (4, .l (.ref 1004 0)), (10, .l (.fnc (.func 112) [10100, 10101]))], [(1, some (.rblk (roomC n g))), (1001, some (.blk 127 [.ref 1 0])), (1002, some (.blk 3 [.i m])), (1004, some (.blk 3 [.i c])), (9001, some (.mp (LpIs r1 .busy none))), (9002, some (.mp (LpIs r2 .busy none))), (10100, some (.blk 3 [.i a])), (10101, some (.blk 127 [.ref 1 0]))]⟩)
      (enr [] ⟨rfl, rfl, rfl, rfl, trivial⟩ (crr rfl (roomC_le rfl rfl) (cbl rfl rfl (cbl rfl rfl (cbl rfl rfl (cmp_ rfl (fun _ h => h) (cmp_ rfl (fun _ h => h) (cbl rfl rfl (cbl rfl rfl trivial))))))))) ?_
     apply aw_block
     refine awr []
      ⟨18, [1, 1001, 1002, 1004, 9001, 9002, 10100, 10101], [], [(1, some (.rblk (roomC n g))), (1001, some (.blk 127 [.ref 1 0])), (1002, some (.blk 3 [.i m])), (1004, some (.blk 3 [.i (c + 1)])), (9001, some (.mp (LpIs r1 .busy none))), (9002, some (.mp (LpIs r2 .busy none))), (10100, some (.blk 3 [.i a])), (10101, some (.blk 127 [.ref 1 0]))]⟩
      [-9223372036854775808 ≤ (c + 1) ∧ (c + 1) < 9223372036854775808] (al1 (by omega)) ?_
     refine ⟨rfl, rfl, ?_⟩
     refine cont_mk []
      ⟨36, [1, 1001, 1002, 1004, 9001, 9002, 10100, 10101], [(0, .l (.v (.func (.yield l2) #[] #[]))), (1, .l (.ref 10100 0)), (2, .l (.ref 10101 0)), (4, .i b), (35, .b false)], [(1, some (.rblk (roomC n g))), (1001, some (.blk 127 [.ref 1 0])), (1002, some (.blk 3 [.i m])), (1004, some (.blk 3 [.i (c + 1)])), (9001, some (.mp (LpIs r1 .busy none))), (9002, some (.mp (LpIs r2 .ready none))), (10100, some (.blk 3 [.i a])), (10101, some (.blk 127 [.ref 1 0]))]⟩
      [] (by kernel_rfl) trivial ?_
     refine aw_false rfl ?_
     apply aw_skip
     refine awd [(5, .act [1] (.i g) []), (7, .call [1] (.i (fromV n (b + g))) [])]
      ⟨36, [1, 1001, 1002, 1004, 9001, 9002, 10100, 10101], [(0, .l (.v (.func (.yield l2) #[] #[]))), (1, .l (.ref 10100 0)), (2, .l (.ref 10101 0)), (4, .i (fromV n (b + g)))], [(1, some (.rblk (roomC n g))), (1001, some (.blk 127 [.ref 1 0])), (1002, some (.blk 3 [.i m])), (1004, some (.blk 3 [.i (c + 1)])), (9001, some (.mp (LpIs r1 .busy none))), (9002, some (.mp (LpIs r2 .ready none))), (10100, some (.blk 3 [.i a])), (10101, some (.blk 127 [.ref 1 0]))]⟩
      [ActOK Try.prog (.load 3 (.tmp 28)) 3 [.l (.ref 1 3601)] [1] [some (.rblk (roomC n g))] (.i g) [], -9223372036854775808 ≤ (b + g) ∧ (b + g) < 9223372036854775808, CallOK Try.prog 111 [.l (.ref 1 0), .i (b + g)] [1] [some (.rblk (roomC n g))] (.i (fromV n (b + g))) []] (al2 (act_loadAt (by kernel_rfl) rfl room_gap) (al2 (by omega) (al1 (cfr (from_fr n g (b + g) (by first | assumption | omega)) [(0, 1)] (dem_cons rfl (le_rblk (roomC_le rfl rfl)) dem_nil))))) ?_
     have hq := fromV_le hn (a := b + g) (by omega)
     exact ⟨((j - 1), (fromV n (b + g)), (c + 1)), ⟨(by (try dsimp only); first | omega | rfl | assumption | (simp; done)), (by (try dsimp only); first | omega | rfl | assumption | (simp; done)), (by (try dsimp only); rw [rowL_cons (by omega) (by omega)] at hl; simp only [List.length_cons] at hl; omega)⟩, (show (j - 1) < j by first | omega | rfl | assumption),
         (enr [] ⟨rfl, rfl, rfl, rfl, trivial⟩ (crr rfl (roomC_le rfl rfl) (cbl rfl rfl (cbl rfl rfl (cbl rfl rfl (cmp_ rfl (fun _ h => h) (cmp_ rfl (fun _ h => h) (cbl rfl rfl (cbl rfl rfl trivial)))))))))⟩
    ·
     have h4p : 3600 ≤ b := dlt h4
     refine aw_exit (exit_then (exit_then (exit_in ?_)))
     refine  ⟨.inl rfl, rfl, (by kernel_rfl), .inl ⟨rfl, ?_⟩⟩
     have hcl : c = ((rowV n g a).length : Int) := by
      rw [rowL_stop (by omega)] at hl
      simpa using hl
     refine awr []
      ⟨18, [1, 1001, 1002, 9001], [], [(1, some (.rblk (roomC n g))), (1001, some (.blk 127 [.ref 1 0])), (1002, some (.blk 3 [.i (max m c)])), (9001, some (.mp (LpIs r1 .busy none)))]⟩
      [] trivial ?_
     refine ⟨rfl, rfl, ?_⟩
     refine cont_mk []
      ⟨17, [1, 1001, 1002, 9001], [(0, .l (.ref 1 0)), (1, .l (.v (.func (.yield l1) #[] #[]))), (4, .i a), (16, .b false)], [(1, some (.rblk (roomC n g))), (1001, some (.blk 127 [.ref 1 0])), (1002, some (.blk 3 [.i (max m c)])), (9001, some (.mp (LpIs r1 .ready none)))]⟩
      [] (by kernel_rfl) trivial ?_
     refine aw_false rfl ?_
     apply aw_skip
     refine awr [(3, .call [1] (.i (fromV n (a + 1))) [])]
      ⟨17, [1, 1001, 1002, 9001], [(0, .l (.ref 1 0)), (1, .l (.v (.func (.yield l1) #[] #[]))), (4, .i (fromV n (a + 1)))], [(1, some (.rblk (roomC n g))), (1001, some (.blk 127 [.ref 1 0])), (1002, some (.blk 3 [.i (max m c)])), (9001, some (.mp (LpIs r1 .ready none)))]⟩
      [-9223372036854775808 ≤ (a + 1) ∧ (a + 1) < 9223372036854775808, CallOK Try.prog 111 [.l (.ref 1 0), .i (a + 1)] [1] [some (.rblk (roomC n g))] (.i (fromV n (a + 1))) []] (al2 (by omega) (al1 (cfr (from_fr n g (a + 1) (by first | assumption | omega)) [(0, 1)] (dem_cons rfl (le_rblk (roomC_le rfl rfl)) dem_nil)))) ?_
     have hq2 := fromV_le hn (a := a + 1) (by omega)
     exact ⟨((k - 1), (fromV n (a + 1)), (max m c)), ⟨(by (try dsimp only); first | omega | rfl | assumption | (simp; done)), (by (try dsimp only); rw [firstsL_cons (by omega) (by omega)] at hf; rw [hcl]; exact hf)⟩, (show (k - 1) < k by first | omega | rfl | assumption),
         (enr [] ⟨rfl, rfl, rfl, trivial⟩ (crr rfl (roomC_le rfl rfl) (cbl rfl rfl (cbl rfl rfl (cmp_ rfl (fun _ h => h) trivial)))))⟩
   ·
    have h3p : ((a + 3600) - g) < b := dle h3
    refine awd [(3, .dec false), (10, .act [1] (.i g) []), (13, .dec false)]
     ⟨36, [1, 1001, 1002, 1004, 9001, 9002, 10100, 10101], [(0, .l (.v (.func (.yield l2) #[] #[]))), (1, .l (.ref 10100 0)), (2, .l (.ref 10101 0)), (4, .i b), (23, .b false)], [(1, some (.rblk (roomC n g))), (1001, some (.blk 127 [.ref 1 0])), (1002, some (.blk 3 [.i m])), (1004, some (.blk 3 [.i c])), (9001, some (.mp (LpIs r1 .busy none))), (9002, some (.mp (LpIs r2 .ready none))), (10100, some (.blk 3 [.i a])), (10101, some (.blk 127 [.ref 1 0]))]⟩
     [decide (b = a) = false, -9223372036854775808 ≤ (a + 3600) ∧ (a + 3600) < 9223372036854775808, ActOK Try.prog (.load 3 (.tmp 15)) 3 [.l (.ref 1 3601)] [1] [some (.rblk (roomC n g))] (.i g) [], -9223372036854775808 ≤ ((a + 3600) - g) ∧ ((a + 3600) - g) < 9223372036854775808, decide (b ≤ ((a + 3600) - g)) = false] (al2 h2 (al2 (by omega) (al2 (act_loadAt (by kernel_rfl) rfl room_gap) (al2 (by omega) (al1 h3))))) ?_
    refine aw_false rfl ?_
    refine aw_exit (exit_then (exit_then (exit_in ?_)))
    refine  ⟨.inl rfl, rfl, (by kernel_rfl), .inl ⟨rfl, ?_⟩⟩
    have hcl : c = ((rowV n g a).length : Int) := by
     rw [rowL_stop (by omega)] at hl
     simpa using hl
    refine awr []
     ⟨18, [1, 1001, 1002, 9001], [], [(1, some (.rblk (roomC n g))), (1001, some (.blk 127 [.ref 1 0])), (1002, some (.blk 3 [.i (max m c)])), (9001, some (.mp (LpIs r1 .busy none)))]⟩
     [] trivial ?_
    refine ⟨rfl, rfl, ?_⟩
    refine cont_mk []
     ⟨17, [1, 1001, 1002, 9001], [(0, .l (.ref 1 0)), (1, .l (.v (.func (.yield l1) #[] #[]))), (4, .i a), (16, .b false)], [(1, some (.rblk (roomC n g))), (1001, some (.blk 127 [.ref 1 0])), (1002, some (.blk 3 [.i (max m c)])), (9001, some (.mp (LpIs r1 .ready none)))]⟩
     [] (by kernel_rfl) trivial ?_
    refine aw_false rfl ?_
    apply aw_skip
    refine awr [(3, .call [1] (.i (fromV n (a + 1))) [])]
     ⟨17, [1, 1001, 1002, 9001], [(0, .l (.ref 1 0)), (1, .l (.v (.func (.yield l1) #[] #[]))), (4, .i (fromV n (a + 1)))], [(1, some (.rblk (roomC n g))), (1001, some (.blk 127 [.ref 1 0])), (1002, some (.blk 3 [.i (max m c)])), (9001, some (.mp (LpIs r1 .ready none)))]⟩
     [-9223372036854775808 ≤ (a + 1) ∧ (a + 1) < 9223372036854775808, CallOK Try.prog 111 [.l (.ref 1 0), .i (a + 1)] [1] [some (.rblk (roomC n g))] (.i (fromV n (a + 1))) []] (al2 (by omega) (al1 (cfr (from_fr n g (a + 1) (by first | assumption | omega)) [(0, 1)] (dem_cons rfl (le_rblk (roomC_le rfl rfl)) dem_nil)))) ?_
    have hq2 := fromV_le hn (a := a + 1) (by omega)
    exact ⟨((k - 1), (fromV n (a + 1)), (max m c)), ⟨(by (try dsimp only); first | omega | rfl | assumption | (simp; done)), (by (try dsimp only); rw [firstsL_cons (by omega) (by omega)] at hf; rw [hcl]; exact hf)⟩, (show (k - 1) < k by first | omega | rfl | assumption),
        (enr [] ⟨rfl, rfl, rfl, trivial⟩ (crr rfl (roomC_le rfl rfl) (cbl rfl rfl (cbl rfl rfl (cmp_ rfl (fun _ h => h) trivial)))))⟩
 ·
  have h1p : 3600 ≤ a := dlt h1
  refine aw_exit (exit_then (exit_then (exit_in ?_)))
  refine  ⟨.inl rfl, rfl, (by kernel_rfl), .inl ⟨rfl, ?_⟩⟩
  apply aw_seq
  have hm : m = mostV n g := by
   rw [firstsL_stop (by omega)] at hf
   exact hf
  refine awr []
   ⟨18, [1], [(2, .l (.ref 1002 0))], [(1002, some (.blk 3 [.i m]))]⟩
   [] trivial ?_
  exact aw_ret ⟨.inr rfl, eok ⟨18, [1], [(2, .l (.ref 8002 0))], [(8002, some (.blk 3 [.i (mostV n g)]))]⟩
      (enr [(8002, 1002)] ⟨rfl, trivial⟩ (cbl rfl (by exact (cells_cons (cell_i (by first | rfl | omega | assumption)) rfl)) trivial)) wr_nil⟩
def angles_frH1 (n : Nat → Int) (g : Int) (m : Int) : List (Nat × Option Cn) := [(1, some (.rblk (roomC n g))), (1002, some (.blk 127 [.ref 1 0])), (1003, some (.blk 3 [.i m])), (1004, some (.blk 77 [.v (.slice none 0 0)])), (1005, some (.blk 4 [.v (.bool false)]))]
def angles_frH2  : List (Nat × Option Cn) := [(1004, some (.blk 77 [.v (.slice none 0 0)])), (1005, some (.blk 4 [.v (.bool true)]))]
def angles_frK3 (n : Nat → Int) (g : Int) (m : Int) : Cn := .vec 3 1 (((anglesO n g m).getD []).length) (Lst eI ((anglesO n g m).getD []))
def angles_frK4 (n : Nat → Int) (g : Int) (m : Int) : Cn := .blk 4 [.v (.bool ((anglesO n g m).isSome))]
def angles_frH5 (n : Nat → Int) (g : Int) (m : Int) : List (Nat × Option Cn) := [(7, some (angles_frK3 n g m)), (8004, some (.blk 77 [.ls 7])), (8005, some (angles_frK4 n g m))]
def angles_frK6 (o : List Int) (b : Int) : Cn := .vec 3 1 (o.length + 1) (Lst eI (o ++ [b]))
def angles_frH7  : List (Nat × Option Cn) := [(1004, some (.blk 77 [.v (.slice none 0 0)])), (1005, some (.blk 4 [.v (.bool false)]))]
set_option maxRecDepth 100000 in
theorem angles_fr (n : Nat → Int) (g m : Int) (hn : nextOk n) (hg : 1 ≤ g ∧ g ≤ 18000000) (hm : 0 ≤ m ∧ m ≤ 1000) : CallFr Try.prog 98 [.l (.ref 1 0), .i m] [1] [some (.rblk (roomC n g))] (.tup [.one (.ls 7), .one (.v (.bool ((anglesO n g m).isSome)))]) [(7, some (.vec 3 1 (((anglesO n g m).getD []).length) (Lst eI ((anglesO n g m).getD []))))] := by
 refine callFr_ofR (fn := Try.f98) (by kernel_rfl) rfl (by kernel_rfl) (by kernel_rfl) fun E hE => ?_
 refine aw_ent (T := ⟨27, [1], [(0, .l (.ref 1 0)), (1, .i m)], [(1, some (.rblk (roomC n g)))]⟩) (Ent.refl _) ?_
 apply aw_seq
 refine awr [(0, .new 1002), (1, .new 1003), (2, .new 1004), (3, .new 1005)]
  ⟨27, [1], [(2, .l (.ref 1002 0)), (3, .l (.ref 1003 0)), (4, .l (.ref 1004 0)), (5, .l (.ref 1005 0))], (angles_frH1 n g m)⟩
  [] trivial ?_
 apply aw_seq
 apply aw_seq
 refine awr []
  ⟨27, [1], [(2, .l (.ref 1002 0)), (3, .l (.ref 1003 0)), (4, .l (.ref 1004 0)), (5, .l (.ref 1005 0)), (10, .b (decide (m = 0)))], (angles_frH1 n g m)⟩
  [] trivial ?_
 refine aw_cond (b := decide (m = 0)) rfl (fun h1 => ?_) (fun h1 => ?_)
 ·
  have h1p : m = 0 := dtr h1
  apply aw_seq
  have hA : anglesO n g m = some [] := by
   unfold anglesO
   rw [if_pos (by omega)]
  refine awr []
   ⟨27, [1], [(4, .l (.ref 1004 0)), (5, .l (.ref 1005 0))], angles_frH2⟩
   [] trivial ?_
  exact aw_ret (ret_then ⟨.inr rfl, eok ⟨27, [1], [(4, .l (.ref 8004 0)), (5, .l (.ref 8005 0))], (angles_frH5 n g m)⟩
      (Ent.trans (Ent.nilCell 1004 70001 3 1 77 [.v (.slice none 0 0)] 0 (Lst eI ((anglesO n g m).getD [])) rfl rfl (by omega) (by kernel_rfl) (by kernel_rfl)) (enr [(8004, 1004), (8005, 1005), (7, 70001)] ⟨rfl, rfl, trivial⟩ (conts_cons rfl (le_vec (by first | rfl | omega | assumption | (rw [hA]; first | rfl | (simp; done))) el_rfl) (cbl rfl rfl (cbl rfl (by exact (cells_cons (cell_b (by first | rfl | omega | assumption | (rw [hA]; first | rfl | (simp; done)))) rfl)) trivial))))) (wr_cons rfl (plain_Lst plain_eI) wr_nil)⟩)
 ·
  have h1p : m ≠ 0 := deq h1
  apply aw_skip
  apply aw_seq
  apply aw_seq
  refine awr [(1, .act [1] (.l (.mth (.func 96) 1)) [])]
   ⟨27, [1], [(2, .l (.ref 1002 0)), (3, .l (.ref 1003 0)), (4, .l (.ref 1004 0)), (5, .l (.ref 1005 0)), (12, .l (.mth (.func 96) 1))], (angles_frH1 n g m)⟩
   [ActOK Try.prog (.makeFunc (.func 96) #[(.tmp 11)] #[]) 161 [.l (.ref 1 0)] [1] [some (.rblk (roomC n g))] (.l (.mth (.func 96) 1)) []] (al1 (act_makeM rfl)) ?_
  apply aw_block
  refine aw_range (gf := 96) (fN := Try.f96) (.mth (.func 96) 1) [1, 1002, 1003, 1004, 1005, 9001] 9001 (.inl hE) rfl rfl (by kernel_rfl) rfl (by kernel_rfl) (by kernel_rfl) fun E1 l1 r1 hR1 => ?_
  refine aw_ent (T := ⟨17, [1, 1002, 1003, 1004, 1005, 9001], [(0, .l (.ref 1 0)), (1, .l (.v (.func (.yield l1) #[] #[])))], [(9001, some (.mp (LpIs r1 .ready none))), (1, some (.rblk (roomC n g))), (1002, some (.blk 127 [.ref 1 0])), (1003, some (.blk 3 [.i m])), (1004, some (.blk 77 [.v (.slice none 0 0)])), (1005, some (.blk 4 [.v (.bool false)]))]⟩) (Ent.refl _) ?_
  apply aw_seq
  refine awr [(1, .call [1] (.i (fromV n 0)) [])]
   ⟨17, [1, 1002, 1003, 1004, 1005, 9001], [(0, .l (.ref 1 0)), (1, .l (.v (.func (.yield l1) #[] #[]))), (4, .i (fromV n 0))], [(1, some (.rblk (roomC n g))), (1002, some (.blk 127 [.ref 1 0])), (1003, some (.blk 3 [.i m])), (1004, some (.blk 77 [.v (.slice none 0 0)])), (1005, some (.blk 4 [.v (.bool false)])), (9001, some (.mp (LpIs r1 .ready none)))]⟩
   [CallOK Try.prog 111 [.l (.ref 1 0), .i 0] [1] [some (.rblk (roomC n g))] (.i (fromV n 0)) []] (al1 (cfr (from_fr n g 0 (by first | assumption | omega)) [(0, 1)] (dem_cons rfl (le_rblk (roomC_le rfl rfl)) dem_nil))) ?_
  apply aw_block
  refine aw_loop (ι := Nat × Int) (fun zz => ⟨17, [1, 1002, 1003, 1004, 1005, 9001], [(0, .l (.ref 1 0)), (1, .l (.v (.func (.yield l1) #[] #[]))), (4, .i zz.2)], [(1, some (.rblk (roomC n g))), (1002, some (.blk 127 [.ref 1 0])), (1003, some (.blk 3 [.i m])), (1004, some (.blk 77 [.v (.slice none 0 0)])), (1005, some (.blk 4 [.v (.bool false)])), (9001, some (.mp (LpIs r1 .ready none)))]⟩) (fun zz => (3600 - zz.2 < zz.1 ∧ 0 ≤ zz.2 ∧ zz.2 ≤ 7200) ∧ ((firstsL n zz.1 zz.2).findSome? (angF n g m) = (firstsV n).findSome? (angF n g m))) (fun zz => zz.1) (3601, (fromV n 0)) ⟨(by (try dsimp only); have := fromV_le hn (a := 0) (by omega); omega), (by (try dsimp only); rfl)⟩
      (enr [] ⟨rfl, rfl, rfl, trivial⟩ (crr rfl (roomC_le rfl rfl) (cbl rfl rfl (cbl rfl rfl (cbl rfl rfl (cbl rfl rfl (cmp_ rfl (fun _ h => h) trivial))))))) fun zz hp => ?_
  obtain ⟨k, a⟩ := zz
  obtain ⟨hk, hf⟩ := hp
  dsimp only at hk hf
  show AW _ E1 _ _ ⟨17, [1, 1002, 1003, 1004, 1005, 9001], [(0, .l (.ref 1 0)), (1, .l (.v (.func (.yield l1) #[] #[]))), (4, .i a)], [(1, some (.rblk (roomC n g))), (1002, some (.blk 127 [.ref 1 0])), (1003, some (.blk 3 [.i m])), (1004, some (.blk 77 [.v (.slice none 0 0)])), (1005, some (.blk 4 [.v (.bool false)])), (9001, some (.mp (LpIs r1 .ready none)))]⟩
  apply aw_seq
  apply aw_seq
  refine awr []
   ⟨17, [1, 1002, 1003, 1004, 1005, 9001], [(0, .l (.ref 1 0)), (1, .l (.v (.func (.yield l1) #[] #[]))), (4, .i a), (8, .b (decide (a < 3600)))], [(1, some (.rblk (roomC n g))), (1002, some (.blk 127 [.ref 1 0])), (1003, some (.blk 3 [.i m])), (1004, some (.blk 77 [.v (.slice none 0 0)])), (1005, some (.blk 4 [.v (.bool false)])), (9001, some (.mp (LpIs r1 .ready none)))]⟩
   [] trivial ?_
  refine aw_cond (b := decide (a < 3600)) rfl (fun h2 => ?_) (fun h2 => ?_)
  ·
   have h2p : a < 3600 := dtr h2
   apply aw_skip
   apply aw_seq
   apply aw_block
   apply aw_seq
   refine aw_yield hR1 2 []
    ⟨17, [1, 1002, 1003, 1004, 1005, 9001], [(0, .l (.ref 1 0)), (1, .l (.v (.func (.yield l1) #[] #[]))), (4, .i a), (13, .l (.v (.func (.yield l1) #[] #[]))), (14, .i a)], [(1, some (.rblk (roomC n g))), (1002, some (.blk 127 [.ref 1 0])), (1003, some (.blk 3 [.i m])), (1004, some (.blk 77 [.v (.slice none 0 0)])), (1005, some (.blk 4 [.v (.bool false)])), (9001, some (.mp (LpIs r1 .ready none)))]⟩
    [] [.i a] (some 15) [1, 1002, 1003, 1004, 1005, 9001] (by kernel_rfl) trivial (by kernel_rfl) rfl (by kernel_rfl) fun F1 hE1 hL1 => ?_
   refine aw_ent (T := ⟨27, [1, 1002, 1003, 1004, 1005, 9001], [(13, .i a), (2, .l (.ref 1002 0)), (3, .l (.ref 1003 0)), (4, .l (.ref 1004 0)), (5, .l (.ref 1005 0)), (12, .l (.mth (.func 96) 1))], [(1, some (.rblk (roomC n g))), (1002, some (.blk 127 [.ref 1 0])), (1003, some (.blk 3 [.i m])), (1004, some (.blk 77 [.v (.slice none 0 0)])), (1005, some (.blk 4 [.v (.bool false)])), (9001, some (.mp (LpIs r1 .ready none)))]⟩) (Ent.refl _) ?_
   refine awr []
    ⟨27, [1, 1002, 1003, 1004, 1005, 9001], [(2, .l (.ref 1002 0)), (3, .l (.ref 1003 0)), (4, .l (.ref 1004 0)), (5, .l (.ref 1005 0)), (6, .i a)], [(1, some (.rblk (roomC n g))), (1002, some (.blk 127 [.ref 1 0])), (1003, some (.blk 3 [.i m])), (1004, some (.blk 77 [.v (.slice none 0 0)])), (1005, some (.blk 4 [.v (.bool false)])), (9001, some (.mp (LpIs r1 .ready none)))]⟩
    [] trivial ?_
   refine ⟨rfl, rfl, ?_⟩
   refine aw_ent (T := ⟨27, [1, 1002, 1003, 1004, 1005, 9001], [(2, .l (.ref 1002 0)), (3, .l (.ref 1003 0)), (4, .l (.ref 1004 0)), (5, .l (.ref 1005 0)), (6, .i a)], [(1, some (.rblk (roomC n g))), (1002, some (.blk 127 [.ref 1 0])), (1003, some (.blk 3 [.i m])), (1004, some (.blk 77 [.v (.slice none 0 0)])), (1005, some (.blk 4 [.v (.bool false)])), (9001, some (.mp (LpIs r1 .busy none)))]⟩)
    (enr [] ⟨rfl, rfl, rfl, rfl, rfl, trivial⟩ (crr rfl (roomC_le rfl rfl) (cbl rfl rfl (cbl rfl rfl (cbl rfl rfl (cbl rfl rfl (cmp_ rfl (fun _ h => h) trivial))))))) ?_
   apply aw_block
   apply aw_seq
   refine awr [(0, .new 1007)]
    ⟨27, [1, 1002, 1003, 1004, 1005, 9001], [(2, .l (.ref 1002 0)), (3, .l (.ref 1003 0)), (4, .l (.ref 1004 0)), (5, .l (.ref 1005 0)), (6, .i a), (7, .l (.ref 1007 0))], [(1, some (.rblk (roomC n g))), (1002, some (.blk 127 [.ref 1 0])), (1003, some (.blk 3 [.i m])), (1004, some (.blk 77 [.v (.slice none 0 0)])), (1005, some (.blk 4 [.v (.bool false)])), (1007, some (.blk 77 [.v (.slice none 0 0)])), (9001, some (.mp (LpIs r1 .busy none)))]⟩
    [] trivial ?_
   apply aw_seq
   refine awr [(2, .call [1] (.l (.fnc (.func 112) [10160, 10161])) [(10160, some (.blk 3 [.i a])), (10161, some (.blk 127 [.ref 1 0]))])]
    ⟨27, [1, 1002, 1003, 1004, 1005, 9001], [(3, .l (.ref 1003 0)), (4, .l (.ref 1004 0)), (5, .l (.ref 1005 0)), (7, .l (.ref 1007 0)), (16, .l (.fnc (.func 112) [10160, 10161]))], [(1, some (.rblk (roomC n g))), (1002, some (.blk 127 [.ref 1 0])), (1003, some (.blk 3 [.i m])), (1004, some (.blk 77 [.v (.slice none 0 0)])), (1005, some (.blk 4 [.v (.bool false)])), (1007, some (.blk 77 [.v (.slice none 0 0)])), (9001, some (.mp (LpIs r1 .busy none))), (10160, some (.blk 3 [.i a])), (10161, some (.blk 127 [.ref 1 0]))]⟩
    [CallOK Try.prog 97 [.l (.ref 1 0), .i a] [1] [some (.rblk (roomC n g))] (.l (.fnc (.func 112) [10160, 10161])) [(10160, some (.blk 3 [.i a])), (10161, some (.blk 127 [.ref 1 0]))]] (al1 (cfr (row_fr n g a) [(0, 1), (2, 10160), (3, 10161)] (dem_cons rfl (le_rblk (roomC_le rfl rfl)) dem_nil))) ?_
   apply aw_block
   refine aw_range (gf := 112) (fN := Try.f112) (.fnc (.func 112) [10160, 10161]) [1, 1002, 1003, 1004, 1005, 1007, 9001, 9002, 10160, 10161] 9002 (.inr ⟨9001, _, _, _, _, hE1, rfl, (memB'_iff.1 rfl), hL1⟩) rfl rfl (by kernel_rfl) rfl (by kernel_rfl) (by kernel_rfl) fun E2 l2 r2 hR2 => ?_
   refine aw_ent (T := ⟨36, [1, 1002, 1003, 1004, 1005, 1007, 9001, 9002, 10160, 10161], [(0, .l (.v (.func (.yield l2) #[] #[]))), (1, .l (.ref 10160 0)), (2, .l (.ref 10161 0))], [(9002, some (.mp (LpIs r2 .ready none))), (1, some (.rblk (roomC n g))), (1002, some (.blk 127 [.ref 1 0])), (1003, some (.blk 3 [.i m])), (1004, some (.blk 77 [.v (.slice none 0 0)])), (1005, some (.blk 4 [.v (.bool false)])), (1007, some (.blk 77 [.v (.slice none 0 0)])), (9001, some (.mp (LpIs r1 .busy none))), (10160, some (.blk 3 [.i a])), (10161, some (.blk 127 [.ref 1 0]))]⟩) (Ent.refl _) ?_
   apply aw_seq
   refine awr []
    ⟨36, [1, 1002, 1003, 1004, 1005, 1007, 9001, 9002, 10160, 10161], [(0, .l (.v (.func (.yield l2) #[] #[]))), (1, .l (.ref 10160 0)), (2, .l (.ref 10161 0)), (4, .i a)], [(1, some (.rblk (roomC n g))), (1002, some (.blk 127 [.ref 1 0])), (1003, some (.blk 3 [.i m])), (1004, some (.blk 77 [.v (.slice none 0 0)])), (1005, some (.blk 4 [.v (.bool false)])), (1007, some (.blk 77 [.v (.slice none 0 0)])), (9001, some (.mp (LpIs r1 .busy none))), (9002, some (.mp (LpIs r2 .ready none))), (10160, some (.blk 3 [.i a])), (10161, some (.blk 127 [.ref 1 0]))]⟩
    [] trivial ?_
   apply aw_block
   refine aw_loop (ι := Nat × Int × List Int) (fun zz => ⟨36, [1, 1002, 1003, 1004, 1005, 1007, 9001, 9002, 10160, 10161], [(0, .l (.v (.func (.yield l2) #[] #[]))), (1, .l (.ref 10160 0)), (2, .l (.ref 10161 0)), (4, .i zz.2.1)], [(1, some (.rblk (roomC n g))), (1002, some (.blk 127 [.ref 1 0])), (1003, some (.blk 3 [.i m])), (1004, some (.blk 77 [.v (.slice none 0 0)])), (1005, some (.blk 4 [.v (.bool false)])), (1007, some (.blk 77 [.ls 2001])), (2001, some (.vec 3 1 zz.2.2.length (Lst eI zz.2.2))), (9001, some (.mp (LpIs r1 .busy none))), (9002, some (.mp (LpIs r2 .ready none))), (10160, some (.blk 3 [.i a])), (10161, some (.blk 127 [.ref 1 0]))]⟩) (fun zz => (3600 - zz.2.1 < zz.1 ∧ 0 ≤ zz.2.1 ∧ zz.2.1 ≤ 7200) ∧ ((zz.2.2.length : Int) < m ∧ zz.2.2.length + zz.1 ≤ 3601) ∧ (zz.2.2 ++ rowL n g a zz.1 zz.2.1 = rowV n g a)) (fun zz => zz.1) (3601, a, []) ⟨(by (try dsimp only); first | omega | rfl | assumption | (simp; done)), (by (try dsimp only); simp; omega), (by (try dsimp only); simp [rowV])⟩
       (Ent.trans (Ent.nilCell 1007 70002 3 1 77 [.v (.slice none 0 0)] 0 (Lst eI ([])) rfl rfl (by omega) (by kernel_rfl) (by kernel_rfl)) (enr [(2001, 70002)] ⟨rfl, rfl, rfl, rfl, trivial⟩ (crr rfl (roomC_le rfl rfl) (cbl rfl rfl (cbl rfl rfl (cbl rfl rfl (cbl rfl rfl (cbl rfl rfl (conts_cons rfl (le_vec (by first | rfl | omega | assumption | (rw [hA]; first | rfl | (simp; done))) el_rfl) (cmp_ rfl (fun _ h => h) (cmp_ rfl (fun _ h => h) (cbl rfl rfl (cbl rfl rfl trivial))))))))))))) fun zz hp => ?_
   obtain ⟨j, b, o⟩ := zz
   obtain ⟨hj, ho, hl⟩ := hp
   dsimp only at hj ho hl
   show AW _ E2 _ _ ⟨36, [1, 1002, 1003, 1004, 1005, 1007, 9001, 9002, 10160, 10161], [(0, .l (.v (.func (.yield l2) #[] #[]))), (1, .l (.ref 10160 0)), (2, .l (.ref 10161 0)), (4, .i b)], [(1, some (.rblk (roomC n g))), (1002, some (.blk 127 [.ref 1 0])), (1003, some (.blk 3 [.i m])), (1004, some (.blk 77 [.v (.slice none 0 0)])), (1005, some (.blk 4 [.v (.bool false)])), (1007, some (.blk 77 [.ls 2001])), (2001, some (.vec 3 1 o.length (Lst eI o))), (9001, some (.mp (LpIs r1 .busy none))), (9002, some (.mp (LpIs r2 .ready none))), (10160, some (.blk 3 [.i a])), (10161, some (.blk 127 [.ref 1 0]))]⟩
   apply aw_seq
   apply aw_seq
   rcases Bool.eq_false_or_eq_true (decide (b = a)) with h3 | h3
   ·
    have h3p : b = a := dtr h3
    refine awd [(3, .dec true)]
     ⟨36, [1, 1002, 1003, 1004, 1005, 1007, 9001, 9002, 10160, 10161], [(0, .l (.v (.func (.yield l2) #[] #[]))), (1, .l (.ref 10160 0)), (2, .l (.ref 10161 0)), (4, .i b), (23, .b true)], [(1, some (.rblk (roomC n g))), (1002, some (.blk 127 [.ref 1 0])), (1003, some (.blk 3 [.i m])), (1004, some (.blk 77 [.v (.slice none 0 0)])), (1005, some (.blk 4 [.v (.bool false)])), (1007, some (.blk 77 [.ls 2001])), (2001, some (.vec 3 1 o.length (Lst eI o))), (9001, some (.mp (LpIs r1 .busy none))), (9002, some (.mp (LpIs r2 .ready none))), (10160, some (.blk 3 [.i a])), (10161, some (.blk 127 [.ref 1 0]))]⟩
     [decide (b = a) = true] (al1 h3) ?_
    refine aw_true rfl ?_
    apply aw_skip
    apply aw_seq
    apply aw_block
    apply aw_seq
    refine aw_yield hR2 2 []
     ⟨36, [1, 1002, 1003, 1004, 1005, 1007, 9001, 9002, 10160, 10161], [(0, .l (.v (.func (.yield l2) #[] #[]))), (1, .l (.ref 10160 0)), (2, .l (.ref 10161 0)), (4, .i b), (32, .l (.v (.func (.yield l2) #[] #[]))), (33, .i b)], [(1, some (.rblk (roomC n g))), (1002, some (.blk 127 [.ref 1 0])), (1003, some (.blk 3 [.i m])), (1004, some (.blk 77 [.v (.slice none 0 0)])), (1005, some (.blk 4 [.v (.bool false)])), (1007, some (.blk 77 [.ls 2001])), (2001, some (.vec 3 1 o.length (Lst eI o))), (9001, some (.mp (LpIs r1 .busy none))), (9002, some (.mp (LpIs r2 .ready none))), (10160, some (.blk 3 [.i a])), (10161, some (.blk 127 [.ref 1 0]))]⟩
     [] [.i b] (some 34) [1, 1002, 1003, 1004, 1005, 1007, 9001, 9002, 10160, 10161] (by kernel_rfl) trivial (by kernel_rfl) rfl (by kernel_rfl) fun F2 hE2 hL2 => ?_
    refine aw_ent (T := ⟨27, [1, 1002, 1003, 1004, 1005, 1007, 9001, 9002, 10160, 10161], [(17, .i b), (3, .l (.ref 1003 0)), (4, .l (.ref 1004 0)), (5, .l (.ref 1005 0)), (7, .l (.ref 1007 0)), (16, .l (.fnc (.func 112) [10160, 10161]))], [(1, some (.rblk (roomC n g))), (1002, some (.blk 127 [.ref 1 0])), (1003, some (.blk 3 [.i m])), (1004, some (.blk 77 [.v (.slice none 0 0)])), (1005, some (.blk 4 [.v (.bool false)])), (1007, some (.blk 77 [.ls 2001])), (2001, some (.vec 3 1 o.length (Lst eI o))), (9001, some (.mp (LpIs r1 .busy none))), (9002, some (.mp (LpIs r2 .ready none))), (10160, some (.blk 3 [.i a])), (10161, some (.blk 127 [.ref 1 0]))]⟩) (Ent.refl _) ?_
    refine awr []
     ⟨27, [1, 1002, 1003, 1004, 1005, 1007, 9001, 9002, 10160, 10161], [(3, .l (.ref 1003 0)), (4, .l (.ref 1004 0)), (5, .l (.ref 1005 0)), (7, .l (.ref 1007 0)), (8, .i b)], [(1, some (.rblk (roomC n g))), (1002, some (.blk 127 [.ref 1 0])), (1003, some (.blk 3 [.i m])), (1004, some (.blk 77 [.v (.slice none 0 0)])), (1005, some (.blk 4 [.v (.bool false)])), (1007, some (.blk 77 [.ls 2001])), (2001, some (.vec 3 1 o.length (Lst eI o))), (9001, some (.mp (LpIs r1 .busy none))), (9002, some (.mp (LpIs r2 .ready none))), (10160, some (.blk 3 [.i a])), (10161, some (.blk 127 [.ref 1 0]))]⟩
     [] trivial ?_
    refine ⟨rfl, rfl, ?_⟩
    refine aw_ent (T := ⟨27, [1, 1002, 1003, 1004, 1005, 1007, 9001, 9002, 10160, 10161], [(3, .l (.ref 1003 0)), (4, .l (.ref 1004 0)), (5, .l (.ref 1005 0)), (7, .l (.ref 1007 0)), (8, .i b)], [(1, some (.rblk (roomC n g))), (1002, some (.blk 127 [.ref 1 0])), (1003, some (.blk 3 [.i m])), (1004, some (.blk 77 [.v (.slice none 0 0)])), (1005, some (.blk 4 [.v (.bool false)])), (1007, some (.blk 77 [.ls 2001])), (2001, some (.vec 3 1 o.length (Lst eI o))), (9001, some (.mp (LpIs r1 .busy none))), (9002, some (.mp (LpIs r2 .busy none))), (10160, some (.blk 3 [.i a])), (10161, some (.blk 127 [.ref 1 0]))]⟩)
     (enr [] ⟨rfl, rfl, rfl, rfl, rfl, trivial⟩ (crr rfl (roomC_le rfl rfl) (cbl rfl rfl (cbl rfl rfl (cbl rfl rfl (cbl rfl rfl (cbl rfl rfl (cve rfl (cmp_ rfl (fun _ h => h) (cmp_ rfl (fun _ h => h) (cbl rfl rfl (cbl rfl rfl trivial)))))))))))) ?_
    apply aw_block
    apply aw_seq
    refine awr [(2, .new 1020), (3, .lst 1021 (o.length + 1) (Lst eI (o ++ [b])))]
     ⟨27, [1, 1002, 1003, 1004, 1005, 1007, 9001, 9002, 10160, 10161], [(3, .l (.ref 1003 0)), (4, .l (.ref 1004 0)), (5, .l (.ref 1005 0)), (7, .l (.ref 1007 0))], [(1, some (.rblk (roomC n g))), (1002, some (.blk 127 [.ref 1 0])), (1003, some (.blk 3 [.i m])), (1004, some (.blk 77 [.v (.slice none 0 0)])), (1005, some (.blk 4 [.v (.bool false)])), (1007, some (.blk 77 [.ls 1021])), (1021, some (angles_frK6 o b)), (9001, some (.mp (LpIs r1 .busy none))), (9002, some (.mp (LpIs r2 .busy none))), (10160, some (.blk 3 [.i a])), (10161, some (.blk 127 [.ref 1 0]))]⟩
     [o.length + 1 ≤ 1000000000000, (o.length + 1) * 8 ≤ 140737488355328, AppOk 1 o.length 1 (Lst eI o) (exEl 1 [.i b]) (o.length + 1) (Lst eI (o ++ [b]))] (al2 (by omega) (al2 (by omega) (al1 (app_one (by first | omega | rfl | assumption) (by first | omega | rfl | assumption) (fun | 0, _ => rfl | (n + 1), h => absurd h (by omega)))))) ?_
    apply aw_seq
    refine awr []
     ⟨27, [1, 1002, 1003, 1004, 1005, 1007, 9001, 9002, 10160, 10161], [(4, .l (.ref 1004 0)), (5, .l (.ref 1005 0)), (7, .l (.ref 1007 0)), (25, .b (decide ((((o.length + 1) : Nat) : Int) = m)))], [(1, some (.rblk (roomC n g))), (1002, some (.blk 127 [.ref 1 0])), (1003, some (.blk 3 [.i m])), (1004, some (.blk 77 [.v (.slice none 0 0)])), (1005, some (.blk 4 [.v (.bool false)])), (1007, some (.blk 77 [.ls 1021])), (1021, some (angles_frK6 o b)), (9001, some (.mp (LpIs r1 .busy none))), (9002, some (.mp (LpIs r2 .busy none))), (10160, some (.blk 3 [.i a])), (10161, some (.blk 127 [.ref 1 0]))]⟩
     [] trivial ?_
    refine aw_cond (b := decide ((((o.length + 1) : Nat) : Int) = m)) rfl (fun h4 => ?_) (fun h4 => ?_)
    ·
     have h4p : (((o.length + 1) : Nat) : Int) = m := dtr h4
     apply aw_seq
     have hA : anglesO n g m = some (o ++ [b]) := ang_found (by omega) hf (by omega) (by omega) (ang_some (r := rowL n g a (j - 1) (fromV n (b + g))) (by rw [rowL_cons (by omega) (by omega)] at hl; rw [← hl]; simp) (by simp; omega))
     refine awr []
      ⟨27, [1, 1002, 1003, 1004, 1005, 1007, 9001, 9002, 10160, 10161], [(4, .l (.ref 1004 0)), (5, .l (.ref 1005 0))], [(1, some (.rblk (roomC n g))), (1002, some (.blk 127 [.ref 1 0])), (1003, some (.blk 3 [.i m])), (1004, some (.blk 77 [.ls 1021])), (1005, some (.blk 4 [.v (.bool true)])), (1007, some (.blk 77 [.ls 1021])), (1021, some (angles_frK6 o b)), (9001, some (.mp (LpIs r1 .busy none))), (9002, some (.mp (LpIs r2 .busy none))), (10160, some (.blk 3 [.i a])), (10161, some (.blk 127 [.ref 1 0]))]⟩
      [] trivial ?_
     refine aw_ret (ret_block ?_)
     refine ⟨rfl, rfl, ?_⟩
     refine cont_mk []
      ⟨36, [1, 1002, 1003, 1004, 1005, 1007, 9001, 9002, 10160, 10161], [(0, .l (.v (.func (.yield l2) #[] #[]))), (1, .l (.ref 10160 0)), (2, .l (.ref 10161 0)), (4, .i b), (35, .b true)], [(1, some (.rblk (roomC n g))), (1002, some (.blk 127 [.ref 1 0])), (1003, some (.blk 3 [.i m])), (1004, some (.blk 77 [.ls 1021])), (1005, some (.blk 4 [.v (.bool true)])), (1007, some (.blk 77 [.ls 1021])), (1021, some (angles_frK6 o b)), (9001, some (.mp (LpIs r1 .busy none))), (9002, some (.mp (LpIs r2 .done (some .ret)))), (10160, some (.blk 3 [.i a])), (10161, some (.blk 127 [.ref 1 0]))]⟩
      [] (by kernel_rfl) trivial ?_
     refine aw_true rfl ?_
     refine aw_ret (ret_block (ret_then (ret_then (ret_block ⟨.inr rfl, rfl, (by kernel_rfl), .inr ⟨.ret, rfl, .inl ⟨rfl, ?_⟩⟩⟩))))
     refine  (ret_block (ret_block ?_))
     refine ⟨rfl, rfl, ?_⟩
     refine cont_mk []
      ⟨17, [1, 1002, 1003, 1004, 1005, 9001], [(0, .l (.ref 1 0)), (1, .l (.v (.func (.yield l1) #[] #[]))), (4, .i a), (16, .b true)], [(1, some (.rblk (roomC n g))), (1002, some (.blk 127 [.ref 1 0])), (1003, some (.blk 3 [.i m])), (1004, some (.blk 77 [.ls 1021])), (1005, some (.blk 4 [.v (.bool true)])), (1021, some (angles_frK6 o b)), (9001, some (.mp (LpIs r1 .done (some .ret))))]⟩
      [] (by kernel_rfl) trivial ?_
     refine aw_true rfl ?_
     refine aw_ret (ret_block (ret_then (ret_then (ret_block ⟨.inr rfl, rfl, (by kernel_rfl), .inr ⟨.ret, rfl, .inl ⟨rfl, ?_⟩⟩⟩))))
     exact  (ret_block (ret_then ⟨.inr rfl, eok ⟨27, [1], [(4, .l (.ref 8004 0)), (5, .l (.ref 8005 0))], (angles_frH5 n g m)⟩
         (enr [(8004, 1004), (8005, 1005), (7, 1021)] ⟨rfl, rfl, trivial⟩ (conts_cons rfl (le_vec (by first | rfl | omega | assumption | (rw [hA]; first | rfl | (simp; done))) (lst_eq (by first | rfl | omega | assumption | (rw [hA]; first | rfl | (simp; done))))) (cbl rfl rfl (cbl rfl (by exact (cells_cons (cell_b (by first | rfl | omega | assumption | (rw [hA]; first | rfl | (simp; done)))) rfl)) trivial)))) (wr_cons rfl (plain_Lst plain_eI) wr_nil)⟩))
    ·
     have h4p : (((o.length + 1) : Nat) : Int) ≠ m := deq h4
     apply aw_skip
     refine ⟨rfl, rfl, ?_⟩
     refine cont_mk []
      ⟨36, [1, 1002, 1003, 1004, 1005, 1007, 9001, 9002, 10160, 10161], [(0, .l (.v (.func (.yield l2) #[] #[]))), (1, .l (.ref 10160 0)), (2, .l (.ref 10161 0)), (4, .i b), (35, .b false)], [(1, some (.rblk (roomC n g))), (1002, some (.blk 127 [.ref 1 0])), (1003, some (.blk 3 [.i m])), (1004, some (.blk 77 [.v (.slice none 0 0)])), (1005, some (.blk 4 [.v (.bool false)])), (1007, some (.blk 77 [.ls 1021])), (1021, some (angles_frK6 o b)), (9001, some (.mp (LpIs r1 .busy none))), (9002, some (.mp (LpIs r2 .ready none))), (10160, some (.blk 3 [.i a])), (10161, some (.blk 127 [.ref 1 0]))]⟩
      [] (by kernel_rfl) trivial ?_
     refine aw_false rfl ?_
     apply aw_skip
     refine awd [(5, .act [1] (.i g) []), (7, .call [1] (.i (fromV n (b + g))) [])]
      ⟨36, [1, 1002, 1003, 1004, 1005, 1007, 9001, 9002, 10160, 10161], [(0, .l (.v (.func (.yield l2) #[] #[]))), (1, .l (.ref 10160 0)), (2, .l (.ref 10161 0)), (4, .i (fromV n (b + g)))], [(1, some (.rblk (roomC n g))), (1002, some (.blk 127 [.ref 1 0])), (1003, some (.blk 3 [.i m])), (1004, some (.blk 77 [.v (.slice none 0 0)])), (1005, some (.blk 4 [.v (.bool false)])), (1007, some (.blk 77 [.ls 1021])), (1021, some (angles_frK6 o b)), (9001, some (.mp (LpIs r1 .busy none))), (9002, some (.mp (LpIs r2 .ready none))), (10160, some (.blk 3 [.i a])), (10161, some (.blk 127 [.ref 1 0]))]⟩
      [ActOK Try.prog (.load 3 (.tmp 28)) 3 [.l (.ref 1 3601)] [1] [some (.rblk (roomC n g))] (.i g) [], -9223372036854775808 ≤ (b + g) ∧ (b + g) < 9223372036854775808, CallOK Try.prog 111 [.l (.ref 1 0), .i (b + g)] [1] [some (.rblk (roomC n g))] (.i (fromV n (b + g))) []] (al2 (act_loadAt (by kernel_rfl) rfl room_gap) (al2 (by omega) (al1 (cfr (from_fr n g (b + g) (by first | assumption | omega)) [(0, 1)] (dem_cons rfl (le_rblk (roomC_le rfl rfl)) dem_nil))))) ?_
     have hq := fromV_le hn (a := b + g) (by omega)
     exact ⟨((j - 1), (fromV n (b + g)), (o ++ [b])), ⟨(by (try dsimp only); first | omega | rfl | assumption | (simp; done)), (by (try dsimp only); simp only [List.length_append, List.length_cons, List.length_nil]; omega), (by (try dsimp only); rw [rowL_cons (by omega) (by omega)] at hl; rw [← hl]; simp)⟩, (show (j - 1) < j by first | omega | rfl | assumption),
         (enr [(2001, 1021)] ⟨rfl, rfl, rfl, rfl, trivial⟩ (crr rfl (roomC_le rfl rfl) (cbl rfl rfl (cbl rfl rfl (cbl rfl rfl (cbl rfl rfl (cbl rfl rfl (conts_cons rfl (le_vec (by first | rfl | omega | assumption | (simp; done) | (rw [hA]; first | rfl | (simp; done))) el_rfl) (cmp_ rfl (fun _ h => h) (cmp_ rfl (fun _ h => h) (cbl rfl rfl (cbl rfl rfl trivial))))))))))))⟩
   ·
    have h3p : b ≠ a := deq h3
    rcases Bool.eq_false_or_eq_true (decide (b ≤ ((a + 3600) - g))) with h5 | h5
    ·
     have h5p : b ≤ ((a + 3600) - g) := dtr h5
     refine awd [(3, .dec false), (10, .act [1] (.i g) []), (13, .dec true)]
      ⟨36, [1, 1002, 1003, 1004, 1005, 1007, 9001, 9002, 10160, 10161], [(0, .l (.v (.func (.yield l2) #[] #[]))), (1, .l (.ref 10160 0)), (2, .l (.ref 10161 0)), (4, .i b), (23, .b (decide (b < 3600)))], [(1, some (.rblk (roomC n g))), (1002, some (.blk 127 [.ref 1 0])), (1003, some (.blk 3 [.i m])), (1004, some (.blk 77 [.v (.slice none 0 0)])), (1005, some (.blk 4 [.v (.bool false)])), (1007, some (.blk 77 [.ls 2001])), (2001, some (.vec 3 1 o.length (Lst eI o))), (9001, some (.mp (LpIs r1 .busy none))), (9002, some (.mp (LpIs r2 .ready none))), (10160, some (.blk 3 [.i a])), (10161, some (.blk 127 [.ref 1 0]))]⟩
      [decide (b = a) = false, -9223372036854775808 ≤ (a + 3600) ∧ (a + 3600) < 9223372036854775808, ActOK Try.prog (.load 3 (.tmp 15)) 3 [.l (.ref 1 3601)] [1] [some (.rblk (roomC n g))] (.i g) [], -9223372036854775808 ≤ ((a + 3600) - g) ∧ ((a + 3600) - g) < 9223372036854775808, decide (b ≤ ((a + 3600) - g)) = true] (al2 h3 (al2 (by omega) (al2 (act_loadAt (by kernel_rfl) rfl room_gap) (al2 (by omega) (al1 h5))))) ?_
     refine aw_cond (b := decide (b < 3600)) rfl (fun h6 => ?_) (fun h6 => ?_)
     ·
      have h6p : b < 3600 := dtr h6
      apply aw_skip
      apply aw_seq
      apply aw_block
      apply aw_seq
      refine aw_yield hR2 2 []
       ⟨36, [1, 1002, 1003, 1004, 1005, 1007, 9001, 9002, 10160, 10161], [(0, .l (.v (.func (.yield l2) #[] #[]))), (1, .l (.ref 10160 0)), (2, .l (.ref 10161 0)), (4, .i b), (32, .l (.v (.func (.yield l2) #[] #[]))), (33, .i b)], [(1, some (.rblk (roomC n g))), (1002, some (.blk 127 [.ref 1 0])), (1003, some (.blk 3 [.i m])), (1004, some (.blk 77 [.v (.slice none 0 0)])), (1005, some (.blk 4 [.v (.bool false)])), (1007, some (.blk 77 [.ls 2001])), (2001, some (.vec 3 1 o.length (Lst eI o))), (9001, some (.mp (LpIs r1 .busy none))), (9002, some (.mp (LpIs r2 .ready none))), (10160, some (.blk 3 [.i a])), (10161, some (.blk 127 [.ref 1 0]))]⟩
       [] [.i b] (some 34) [1, 1002, 1003, 1004, 1005, 1007, 9001, 9002, 10160, 10161] (by kernel_rfl) trivial (by kernel_rfl) rfl (by kernel_rfl) fun F3 hE3 hL3 => ?_
      refine aw_ent (T := ⟨27, [1, 1002, 1003, 1004, 1005, 1007, 9001, 9002, 10160, 10161], [(17, .i b), (3, .l (.ref 1003 0)), (4, .l (.ref 1004 0)), (5, .l (.ref 1005 0)), (7, .l (.ref 1007 0)), (16, .l (.fnc (.func 112) [10160, 10161]))], [(1, some (.rblk (roomC n g))), (1002, some (.blk 127 [.ref 1 0])), (1003, some (.blk 3 [.i m])), (1004, some (.blk 77 [.v (.slice none 0 0)])), (1005, some (.blk 4 [.v (.bool false)])), (1007, some (.blk 77 [.ls 2001])), (2001, some (.vec 3 1 o.length (Lst eI o))), (9001, some (.mp (LpIs r1 .busy none))), (9002, some (.mp (LpIs r2 .ready none))), (10160, some (.blk 3 [.i a])), (10161, some (.blk 127 [.ref 1 0]))]⟩) (Ent.refl _) ?_
      refine awr []
       ⟨27, [1, 1002, 1003, 1004, 1005, 1007, 9001, 9002, 10160, 10161], [(3, .l (.ref 1003 0)), (4, .l (.ref 1004 0)), (5, .l (.ref 1005 0)), (7, .l (.ref 1007 0)), (8, .i b)], [(1, some (.rblk (roomC n g))), (1002, some (.blk 127 [.ref 1 0])), (1003, some (.blk 3 [.i m])), (1004, some (.blk 77 [.v (.slice none 0 0)])), (1005, some (.blk 4 [.v (.bool false)])), (1007, some (.blk 77 [.ls 2001])), (2001, some (.vec 3 1 o.length (Lst eI o))), (9001, some (.mp (LpIs r1 .busy none))), (9002, some (.mp (LpIs r2 .ready none))), (10160, some (.blk 3 [.i a])), (10161, some (.blk 127 [.ref 1 0]))]⟩
       [] trivial ?_
      refine ⟨rfl, rfl, ?_⟩
      refine aw_ent (T := ⟨27, [1, 1002, 1003, 1004, 1005, 1007, 9001, 9002, 10160, 10161], [(3, .l (.ref 1003 0)), (4, .l (.ref 1004 0)), (5, .l (.ref 1005 0)), (7, .l (.ref 1007 0)), (8, .i b)], [(1, some (.rblk (roomC n g))), (1002, some (.blk 127 [.ref 1 0])), (1003, some (.blk 3 [.i m])), (1004, some (.blk 77 [.v (.slice none 0 0)])), (1005, some (.blk 4 [.v (.bool false)])), (1007, some (.blk 77 [.ls 2001])), (2001, some (.vec 3 1 o.length (Lst eI o))), (9001, some (.mp (LpIs r1 .busy none))), (9002, some (.mp (LpIs r2 .busy none))), (10160, some (.blk 3 [.i a])), (10161, some (.blk 127 [.ref 1 0]))]⟩)
       (enr [] ⟨rfl, rfl, rfl, rfl, rfl, trivial⟩ (crr rfl (roomC_le rfl rfl) (cbl rfl rfl (cbl rfl rfl (cbl rfl rfl (cbl rfl rfl (cbl rfl rfl (cve rfl (cmp_ rfl (fun _ h => h) (cmp_ rfl (fun _ h => h) (cbl rfl rfl (cbl rfl rfl trivial)))))))))))) ?_
      apply aw_block
      apply aw_seq
      refine awr [(2, .new 1020), (3, .lst 1021 (o.length + 1) (Lst eI (o ++ [b])))]
       ⟨27, [1, 1002, 1003, 1004, 1005, 1007, 9001, 9002, 10160, 10161], [(3, .l (.ref 1003 0)), (4, .l (.ref 1004 0)), (5, .l (.ref 1005 0)), (7, .l (.ref 1007 0))], [(1, some (.rblk (roomC n g))), (1002, some (.blk 127 [.ref 1 0])), (1003, some (.blk 3 [.i m])), (1004, some (.blk 77 [.v (.slice none 0 0)])), (1005, some (.blk 4 [.v (.bool false)])), (1007, some (.blk 77 [.ls 1021])), (1021, some (angles_frK6 o b)), (9001, some (.mp (LpIs r1 .busy none))), (9002, some (.mp (LpIs r2 .busy none))), (10160, some (.blk 3 [.i a])), (10161, some (.blk 127 [.ref 1 0]))]⟩
       [o.length + 1 ≤ 1000000000000, (o.length + 1) * 8 ≤ 140737488355328, AppOk 1 o.length 1 (Lst eI o) (exEl 1 [.i b]) (o.length + 1) (Lst eI (o ++ [b]))] (al2 (by omega) (al2 (by omega) (al1 (app_one (by first | omega | rfl | assumption) (by first | omega | rfl | assumption) (fun | 0, _ => rfl | (n + 1), h => absurd h (by omega)))))) ?_
      apply aw_seq
      refine awr []
       ⟨27, [1, 1002, 1003, 1004, 1005, 1007, 9001, 9002, 10160, 10161], [(4, .l (.ref 1004 0)), (5, .l (.ref 1005 0)), (7, .l (.ref 1007 0)), (25, .b (decide ((((o.length + 1) : Nat) : Int) = m)))], [(1, some (.rblk (roomC n g))), (1002, some (.blk 127 [.ref 1 0])), (1003, some (.blk 3 [.i m])), (1004, some (.blk 77 [.v (.slice none 0 0)])), (1005, some (.blk 4 [.v (.bool false)])), (1007, some (.blk 77 [.ls 1021])), (1021, some (angles_frK6 o b)), (9001, some (.mp (LpIs r1 .busy none))), (9002, some (.mp (LpIs r2 .busy none))), (10160, some (.blk 3 [.i a])), (10161, some (.blk 127 [.ref 1 0]))]⟩
       [] trivial ?_
      refine aw_cond (b := decide ((((o.length + 1) : Nat) : Int) = m)) rfl (fun h7 => ?_) (fun h7 => ?_)
      ·
       have h7p : (((o.length + 1) : Nat) : Int) = m := dtr h7
       apply aw_seq
       have hA : anglesO n g m = some (o ++ [b]) := ang_found (by omega) hf (by omega) (by omega) (ang_some (r := rowL n g a (j - 1) (fromV n (b + g))) (by rw [rowL_cons (by omega) (by omega)] at hl; rw [← hl]; simp) (by simp; omega))
       refine awr []
        ⟨27, [1, 1002, 1003, 1004, 1005, 1007, 9001, 9002, 10160, 10161], [(4, .l (.ref 1004 0)), (5, .l (.ref 1005 0))], [(1, some (.rblk (roomC n g))), (1002, some (.blk 127 [.ref 1 0])), (1003, some (.blk 3 [.i m])), (1004, some (.blk 77 [.ls 1021])), (1005, some (.blk 4 [.v (.bool true)])), (1007, some (.blk 77 [.ls 1021])), (1021, some (angles_frK6 o b)), (9001, some (.mp (LpIs r1 .busy none))), (9002, some (.mp (LpIs r2 .busy none))), (10160, some (.blk 3 [.i a])), (10161, some (.blk 127 [.ref 1 0]))]⟩
        [] trivial ?_
       refine aw_ret (ret_block ?_)
       refine ⟨rfl, rfl, ?_⟩
       refine cont_mk []
        ⟨36, [1, 1002, 1003, 1004, 1005, 1007, 9001, 9002, 10160, 10161], [(0, .l (.v (.func (.yield l2) #[] #[]))), (1, .l (.ref 10160 0)), (2, .l (.ref 10161 0)), (4, .i b), (35, .b true)], [(1, some (.rblk (roomC n g))), (1002, some (.blk 127 [.ref 1 0])), (1003, some (.blk 3 [.i m])), (1004, some (.blk 77 [.ls 1021])), (1005, some (.blk 4 [.v (.bool true)])), (1007, some (.blk 77 [.ls 1021])), (1021, some (angles_frK6 o b)), (9001, some (.mp (LpIs r1 .busy none))), (9002, some (.mp (LpIs r2 .done (some .ret)))), (10160, some (.blk 3 [.i a])), (10161, some (.blk 127 [.ref 1 0]))]⟩
        [] (by kernel_rfl) trivial ?_
       refine aw_true rfl ?_
       refine aw_ret (ret_block (ret_then (ret_then (ret_block ⟨.inr rfl, rfl, (by kernel_rfl), .inr ⟨.ret, rfl, .inl ⟨rfl, ?_⟩⟩⟩))))
       refine  (ret_block (ret_block ?_))
       refine ⟨rfl, rfl, ?_⟩
       refine cont_mk []
        ⟨17, [1, 1002, 1003, 1004, 1005, 9001], [(0, .l (.ref 1 0)), (1, .l (.v (.func (.yield l1) #[] #[]))), (4, .i a), (16, .b true)], [(1, some (.rblk (roomC n g))), (1002, some (.blk 127 [.ref 1 0])), (1003, some (.blk 3 [.i m])), (1004, some (.blk 77 [.ls 1021])), (1005, some (.blk 4 [.v (.bool true)])), (1021, some (angles_frK6 o b)), (9001, some (.mp (LpIs r1 .done (some .ret))))]⟩
        [] (by kernel_rfl) trivial ?_
       refine aw_true rfl ?_
       refine aw_ret (ret_block (ret_then (ret_then (ret_block ⟨.inr rfl, rfl, (by kernel_rfl), .inr ⟨.ret, rfl, .inl ⟨rfl, ?_⟩⟩⟩))))
       exact  (ret_block (ret_then ⟨.inr rfl, eok ⟨27, [1], [(4, .l (.ref 8004 0)), (5, .l (.ref 8005 0))], (angles_frH5 n g m)⟩
           (enr [(8004, 1004), (8005, 1005), (7, 1021)] ⟨rfl, rfl, trivial⟩ (conts_cons rfl (le_vec (by first | rfl | omega | assumption | (rw [hA]; first | rfl | (simp; done))) (lst_eq (by first | rfl | omega | assumption | (rw [hA]; first | rfl | (simp; done))))) (cbl rfl rfl (cbl rfl (by exact (cells_cons (cell_b (by first | rfl | omega | assumption | (rw [hA]; first | rfl | (simp; done)))) rfl)) trivial)))) (wr_cons rfl (plain_Lst plain_eI) wr_nil)⟩))
      ·
       have h7p : (((o.length + 1) : Nat) : Int) ≠ m := deq h7
       apply aw_skip
       refine ⟨rfl, rfl, ?_⟩
       refine cont_mk []
        ⟨36, [1, 1002, 1003, 1004, 1005, 1007, 9001, 9002, 10160, 10161], [(0, .l (.v (.func (.yield l2) #[] #[]))), (1, .l (.ref 10160 0)), (2, .l (.ref 10161 0)), (4, .i b), (35, .b false)], [(1, some (.rblk (roomC n g))), (1002, some (.blk 127 [.ref 1 0])), (1003, some (.blk 3 [.i m])), (1004, some (.blk 77 [.v (.slice none 0 0)])), (1005, some (.blk 4 [.v (.bool false)])), (1007, some (.blk 77 [.ls 1021])), (1021, some (angles_frK6 o b)), (9001, some (.mp (LpIs r1 .busy none))), (9002, some (.mp (LpIs r2 .ready none))), (10160, some (.blk 3 [.i a])), (10161, some (.blk 127 [.ref 1 0]))]⟩
        [] (by kernel_rfl) trivial ?_
       refine aw_false rfl ?_
       apply aw_skip
       refine awd [(5, .act [1] (.i g) []), (7, .call [1] (.i (fromV n (b + g))) [])]
        ⟨36, [1, 1002, 1003, 1004, 1005, 1007, 9001, 9002, 10160, 10161], [(0, .l (.v (.func (.yield l2) #[] #[]))), (1, .l (.ref 10160 0)), (2, .l (.ref 10161 0)), (4, .i (fromV n (b + g)))], [(1, some (.rblk (roomC n g))), (1002, some (.blk 127 [.ref 1 0])), (1003, some (.blk 3 [.i m])), (1004, some (.blk 77 [.v (.slice none 0 0)])), (1005, some (.blk 4 [.v (.bool false)])), (1007, some (.blk 77 [.ls 1021])), (1021, some (angles_frK6 o b)), (9001, some (.mp (LpIs r1 .busy none))), (9002, some (.mp (LpIs r2 .ready none))), (10160, some (.blk 3 [.i a])), (10161, some (.blk 127 [.ref 1 0]))]⟩
        [ActOK Try.prog (.load 3 (.tmp 28)) 3 [.l (.ref 1 3601)] [1] [some (.rblk (roomC n g))] (.i g) [], -9223372036854775808 ≤ (b + g) ∧ (b + g) < 9223372036854775808, CallOK Try.prog 111 [.l (.ref 1 0), .i (b + g)] [1] [some (.rblk (roomC n g))] (.i (fromV n (b + g))) []] (al2 (act_loadAt (by kernel_rfl) rfl room_gap) (al2 (by omega) (al1 (cfr (from_fr n g (b + g) (by first | assumption | omega)) [(0, 1)] (dem_cons rfl (le_rblk (roomC_le rfl rfl)) dem_nil))))) ?_
       have hq := fromV_le hn (a := b + g) (by omega)
       exact ⟨((j - 1), (fromV n (b + g)), (o ++ [b])), ⟨(by (try dsimp only); first | omega | rfl | assumption | (simp; done)), (by (try dsimp only); simp only [List.length_append, List.length_cons, List.length_nil]; omega), (by (try dsimp only); rw [rowL_cons (by omega) (by omega)] at hl; rw [← hl]; simp)⟩, (show (j - 1) < j by first | omega | rfl | assumption),
           (enr [(2001, 1021)] ⟨rfl, rfl, rfl, rfl, trivial⟩ (crr rfl (roomC_le rfl rfl) (cbl rfl rfl (cbl rfl rfl (cbl rfl rfl (cbl rfl rfl (cbl rfl rfl (conts_cons rfl (le_vec (by first | rfl | omega | assumption | (simp; done) | (rw [hA]; first | rfl | (simp; done))) el_rfl) (cmp_ rfl (fun _ h => h) (cmp_ rfl (fun _ h => h) (cbl rfl rfl (cbl rfl rfl trivial))))))))))))⟩
     ·
      have h6p : 3600 ≤ b := dlt h6
      refine aw_exit (exit_then (exit_then (exit_in ?_)))
      refine  ⟨.inl rfl, rfl, (by kernel_rfl), .inl ⟨rfl, ?_⟩⟩
      refine ⟨rfl, rfl, ?_⟩
      refine cont_mk []
       ⟨17, [1, 1002, 1003, 1004, 1005, 9001], [(0, .l (.ref 1 0)), (1, .l (.v (.func (.yield l1) #[] #[]))), (4, .i a), (16, .b false)], [(1, some (.rblk (roomC n g))), (1002, some (.blk 127 [.ref 1 0])), (1003, some (.blk 3 [.i m])), (1004, some (.blk 77 [.v (.slice none 0 0)])), (1005, some (.blk 4 [.v (.bool false)])), (9001, some (.mp (LpIs r1 .ready none)))]⟩
       [] (by kernel_rfl) trivial ?_
      refine aw_false rfl ?_
      apply aw_skip
      refine awr [(3, .call [1] (.i (fromV n (a + 1))) [])]
       ⟨17, [1, 1002, 1003, 1004, 1005, 9001], [(0, .l (.ref 1 0)), (1, .l (.v (.func (.yield l1) #[] #[]))), (4, .i (fromV n (a + 1)))], [(1, some (.rblk (roomC n g))), (1002, some (.blk 127 [.ref 1 0])), (1003, some (.blk 3 [.i m])), (1004, some (.blk 77 [.v (.slice none 0 0)])), (1005, some (.blk 4 [.v (.bool false)])), (9001, some (.mp (LpIs r1 .ready none)))]⟩
       [-9223372036854775808 ≤ (a + 1) ∧ (a + 1) < 9223372036854775808, CallOK Try.prog 111 [.l (.ref 1 0), .i (a + 1)] [1] [some (.rblk (roomC n g))] (.i (fromV n (a + 1))) []] (al2 (by omega) (al1 (cfr (from_fr n g (a + 1) (by first | assumption | omega)) [(0, 1)] (dem_cons rfl (le_rblk (roomC_le rfl rfl)) dem_nil)))) ?_
      have hq2 := fromV_le hn (a := a + 1) (by omega)
      have hNo := ang_none (m := m) (by rw [rowL_stop (by omega)] at hl; simpa using hl) ho.1
      exact ⟨((k - 1), (fromV n (a + 1))), ⟨(by (try dsimp only); first | omega | rfl | assumption | (simp; done)), (by (try dsimp only); exact ang_next hf (by omega) (by omega) hNo)⟩, (show (k - 1) < k by first | omega | rfl | assumption),
          (enr [] ⟨rfl, rfl, rfl, trivial⟩ (crr rfl (roomC_le rfl rfl) (cbl rfl rfl (cbl rfl rfl (cbl rfl rfl (cbl rfl rfl (cmp_ rfl (fun _ h => h) trivial)))))))⟩
    ·
     have h5p : ((a + 3600) - g) < b := dle h5
     refine awd [(3, .dec false), (10, .act [1] (.i g) []), (13, .dec false)]
      ⟨36, [1, 1002, 1003, 1004, 1005, 1007, 9001, 9002, 10160, 10161], [(0, .l (.v (.func (.yield l2) #[] #[]))), (1, .l (.ref 10160 0)), (2, .l (.ref 10161 0)), (4, .i b), (23, .b false)], [(1, some (.rblk (roomC n g))), (1002, some (.blk 127 [.ref 1 0])), (1003, some (.blk 3 [.i m])), (1004, some (.blk 77 [.v (.slice none 0 0)])), (1005, some (.blk 4 [.v (.bool false)])), (1007, some (.blk 77 [.ls 2001])), (2001, some (.vec 3 1 o.length (Lst eI o))), (9001, some (.mp (LpIs r1 .busy none))), (9002, some (.mp (LpIs r2 .ready none))), (10160, some (.blk 3 [.i a])), (10161, some (.blk 127 [.ref 1 0]))]⟩
      [decide (b = a) = false, -9223372036854775808 ≤ (a + 3600) ∧ (a + 3600) < 9223372036854775808, ActOK Try.prog (.load 3 (.tmp 15)) 3 [.l (.ref 1 3601)] [1] [some (.rblk (roomC n g))] (.i g) [], -9223372036854775808 ≤ ((a + 3600) - g) ∧ ((a + 3600) - g) < 9223372036854775808, decide (b ≤ ((a + 3600) - g)) = false] (al2 h3 (al2 (by omega) (al2 (act_loadAt (by kernel_rfl) rfl room_gap) (al2 (by omega) (al1 h5))))) ?_
     refine aw_false rfl ?_
     refine aw_exit (exit_then (exit_then (exit_in ?_)))
     refine  ⟨.inl rfl, rfl, (by kernel_rfl), .inl ⟨rfl, ?_⟩⟩
     refine ⟨rfl, rfl, ?_⟩
     refine cont_mk []
      ⟨17, [1, 1002, 1003, 1004, 1005, 9001], [(0, .l (.ref 1 0)), (1, .l (.v (.func (.yield l1) #[] #[]))), (4, .i a), (16, .b false)], [(1, some (.rblk (roomC n g))), (1002, some (.blk 127 [.ref 1 0])), (1003, some (.blk 3 [.i m])), (1004, some (.blk 77 [.v (.slice none 0 0)])), (1005, some (.blk 4 [.v (.bool false)])), (9001, some (.mp (LpIs r1 .ready none)))]⟩
      [] (by kernel_rfl) trivial ?_
     refine aw_false rfl ?_
     apply aw_skip
     refine awr [(3, .call [1] (.i (fromV n (a + 1))) [])]
      ⟨17, [1, 1002, 1003, 1004, 1005, 9001], [(0, .l (.ref 1 0)), (1, .l (.v (.func (.yield l1) #[] #[]))), (4, .i (fromV n (a + 1)))], [(1, some (.rblk (roomC n g))), (1002, some (.blk 127 [.ref 1 0])), (1003, some (.blk 3 [.i m])), (1004, some (.blk 77 [.v (.slice none 0 0)])), (1005, some (.blk 4 [.v (.bool false)])), (9001, some (.mp (LpIs r1 .ready none)))]⟩
      [-9223372036854775808 ≤ (a + 1) ∧ (a + 1) < 9223372036854775808, CallOK Try.prog 111 [.l (.ref 1 0), .i (a + 1)] [1] [some (.rblk (roomC n g))] (.i (fromV n (a + 1))) []] (al2 (by omega) (al1 (cfr (from_fr n g (a + 1) (by first | assumption | omega)) [(0, 1)] (dem_cons rfl (le_rblk (roomC_le rfl rfl)) dem_nil)))) ?_
     have hq2 := fromV_le hn (a := a + 1) (by omega)
     have hNo := ang_none (m := m) (by rw [rowL_stop (by omega)] at hl; simpa using hl) ho.1
     exact ⟨((k - 1), (fromV n (a + 1))), ⟨(by (try dsimp only); first | omega | rfl | assumption | (simp; done)), (by (try dsimp only); exact ang_next hf (by omega) (by omega) hNo)⟩, (show (k - 1) < k by first | omega | rfl | assumption),
         (enr [] ⟨rfl, rfl, rfl, trivial⟩ (crr rfl (roomC_le rfl rfl) (cbl rfl rfl (cbl rfl rfl (cbl rfl rfl (cbl rfl rfl (cmp_ rfl (fun _ h => h) trivial)))))))⟩
  ·
   have h2p : 3600 ≤ a := dlt h2
   refine aw_exit (exit_then (exit_then (exit_in ?_)))
   refine  ⟨.inl rfl, rfl, (by kernel_rfl), .inl ⟨rfl, ?_⟩⟩
   apply aw_seq
   have hA : anglesO n g m = none := ang_no (by omega) hf (by omega)
   refine awr []
    ⟨27, [1], [(4, .l (.ref 1004 0)), (5, .l (.ref 1005 0))], angles_frH7⟩
    [] trivial ?_
   exact aw_ret ⟨.inr rfl, eok ⟨27, [1], [(4, .l (.ref 8004 0)), (5, .l (.ref 8005 0))], (angles_frH5 n g m)⟩
       (Ent.trans (Ent.nilCell 1004 70003 3 1 77 [.v (.slice none 0 0)] 0 (Lst eI ((anglesO n g m).getD [])) rfl rfl (by omega) (by kernel_rfl) (by kernel_rfl)) (enr [(8004, 1004), (8005, 1005), (7, 70003)] ⟨rfl, rfl, trivial⟩ (conts_cons rfl (le_vec (by first | rfl | omega | assumption | (rw [hA]; first | rfl | (simp; done))) el_rfl) (cbl rfl rfl (cbl rfl (by exact (cells_cons (cell_b (by first | rfl | omega | assumption | (rw [hA]; first | rfl | (simp; done)))) rfl)) trivial))))) (wr_cons rfl (plain_Lst plain_eI) wr_nil)⟩
def gap_frK1 (x : TrkV) : Cn := .rblk [.i x.t.year, .i x.t.glo, .i x.t.ghi, .i x.t.wlo, .i x.t.whi, .i x.t.health, .ls 1, .i x.r.slo, .i x.r.shi, .i x.r.ulo, .i x.r.uhi, .i x.r.hlo, .i x.r.hhi, .i x.r.apart, .i x.r.blo, .i x.r.bhi, .ls 2, .i x.r.n0, .i x.r.n1, .i x.r.n2, .i x.r.n3, .i x.r.n4, .i x.r.opn, .i x.year, .i x.worst.girth, .i x.worst.side, .i x.worst.up, .i x.worst.heal, .i x.best.girth, .i x.best.side, .i x.best.up, .i x.best.heal]
def gap_frK2 (x : TrkV) : Cn := .ro 3 x.t.holes.length (Lst eH x.t.holes)
def gap_frK3 (x : TrkV) : Cn := .ro 2 x.r.sizes.length (Lst eZ x.r.sizes)
def gap_frH4 (x : TrkV) : List (Nat × Option Cn) := [(0, some (gap_frK1 x)), (1, some (gap_frK2 x)), (2, some (gap_frK3 x))]
set_option maxRecDepth 100000 in
theorem gap_fr (x : TrkV) (hx : TrkOk x) : CallFr Try.prog 95 [.l (.ref 0 0)] [0, 1, 2] [some (.rblk [.i x.t.year, .i x.t.glo, .i x.t.ghi, .i x.t.wlo, .i x.t.whi, .i x.t.health, .ls 1, .i x.r.slo, .i x.r.shi, .i x.r.ulo, .i x.r.uhi, .i x.r.hlo, .i x.r.hhi, .i x.r.apart, .i x.r.blo, .i x.r.bhi, .ls 2, .i x.r.n0, .i x.r.n1, .i x.r.n2, .i x.r.n3, .i x.r.n4, .i x.r.opn, .i x.year, .i x.worst.girth, .i x.worst.side, .i x.worst.up, .i x.worst.heal, .i x.best.girth, .i x.best.side, .i x.best.up, .i x.best.heal]), some (.ro 3 x.t.holes.length (Lst eH x.t.holes)), some (.ro 2 x.r.sizes.length (Lst eZ x.r.sizes))] (.i (gapV x)) [] := by
 have h1 := hx.r.apart
 have h2 := hx.worst.girth
 have h3 := gap_bd hx
 unfold gapV at h3
 refine callFr_of (fn := Try.f95) (by kernel_rfl) rfl (by kernel_rfl) (by kernel_rfl) fun E => ?_
 refine aw_ent (T := ⟨22, [0, 1, 2], [(0, .l (.ref 0 0))], (gap_frH4 x)⟩) (Ent.refl _) ?_
 apply aw_seq
 refine awr []
  ⟨22, [0, 1, 2], [(0, .l (.ref 0 0))], (gap_frH4 x)⟩
  [] trivial ?_
 apply aw_seq
 refine awd []
  ⟨22, [0, 1, 2], [(2, .i ((((3600 * x.r.apart) + x.worst.girth) - 1) / x.worst.girth))], []⟩
  [-9223372036854775808 ≤ (3600 * x.r.apart) ∧ (3600 * x.r.apart) < 9223372036854775808, -9223372036854775808 ≤ ((3600 * x.r.apart) + x.worst.girth) ∧ ((3600 * x.r.apart) + x.worst.girth) < 9223372036854775808, -9223372036854775808 ≤ (((3600 * x.r.apart) + x.worst.girth) - 1) ∧ (((3600 * x.r.apart) + x.worst.girth) - 1) < 9223372036854775808, 0 ≤ (((3600 * x.r.apart) + x.worst.girth) - 1), 0 < x.worst.girth, -9223372036854775808 ≤ ((((3600 * x.r.apart) + x.worst.girth) - 1) / x.worst.girth) ∧ ((((3600 * x.r.apart) + x.worst.girth) - 1) / x.worst.girth) < 9223372036854775808] (al2 (by omega) (al2 (by omega) (al2 (by omega) (al2 (by omega) (al2 (by omega) (al1 (by omega))))))) ?_
 exact aw_ret ⟨.inr rfl, eok ⟨22, [0, 1, 2], [(2, .i (gapV x))], []⟩
     (enr [] ⟨(slot_i rfl (by first | rfl | omega | assumption)), trivial⟩ trivial) wr_nil⟩
def room_frK1 (x : TrkV) : Cn := .rblk [.i x.t.year, .i x.t.glo, .i x.t.ghi, .i x.t.wlo, .i x.t.whi, .i x.t.health, .ls 1, .i x.r.slo, .i x.r.shi, .i x.r.ulo, .i x.r.uhi, .i x.r.hlo, .i x.r.hhi, .i x.r.apart, .i x.r.blo, .i x.r.bhi, .ls 2, .i x.r.n0, .i x.r.n1, .i x.r.n2, .i x.r.n3, .i x.r.n4, .i x.r.opn, .i x.year, .i x.worst.girth, .i x.worst.side, .i x.worst.up, .i x.worst.heal, .i x.best.girth, .i x.best.side, .i x.best.up, .i x.best.heal]
def room_frK2 (x : TrkV) : Cn := .ro 3 x.t.holes.length (Lst eH x.t.holes)
def room_frK3 (x : TrkV) : Cn := .ro 2 x.r.sizes.length (Lst eZ x.r.sizes)
def room_frH4 (x : TrkV) : List (Nat × Option Cn) := [(0, some (room_frK1 x)), (1, some (room_frK2 x)), (2, some (room_frK3 x))]
def room_frK5 (x : TrkV) : Cn := .blk 160 (roomC (fun _ => 0) (gapV x))
def room_frH6 (x : TrkV) : List (Nat × Option Cn) := [(0, some (room_frK1 x)), (1, some (room_frK2 x)), (2, some (room_frK3 x)), (1014, some (room_frK5 x))]
def room_frH7 (x : TrkV) (n : (Nat → Int)) : List (Nat × Option Cn) := [(0, some (room_frK1 x)), (1, some (room_frK2 x)), (2, some (room_frK3 x)), (1014, some (.blk 160 (roomC n (gapV x))))]
def room_frK8 (n : (Nat → Int)) (i : Nat) (x : TrkV) : Cn := .blk 160 (roomC (setF n i 7200) (gapV x))
def room_frH9 (x : TrkV) (n : (Nat → Int)) (i : Nat) : List (Nat × Option Cn) := [(0, some (room_frK1 x)), (1, some (room_frK2 x)), (2, some (room_frK3 x)), (1014, some (room_frK8 n i x))]
def room_frK10 (x : TrkV) (e : Int) : Cn := .vec 23 2 ((freeV x e).length) (Lst eG (freeV x e))
def room_frH11 (n : (Nat → Int)) (x : TrkV) (e : Int) : List (Nat × Option Cn) := [(1014, some (.blk 160 (roomC n (gapV x)))), (10410, some (room_frK10 x e))]
def room_frH12 (m : (Nat → Int)) (x : TrkV) (e : Int) : List (Nat × Option Cn) := [(1014, some (.blk 160 (roomC m (gapV x)))), (10410, some (room_frK10 x e))]
def room_frK13 (x : TrkV) (e : Int) (j : Nat) : Cn := .blk 23 [.i ((ix (freeV x e) j).low), .i ((ix (freeV x e) j).high)]
def room_frH14 (x : TrkV) (e : Int) (j : Nat) (m : (Nat → Int)) : List (Nat × Option Cn) := [(1008, some (room_frK13 x e j)), (1014, some (.blk 160 (roomC m (gapV x)))), (10410, some (room_frK10 x e))]
def room_frH15 (x : TrkV) (e : Int) (j : Nat) (p : (Nat → Int)) : List (Nat × Option Cn) := [(1008, some (room_frK13 x e j)), (1014, some (.blk 160 (roomC p (gapV x)))), (10410, some (room_frK10 x e))]
def room_frK16 (p : (Nat → Int)) (a : Int) (x : TrkV) : Cn := .blk 160 (roomC (setF p a.toNat a) (gapV x))
def room_frH17 (x : TrkV) (e : Int) (j : Nat) (p : (Nat → Int)) (a : Int) : List (Nat × Option Cn) := [(1008, some (room_frK13 x e j)), (1014, some (room_frK16 p a x)), (10410, some (room_frK10 x e))]
def room_frH18 (p : (Nat → Int)) (x : TrkV) (e : Int) : List (Nat × Option Cn) := [(1014, some (.blk 160 (roomC p (gapV x)))), (10410, some (room_frK10 x e))]
def room_frK19 (c : (Nat → Int)) (b : Int) (x : TrkV) : Cn := .blk 160 (roomC (setF c b.toNat (min (c b.toNat) (c ((b + 1).toNat)))) (gapV x))
def room_frK20 (x : TrkV) (e : Int) : Cn := .blk 160 (roomC (nextV x e) (gapV x))
set_option maxRecDepth 100000 in
theorem room_fr (x : TrkV) (e : Int) (hx : TrkOk x) (he : -1000000 ≤ e ∧ e ≤ 1000000) : CallFr Try.prog 67 [.l (.ref 0 0), .i e] [0, 1, 2] [some (.rblk [.i x.t.year, .i x.t.glo, .i x.t.ghi, .i x.t.wlo, .i x.t.whi, .i x.t.health, .ls 1, .i x.r.slo, .i x.r.shi, .i x.r.ulo, .i x.r.uhi, .i x.r.hlo, .i x.r.hhi, .i x.r.apart, .i x.r.blo, .i x.r.bhi, .ls 2, .i x.r.n0, .i x.r.n1, .i x.r.n2, .i x.r.n3, .i x.r.n4, .i x.r.opn, .i x.year, .i x.worst.girth, .i x.worst.side, .i x.worst.up, .i x.worst.heal, .i x.best.girth, .i x.best.side, .i x.best.up, .i x.best.heal]), some (.ro 3 x.t.holes.length (Lst eH x.t.holes)), some (.ro 2 x.r.sizes.length (Lst eZ x.r.sizes))] (.l (.ref 5 0)) [(5, some (.blk 160 (roomC (nextV x e) (gapV x))))] := by
 have hfl := (free_ok hx e).len
 refine callFr_of (fn := Try.f67) (by kernel_rfl) rfl (by kernel_rfl) (by kernel_rfl) fun E => ?_
 refine aw_ent (T := ⟨86, [0, 1, 2], [(0, .l (.ref 0 0)), (1, .i e)], (room_frH4 x)⟩) (Ent.refl _) ?_
 apply aw_seq
 refine awr []
  ⟨86, [0, 1, 2], [(0, .l (.ref 0 0)), (1, .i e)], (room_frH4 x)⟩
  [] trivial ?_
 apply aw_seq
 refine awr [(1, .call [0, 1, 2] (.i (gapV x)) []), (3, .new 1014)]
  ⟨86, [0, 1, 2], [(0, .l (.ref 0 0)), (1, .i e), (5, .l (.ref 1014 0))], (room_frH6 x)⟩
  [CallOK Try.prog 95 [.l (.ref 0 0)] [0, 1, 2] [some (room_frK1 x), some (room_frK2 x), some (room_frK3 x)] (.i (gapV x)) []] (al1 (cfr (gap_fr x (by assumption)) [(0, 0), (1, 1), (2, 2)] (dem_cons rfl (le_rblk rfl) (dem_cons rfl (le_ro rfl el_rfl) (dem_cons rfl (le_ro rfl el_rfl) dem_nil))))) ?_
 apply aw_seq
 apply aw_seq
 refine awr []
  ⟨86, [0, 1, 2], [(0, .l (.ref 0 0)), (1, .i e), (5, .l (.ref 1014 0)), (15, .i 0)], (room_frH6 x)⟩
  [] trivial ?_
 apply aw_block
 refine aw_loop (ι := Nat × (Nat → Int)) (fun zz => ⟨86, [0, 1, 2], [(0, .l (.ref 0 0)), (1, .i e), (5, .l (.ref 1014 0)), (15, .i (zz.1 : Int))], (room_frH7 x zz.2)⟩) (fun zz => (zz.1 ≤ 3601) ∧ (∀ k, k < zz.1 → zz.2 k = 7200)) (fun zz => 3601 - zz.1) (0, (fun _ => 0)) ⟨(by (try dsimp only); first | omega | rfl | assumption | (simp; done)), (by (try dsimp only); intro k hk; omega)⟩
     (enr [] ⟨rfl, rfl, rfl, rfl, trivial⟩ (crr rfl rfl (cro rfl (cro rfl (cbl rfl (roomC_le rfl rfl) trivial))))) fun zz hp => ?_
 obtain ⟨i, n⟩ := zz
 obtain ⟨hiL, hn⟩ := hp
 dsimp only at hiL hn
 show AW _ E _ _ ⟨86, [0, 1, 2], [(0, .l (.ref 0 0)), (1, .i e), (5, .l (.ref 1014 0)), (15, .i (i : Int))], (room_frH7 x n)⟩
 apply aw_seq
 refine awr []
  ⟨86, [0, 1, 2], [(0, .l (.ref 0 0)), (1, .i e), (5, .l (.ref 1014 0)), (15, .i (i : Int)), (16, .b (decide ((i : Int) < 3601)))], (room_frH7 x n)⟩
  [] trivial ?_
 apply aw_seq
 refine aw_cond (b := decide ((i : Int) < 3601)) rfl (fun h1 => ?_) (fun h1 => ?_)
 ·
  have h1p : (i : Int) < 3601 := dtr h1
  apply aw_skip
  apply aw_seq
  apply aw_block
  apply aw_seq
  refine awr []
   ⟨86, [0, 1, 2], [(0, .l (.ref 0 0)), (1, .i e), (5, .l (.ref 1014 0)), (6, .i (i : Int)), (15, .i (i : Int))], (room_frH7 x n)⟩
   [] trivial ?_
  refine awr [(4, .act [1014] (.l (.ref 1014 i)) []), (5, .act [1014] (.v undef) [(1014, some (room_frK8 n i x))])]
   ⟨86, [0, 1, 2], [(0, .l (.ref 0 0)), (1, .i e), (5, .l (.ref 1014 0)), (15, .i (i : Int))], (room_frH9 x n i)⟩
   [ActOK Try.prog (.indexAddr 158 (.tmp 21) (.tmp 19)) 0 [.l (.ref 1014 0), .i (i : Int)] [1014] [some (.blk 160 (roomC n (gapV x)))] (.l (.ref 1014 i)) [], ActOK Try.prog (.store 3 (.tmp 22) (.const (.int .i64 7200))) 0 [.l (.ref 1014 i), .i 7200] [1014] [some (.blk 160 (roomC n (gapV x)))] (.v undef) [(1014, some (room_frK8 n i x))]] (al2 (act_idxAt2 (k := i) (n := 3601) (e := 3) (m := 1) (by kernel_rfl) (by kernel_rfl) rfl (by omega) (by omega) (by omega)) (al1 (act_storeAt2 (by kernel_rfl) rfl (room_len (by omega)) (room_set (by omega))))) ?_
  refine awr [(0, .num (((i + 1) : Nat) : Int))]
   ⟨86, [0, 1, 2], [(0, .l (.ref 0 0)), (1, .i e), (5, .l (.ref 1014 0)), (15, .i (((i + 1) : Nat) : Int))], (room_frH9 x n i)⟩
   [((i : Int) + 1) = (((i + 1) : Nat) : Int), -9223372036854775808 ≤ (((i + 1) : Nat) : Int) ∧ (((i + 1) : Nat) : Int) < 9223372036854775808] (al2 (by omega) (al1 (by omega))) ?_
  exact ⟨((i + 1), (setF n i 7200)), ⟨(by (try dsimp only); first | omega | rfl | assumption | (simp; done)), (by (try dsimp only); exact set_snoc hn)⟩, (show 3601 - (i + 1) < 3601 - i by first | omega | rfl | assumption),
      (enr [] ⟨rfl, rfl, rfl, rfl, trivial⟩ (crr rfl rfl (cro rfl (cro rfl (cbl rfl (roomC_le rfl rfl) trivial)))))⟩
 ·
  have h1p : 3601 ≤ (i : Int) := dlt h1
  refine aw_exit (exit_then (exit_then (exit_in ?_)))
  apply aw_seq
  apply aw_seq
  refine awd [(13, .new 1037), (14, .call [1037] (.b (within x.r.blo x.r.bhi ([e]))) [])]
   ⟨86, [0, 1, 2], [(0, .l (.ref 0 0)), (1, .i e), (5, .l (.ref 1014 0)), (38, .b (within x.r.blo x.r.bhi ([e])))], (room_frH7 x n)⟩
   [CallOK Try.prog 55 [.i x.r.blo, .i x.r.bhi, .ls 1037] [1037] [some (.vec 3 1 1 (exEl 1 [.i e]))] (.b (within x.r.blo x.r.bhi ([e]))) []] (al1 (cfr (within_fr x.r.blo x.r.bhi ([e]) (by first | omega | (simp; done) | decide)) [(0, 1037)] (dem_cons rfl (le_vec_ro (by first | omega | rfl | assumption) (fun | 0, _ => (fun | 0, _ => rfl | (_n + 1), h => absurd h (by omega)) | (_n + 1), h => absurd h (by omega))) dem_nil))) ?_
  refine aw_cond (b := (within x.r.blo x.r.bhi ([e]))) rfl (fun h2 => ?_) (fun h2 => ?_)
  ·
   apply aw_seq
   refine awr [(2, .call [0, 1, 2] (.ls 10410) [(10410, some (room_frK10 x e))])]
    ⟨86, [0, 1, 2], [(5, .l (.ref 1014 0)), (41, .ls 10410), (42, .i (((freeV x e).length : Nat) : Int)), (43, .i 0)], (room_frH11 n x e)⟩
    [CallOK Try.prog 66 [.l (.ref 0 0), .i e] [0, 1, 2] [some (room_frK1 x), some (room_frK2 x), some (room_frK3 x)] (.ls 10410) [(10410, some (room_frK10 x e))]] (al1 (cfr (free_fr x e (by assumption) (by omega)) [(0, 0), (1, 1), (2, 2), (4, 10410)] (dem_cons rfl (le_rblk rfl) (dem_cons rfl (le_ro rfl el_rfl) (dem_cons rfl (le_ro rfl el_rfl) dem_nil))))) ?_
   apply aw_block
   refine aw_loop (ι := Nat × (Nat → Int)) (fun zz => ⟨86, [0, 1, 2], [(5, .l (.ref 1014 0)), (41, .ls 10410), (42, .i (((freeV x e).length : Nat) : Int)), (43, .i (zz.1 : Int))], (room_frH12 zz.2 x e)⟩) (fun zz => (zz.1 ≤ (freeV x e).length) ∧ (FillOk (inS ((freeV x e).take zz.1)) zz.2)) (fun zz => (freeV x e).length - zz.1) (0, n) ⟨(by (try dsimp only); first | omega | rfl | assumption | (simp; done)), (by (try dsimp only); exact fill_none (fun k hk => hn k (by omega)))⟩
       (enr [] ⟨rfl, rfl, rfl, rfl, trivial⟩ (cbl rfl (roomC_le rfl rfl) (cve rfl trivial))) fun zz hp => ?_
   obtain ⟨j, m⟩ := zz
   obtain ⟨hjL, hm⟩ := hp
   dsimp only at hjL hm
   show AW _ E _ _ ⟨86, [0, 1, 2], [(5, .l (.ref 1014 0)), (41, .ls 10410), (42, .i (((freeV x e).length : Nat) : Int)), (43, .i (j : Int))], (room_frH12 m x e)⟩
   apply aw_seq
   refine awr []
    ⟨86, [0, 1, 2], [(5, .l (.ref 1014 0)), (41, .ls 10410), (42, .i (((freeV x e).length : Nat) : Int)), (43, .i (j : Int)), (44, .b (decide ((j : Int) < (((freeV x e).length : Nat) : Int))))], (room_frH12 m x e)⟩
    [] trivial ?_
   apply aw_seq
   refine aw_cond (b := decide ((j : Int) < (((freeV x e).length : Nat) : Int))) rfl (fun h3 => ?_) (fun h3 => ?_)
   ·
    have h3p : (j : Int) < (((freeV x e).length : Nat) : Int) := dtr h3
    apply aw_skip
    apply aw_seq
    apply aw_block
    apply aw_seq
    have hr := (free_ok hx e).ok _ (ix_mem (l := freeV x e) (i := j) (by omega))
    refine awr [(0, .idx j), (2, .new 1008)]
     ⟨86, [0, 1, 2], [(5, .l (.ref 1014 0)), (8, .l (.ref 1008 0)), (41, .ls 10410), (42, .i (((freeV x e).length : Nat) : Int)), (43, .i (j : Int))], (room_frH14 x e j m)⟩
     [(j : Int) = (j : Int), j < (freeV x e).length, j < (freeV x e).length] (al2 (by omega) (al2 (by omega) (al1 (by omega)))) ?_
    apply aw_seq
    refine awr []
     ⟨86, [0, 1, 2], [(5, .l (.ref 1014 0)), (8, .l (.ref 1008 0)), (9, .i ((ix (freeV x e) j).low)), (41, .ls 10410), (42, .i (((freeV x e).length : Nat) : Int)), (43, .i (j : Int))], (room_frH14 x e j m)⟩
     [] trivial ?_
    apply aw_block
    refine aw_loop (ι := Int × (Nat → Int)) (fun zz => ⟨86, [0, 1, 2], [(5, .l (.ref 1014 0)), (8, .l (.ref 1008 0)), (9, .i zz.1), (41, .ls 10410), (42, .i (((freeV x e).length : Nat) : Int)), (43, .i (j : Int))], (room_frH15 x e j zz.2)⟩) (fun zz => ((ix (freeV x e) j).low ≤ zz.1 ∧ zz.1 ≤ (ix (freeV x e) j).high + 1) ∧ (FillOk (inTo ((freeV x e).take j) (ix (freeV x e) j).low zz.1) zz.2)) (fun zz => ((ix (freeV x e) j).high + 1 - zz.1).toNat) ((ix (freeV x e) j).low, m) ⟨(by (try dsimp only); first | omega | rfl | assumption | (simp; done)), (by (try dsimp only); exact fill_start hm)⟩
        (enr [] ⟨rfl, rfl, rfl, rfl, rfl, rfl, trivial⟩ (cbl rfl rfl (cbl rfl (roomC_le rfl rfl) (cve rfl trivial)))) fun zz hp => ?_
    obtain ⟨a, p⟩ := zz
    obtain ⟨haB, hp⟩ := hp
    dsimp only at haB hp
    show AW _ E _ _ ⟨86, [0, 1, 2], [(5, .l (.ref 1014 0)), (8, .l (.ref 1008 0)), (9, .i a), (41, .ls 10410), (42, .i (((freeV x e).length : Nat) : Int)), (43, .i (j : Int))], (room_frH15 x e j p)⟩
    apply aw_seq
    apply aw_seq
    refine awr []
     ⟨86, [0, 1, 2], [(5, .l (.ref 1014 0)), (8, .l (.ref 1008 0)), (9, .i a), (41, .ls 10410), (42, .i (((freeV x e).length : Nat) : Int)), (43, .i (j : Int)), (52, .b (decide (a ≤ (ix (freeV x e) j).high)))], (room_frH15 x e j p)⟩
     [] trivial ?_
    refine aw_cond (b := decide (a ≤ (ix (freeV x e) j).high)) rfl (fun h4 => ?_) (fun h4 => ?_)
    ·
     have h4p : a ≤ (ix (freeV x e) j).high := dtr h4
     apply aw_skip
     apply aw_seq
     apply aw_block
     refine awr [(5, .act [1014] (.l (.ref 1014 a.toNat)) []), (6, .act [1014] (.v undef) [(1014, some (room_frK16 p a x))])]
      ⟨86, [0, 1, 2], [(5, .l (.ref 1014 0)), (8, .l (.ref 1008 0)), (9, .i a), (41, .ls 10410), (42, .i (((freeV x e).length : Nat) : Int)), (43, .i (j : Int))], (room_frH17 x e j p a)⟩
      [ActOK Try.prog (.indexAddr 158 (.tmp 59) (.tmp 56)) 0 [.l (.ref 1014 0), .i a] [1014] [some (.blk 160 (roomC p (gapV x)))] (.l (.ref 1014 a.toNat)) [], ActOK Try.prog (.store 3 (.tmp 60) (.tmp 57)) 0 [.l (.ref 1014 a.toNat), .i a] [1014] [some (.blk 160 (roomC p (gapV x)))] (.v undef) [(1014, some (room_frK16 p a x))]] (al2 (act_idxAt2 (k := a.toNat) (n := 3601) (e := 3) (m := 1) (by kernel_rfl) (by kernel_rfl) rfl (by omega) (by omega) (by omega)) (al1 (act_storeAt2 (by kernel_rfl) rfl (room_len (by omega)) (room_set (by omega))))) ?_
     refine awr []
      ⟨86, [0, 1, 2], [(5, .l (.ref 1014 0)), (8, .l (.ref 1008 0)), (9, .i (a + 1)), (41, .ls 10410), (42, .i (((freeV x e).length : Nat) : Int)), (43, .i (j : Int))], (room_frH17 x e j p a)⟩
      [-9223372036854775808 ≤ (a + 1) ∧ (a + 1) < 9223372036854775808] (al1 (by omega)) ?_
     exact ⟨((a + 1), (setF p a.toNat a)), ⟨(by (try dsimp only); first | omega | rfl | assumption | (simp; done)), (by (try dsimp only); exact fill_step hp (by omega) (by omega) (by omega))⟩, (show ((ix (freeV x e) j).high + 1 - (a + 1)).toNat < ((ix (freeV x e) j).high + 1 - a).toNat by first | omega | rfl | assumption),
         (enr [] ⟨rfl, rfl, rfl, rfl, rfl, rfl, trivial⟩ (cbl rfl rfl (cbl rfl (roomC_le rfl rfl) (cve rfl trivial))))⟩
    ·
     have h4p : (ix (freeV x e) j).high < a := dle h4
     refine aw_exit (exit_then (exit_then (exit_in ?_)))
     refine awr [(0, .num (((j + 1) : Nat) : Int))]
      ⟨86, [0, 1, 2], [(5, .l (.ref 1014 0)), (41, .ls 10410), (42, .i (((freeV x e).length : Nat) : Int)), (43, .i (((j + 1) : Nat) : Int))], (room_frH18 p x e)⟩
      [((j : Int) + 1) = (((j + 1) : Nat) : Int), -9223372036854775808 ≤ (((j + 1) : Nat) : Int) ∧ (((j + 1) : Nat) : Int) < 9223372036854775808] (al2 (by omega) (al1 (by omega))) ?_
     exact ⟨((j + 1), p), ⟨(by (try dsimp only); first | omega | rfl | assumption | (simp; done)), (by (try dsimp only); exact fill_end (by omega) hp (by omega))⟩, (show (freeV x e).length - (j + 1) < (freeV x e).length - j by first | omega | rfl | assumption),
         (enr [] ⟨rfl, rfl, rfl, rfl, trivial⟩ (cbl rfl (roomC_le rfl rfl) (cve rfl trivial)))⟩
   ·
    have h3p : (((freeV x e).length : Nat) : Int) ≤ (j : Int) := dlt h3
    refine aw_exit (exit_then (exit_then (exit_in ?_)))
    apply aw_seq
    apply aw_seq
    have hF := by first | exact fill_room (by assumption) (fill_all hm (by omega)) | exact fill_no (by assumption) (fill_none (fun k hk => hn k (by omega)))
    refine awr []
     ⟨86, [0, 1, 2], [(5, .l (.ref 1014 0)), (10, .i 3599)], [(1014, some (.blk 160 (roomC m (gapV x))))]⟩
     [] trivial ?_
    apply aw_block
    refine aw_loop (ι := Int × (Nat → Int)) (fun zz => ⟨86, [0, 1, 2], [(5, .l (.ref 1014 0)), (10, .i zz.1)], [(1014, some (.blk 160 (roomC zz.2 (gapV x))))]⟩) (fun zz => (-1 ≤ zz.1 ∧ zz.1 ≤ 3599) ∧ (HalfOk x e zz.1 zz.2)) (fun zz => (zz.1 + 1).toNat) (3599, m) ⟨(by (try dsimp only); first | omega | rfl | assumption | (simp; done)), (by (try dsimp only); exact half_start hF)⟩
        (enr [] ⟨rfl, rfl, trivial⟩ (cbl rfl (roomC_le rfl rfl) trivial)) fun zz hp => ?_
    obtain ⟨b, c⟩ := zz
    obtain ⟨hbB, hc⟩ := hp
    dsimp only at hbB hc
    show AW _ E _ _ ⟨86, [0, 1, 2], [(5, .l (.ref 1014 0)), (10, .i b)], [(1014, some (.blk 160 (roomC c (gapV x))))]⟩
    apply aw_seq
    apply aw_seq
    refine awr []
     ⟨86, [0, 1, 2], [(5, .l (.ref 1014 0)), (10, .i b), (63, .b (decide (0 ≤ b)))], [(1014, some (.blk 160 (roomC c (gapV x))))]⟩
     [] trivial ?_
    refine aw_cond (b := decide (0 ≤ b)) rfl (fun h5 => ?_) (fun h5 => ?_)
    ·
     have h5p : 0 ≤ b := dtr h5
     apply aw_skip
     apply aw_seq
     apply aw_block
     have q1 := half_bd hc (k := b.toNat) (by omega)
     have q2 := half_bd hc (k := (b + 1).toNat) (by omega)
     refine awd [(6, .act [1014] (.l (.ref 1014 b.toNat)) []), (7, .act [1014] (.i (c b.toNat)) []), (13, .act [1014] (.l (.ref 1014 ((b + 1).toNat))) []), (14, .act [1014] (.i (c ((b + 1).toNat))) []), (18, .act [1014] (.l (.ref 1014 b.toNat)) []), (19, .act [1014] (.v undef) [(1014, some (room_frK19 c b x))])]
      ⟨86, [0, 1, 2], [(5, .l (.ref 1014 0)), (10, .i b)], [(1014, some (room_frK19 c b x))]⟩
      [ActOK Try.prog (.indexAddr 158 (.tmp 71) (.tmp 69)) 0 [.l (.ref 1014 0), .i b] [1014] [some (.blk 160 (roomC c (gapV x)))] (.l (.ref 1014 b.toNat)) [], ActOK Try.prog (.load 3 (.tmp 72)) 3 [.l (.ref 1014 b.toNat)] [1014] [some (.blk 160 (roomC c (gapV x)))] (.i (c b.toNat)) [], -9223372036854775808 ≤ (b + 1) ∧ (b + 1) < 9223372036854775808, ActOK Try.prog (.indexAddr 158 (.tmp 78) (.tmp 76)) 0 [.l (.ref 1014 0), .i (b + 1)] [1014] [some (.blk 160 (roomC c (gapV x)))] (.l (.ref 1014 ((b + 1).toNat))) [], ActOK Try.prog (.load 3 (.tmp 79)) 3 [.l (.ref 1014 ((b + 1).toNat))] [1014] [some (.blk 160 (roomC c (gapV x)))] (.i (c ((b + 1).toNat))) [], ActOK Try.prog (.indexAddr 158 (.tmp 83) (.tmp 67)) 0 [.l (.ref 1014 0), .i b] [1014] [some (.blk 160 (roomC c (gapV x)))] (.l (.ref 1014 b.toNat)) [], ActOK Try.prog (.store 3 (.tmp 84) (.tmp 81)) 0 [.l (.ref 1014 b.toNat), .i (min (c b.toNat) (c ((b + 1).toNat)))] [1014] [some (.blk 160 (roomC c (gapV x)))] (.v undef) [(1014, some (room_frK19 c b x))]] (al2 (act_idxAt2 (k := b.toNat) (n := 3601) (e := 3) (m := 1) (by kernel_rfl) (by kernel_rfl) rfl (by omega) (by omega) (by omega)) (al2 (act_loadAt (by kernel_rfl) rfl (room_at (by omega))) (al2 (by omega) (al2 (act_idxAt2 (k := (b + 1).toNat) (n := 3601) (e := 3) (m := 1) (by kernel_rfl) (by kernel_rfl) rfl (by omega) (by omega) (by omega)) (al2 (act_loadAt (by kernel_rfl) rfl (room_at (by omega))) (al2 (act_idxAt2 (k := b.toNat) (n := 3601) (e := 3) (m := 1) (by kernel_rfl) (by kernel_rfl) rfl (by omega) (by omega) (by omega)) (al1 (act_storeAt2 (by kernel_rfl) rfl (room_len (by omega)) (room_set (by omega)))))))))) ?_
     refine awr []
      ⟨86, [0, 1, 2], [(5, .l (.ref 1014 0)), (10, .i (b - 1))], [(1014, some (room_frK19 c b x))]⟩
      [-9223372036854775808 ≤ (b - 1) ∧ (b - 1) < 9223372036854775808] (al1 (by omega)) ?_
     exact ⟨((b - 1), (setF c b.toNat (min (c b.toNat) (c ((b + 1).toNat))))), ⟨(by (try dsimp only); first | omega | rfl | assumption | (simp; done)), (by (try dsimp only); exact half_step hc (by omega) (by omega))⟩, (show ((b - 1) + 1).toNat < (b + 1).toNat by first | omega | rfl | assumption),
         (enr [] ⟨rfl, rfl, trivial⟩ (cbl rfl (roomC_le rfl rfl) trivial))⟩
    ·
     have h5p : b < 0 := dle h5
     refine aw_exit (exit_then (exit_then (exit_in ?_)))
     apply aw_seq
     refine awr []
      ⟨86, [0, 1, 2], [(4, .l (.ref 1014 0))], [(1014, some (.blk 160 (roomC c (gapV x))))]⟩
      [] trivial ?_
     have hE := half_end hc (by omega)
     exact aw_ret ⟨.inr rfl, eok ⟨86, [0, 1, 2], [(4, .l (.ref 5 0))], [(5, some (room_frK20 x e))]⟩
         (enr [(5, 1014)] ⟨rfl, trivial⟩ (cbl rfl (roomC_le2 (by first | rfl | omega | assumption | (exact hE)) rfl) trivial)) (wr_cons rfl plain_blk wr_nil)⟩
  ·
   apply aw_skip
   apply aw_seq
   apply aw_seq
   have hF := by first | exact fill_room (by assumption) (fill_all hm (by omega)) | exact fill_no (by assumption) (fill_none (fun k hk => hn k (by omega)))
   refine awr []
    ⟨86, [0, 1, 2], [(5, .l (.ref 1014 0)), (10, .i 3599)], [(1014, some (.blk 160 (roomC n (gapV x))))]⟩
    [] trivial ?_
   apply aw_block
   refine aw_loop (ι := Int × (Nat → Int)) (fun zz => ⟨86, [0, 1, 2], [(5, .l (.ref 1014 0)), (10, .i zz.1)], [(1014, some (.blk 160 (roomC zz.2 (gapV x))))]⟩) (fun zz => (-1 ≤ zz.1 ∧ zz.1 ≤ 3599) ∧ (HalfOk x e zz.1 zz.2)) (fun zz => (zz.1 + 1).toNat) (3599, n) ⟨(by (try dsimp only); first | omega | rfl | assumption | (simp; done)), (by (try dsimp only); exact half_start hF)⟩
       (enr [] ⟨rfl, rfl, trivial⟩ (cbl rfl (roomC_le rfl rfl) trivial)) fun zz hp => ?_
   obtain ⟨b, c⟩ := zz
   obtain ⟨hbB, hc⟩ := hp
   dsimp only at hbB hc
   show AW _ E _ _ ⟨86, [0, 1, 2], [(5, .l (.ref 1014 0)), (10, .i b)], [(1014, some (.blk 160 (roomC c (gapV x))))]⟩
   apply aw_seq
   apply aw_seq
   refine awr []
    ⟨86, [0, 1, 2], [(5, .l (.ref 1014 0)), (10, .i b), (63, .b (decide (0 ≤ b)))], [(1014, some (.blk 160 (roomC c (gapV x))))]⟩
    [] trivial ?_
   refine aw_cond (b := decide (0 ≤ b)) rfl (fun h6 => ?_) (fun h6 => ?_)
   ·
    have h6p : 0 ≤ b := dtr h6
    apply aw_skip
    apply aw_seq
    apply aw_block
    have q1 := half_bd hc (k := b.toNat) (by omega)
    have q2 := half_bd hc (k := (b + 1).toNat) (by omega)
    refine awd [(6, .act [1014] (.l (.ref 1014 b.toNat)) []), (7, .act [1014] (.i (c b.toNat)) []), (13, .act [1014] (.l (.ref 1014 ((b + 1).toNat))) []), (14, .act [1014] (.i (c ((b + 1).toNat))) []), (18, .act [1014] (.l (.ref 1014 b.toNat)) []), (19, .act [1014] (.v undef) [(1014, some (room_frK19 c b x))])]
     ⟨86, [0, 1, 2], [(5, .l (.ref 1014 0)), (10, .i b)], [(1014, some (room_frK19 c b x))]⟩
     [ActOK Try.prog (.indexAddr 158 (.tmp 71) (.tmp 69)) 0 [.l (.ref 1014 0), .i b] [1014] [some (.blk 160 (roomC c (gapV x)))] (.l (.ref 1014 b.toNat)) [], ActOK Try.prog (.load 3 (.tmp 72)) 3 [.l (.ref 1014 b.toNat)] [1014] [some (.blk 160 (roomC c (gapV x)))] (.i (c b.toNat)) [], -9223372036854775808 ≤ (b + 1) ∧ (b + 1) < 9223372036854775808, ActOK Try.prog (.indexAddr 158 (.tmp 78) (.tmp 76)) 0 [.l (.ref 1014 0), .i (b + 1)] [1014] [some (.blk 160 (roomC c (gapV x)))] (.l (.ref 1014 ((b + 1).toNat))) [], ActOK Try.prog (.load 3 (.tmp 79)) 3 [.l (.ref 1014 ((b + 1).toNat))] [1014] [some (.blk 160 (roomC c (gapV x)))] (.i (c ((b + 1).toNat))) [], ActOK Try.prog (.indexAddr 158 (.tmp 83) (.tmp 67)) 0 [.l (.ref 1014 0), .i b] [1014] [some (.blk 160 (roomC c (gapV x)))] (.l (.ref 1014 b.toNat)) [], ActOK Try.prog (.store 3 (.tmp 84) (.tmp 81)) 0 [.l (.ref 1014 b.toNat), .i (min (c b.toNat) (c ((b + 1).toNat)))] [1014] [some (.blk 160 (roomC c (gapV x)))] (.v undef) [(1014, some (room_frK19 c b x))]] (al2 (act_idxAt2 (k := b.toNat) (n := 3601) (e := 3) (m := 1) (by kernel_rfl) (by kernel_rfl) rfl (by omega) (by omega) (by omega)) (al2 (act_loadAt (by kernel_rfl) rfl (room_at (by omega))) (al2 (by omega) (al2 (act_idxAt2 (k := (b + 1).toNat) (n := 3601) (e := 3) (m := 1) (by kernel_rfl) (by kernel_rfl) rfl (by omega) (by omega) (by omega)) (al2 (act_loadAt (by kernel_rfl) rfl (room_at (by omega))) (al2 (act_idxAt2 (k := b.toNat) (n := 3601) (e := 3) (m := 1) (by kernel_rfl) (by kernel_rfl) rfl (by omega) (by omega) (by omega)) (al1 (act_storeAt2 (by kernel_rfl) rfl (room_len (by omega)) (room_set (by omega)))))))))) ?_
    refine awr []
     ⟨86, [0, 1, 2], [(5, .l (.ref 1014 0)), (10, .i (b - 1))], [(1014, some (room_frK19 c b x))]⟩
     [-9223372036854775808 ≤ (b - 1) ∧ (b - 1) < 9223372036854775808] (al1 (by omega)) ?_
    exact ⟨((b - 1), (setF c b.toNat (min (c b.toNat) (c ((b + 1).toNat))))), ⟨(by (try dsimp only); first | omega | rfl | assumption | (simp; done)), (by (try dsimp only); exact half_step hc (by omega) (by omega))⟩, (show ((b - 1) + 1).toNat < (b + 1).toNat by first | omega | rfl | assumption),
        (enr [] ⟨rfl, rfl, trivial⟩ (cbl rfl (roomC_le rfl rfl) trivial))⟩
   ·
    have h6p : b < 0 := dle h6
    refine aw_exit (exit_then (exit_then (exit_in ?_)))
    apply aw_seq
    refine awr []
     ⟨86, [0, 1, 2], [(4, .l (.ref 1014 0))], [(1014, some (.blk 160 (roomC c (gapV x))))]⟩
     [] trivial ?_
    have hE := half_end hc (by omega)
    exact aw_ret ⟨.inr rfl, eok ⟨86, [0, 1, 2], [(4, .l (.ref 5 0))], [(5, some (room_frK20 x e))]⟩
        (enr [(5, 1014)] ⟨rfl, trivial⟩ (cbl rfl (roomC_le2 (by first | rfl | omega | assumption | (exact hE)) rfl) trivial)) (wr_cons rfl plain_blk wr_nil)⟩
end Go.Proofs.Ytbpblhmigijkaaa
