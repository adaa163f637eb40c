/- Plans of years: are some years too long; all years as one list. -/
import Derived.Test.YtbpblhmigijkaaaTk
import Derived.Test.YtbpblhmigijkaaaTvf
namespace Go.Proofs.Ytbpblhmigijkaaa
open Go.RowKit
set_option linter.unusedVariables false
set_option linter.unusedSimpArgs false
set_option maxRecDepth 100000 in
theorem verify1_fr (l : List Spt) (hl : l.length ≤ 1000000000) : CallFr Try.prog 84 [.ls 0] [0] [some (.ro 2 l.length (Lst eS l))] (.b (longB l)) [] := by
 refine callFr_of (fn := Try.f84) (by kernel_rfl) rfl (by kernel_rfl) (by kernel_rfl) fun E => ?_
 refine aw_ent (T := ⟨6, [0], [(0, .ls 0)], [(0, some (.ro 2 l.length (Lst eS l)))]⟩) (Ent.refl _) ?_
 apply aw_seq
 refine awr []
  ⟨6, [0], [(0, .ls 0)], [(0, some (.ro 2 l.length (Lst eS l)))]⟩
  [] trivial ?_
 apply aw_seq
 refine awr []
  ⟨6, [0], [(2, .b (decide (20 < ((l.length : Nat) : Int))))], []⟩
  [] trivial ?_
 exact aw_ret ⟨.inr rfl, eok ⟨6, [0], [(2, .b (longB l))], []⟩
     (enr [] ⟨(slot_b (a := decide (20 < ((l.length : Nat) : Int))) rfl (by first | rfl | omega | assumption | (rfl))), trivial⟩ trivial) wr_nil⟩
def plan_ixK1 (l : List (List Spt)) (i : Nat) : Cn := .ro 2 ((ix l i).length) (Lst eS (ix l i))
set_option maxRecDepth 100000 in
theorem plan_ix (l : List (List Spt)) (hl : l.length ≤ 1000000) (hsh : shortP 1000000000 l) : CallFr Try.prog 104 [.ls 0, .l (.v (.func (.func 84) #[] #[]))] [0] [some (.ro 1 l.length (LstL 2 eS l))] (.i (findI longB l)) [] := by
 refine callFr_of (fn := Try.f104) (by kernel_rfl) rfl (by kernel_rfl) (by kernel_rfl) fun E => ?_
 refine aw_ent (T := ⟨19, [0], [(0, .ls 0), (1, .l (.v (.func (.func 84) #[] #[])))], [(0, some (.ro 1 l.length (LstL 2 eS l)))]⟩) (Ent.refl _) ?_
 apply aw_seq
 refine awr []
  ⟨19, [0], [(0, .ls 0), (1, .l (.v (.func (.func 84) #[] #[])))], [(0, some (.ro 1 l.length (LstL 2 eS l)))]⟩
  [] trivial ?_
 apply aw_seq
 apply aw_seq
 refine awr []
  ⟨19, [0], [(0, .ls 0), (1, .l (.v (.func (.func 84) #[] #[]))), (7, .i ((l.length : Nat) : Int)), (8, .i 0)], [(0, some (.ro 1 l.length (LstL 2 eS l)))]⟩
  [] trivial ?_
 apply aw_block
 refine aw_loop (ι := Nat) (fun zz => ⟨19, [0], [(0, .ls 0), (1, .l (.v (.func (.func 84) #[] #[]))), (7, .i ((l.length : Nat) : Int)), (8, .i ((zz : Nat) : Int))], [(0, some (.ro 1 l.length (LstL 2 eS l)))]⟩) (fun zz => (zz ≤ l.length) ∧ (∀ j, j < zz → longB (ix l j) = false)) (fun zz => l.length - zz) 0 ⟨(by first | omega | rfl | assumption | (simp; done)), (by intro j hj; omega)⟩
     (enr [] ⟨rfl, rfl, rfl, rfl, trivial⟩ (cro rfl trivial)) fun zz hp => ?_
 obtain ⟨i, rfl⟩ : ∃ x, x = zz := ⟨_, rfl⟩
 obtain ⟨hiL, hp⟩ := hp
 show AW _ E _ _ ⟨19, [0], [(0, .ls 0), (1, .l (.v (.func (.func 84) #[] #[]))), (7, .i ((l.length : Nat) : Int)), (8, .i ((i : Nat) : Int))], [(0, some (.ro 1 l.length (LstL 2 eS l)))]⟩
 apply aw_seq
 refine awr []
  ⟨19, [0], [(0, .ls 0), (1, .l (.v (.func (.func 84) #[] #[]))), (7, .i ((l.length : Nat) : Int)), (8, .i ((i : Nat) : Int)), (9, .b (decide (((i : Nat) : Int) < ((l.length : Nat) : Int))))], [(0, some (.ro 1 l.length (LstL 2 eS l)))]⟩
  [] trivial ?_
 apply aw_seq
 refine aw_cond (b := decide (((i : Nat) : Int) < ((l.length : Nat) : Int))) rfl (fun h1 => ?_) (fun h1 => ?_)
 ·
  have h1p : ((i : Nat) : Int) < ((l.length : Nat) : Int) := dtr h1
  apply aw_skip
  apply aw_seq
  apply aw_block
  apply aw_seq
  refine awr []
   ⟨19, [0], [(0, .ls 0), (1, .l (.v (.func (.func 84) #[] #[]))), (5, .i ((i : Nat) : Int)), (7, .i ((l.length : Nat) : Int)), (8, .i ((i : Nat) : Int))], [(0, some (.ro 1 l.length (LstL 2 eS l)))]⟩
   [] trivial ?_
  apply aw_seq
  refine awr [(3, .idx i), (4, .many [1015]), (5, .act [1015] (.b (longB (ix l i))) [])]
   ⟨19, [0], [(0, .ls 0), (1, .l (.v (.func (.func 84) #[] #[]))), (5, .i ((i : Nat) : Int)), (7, .i ((l.length : Nat) : Int)), (8, .i ((i : Nat) : Int)), (16, .b (longB (ix l i)))], [(0, some (.ro 1 l.length (LstL 2 eS l)))]⟩
   [((i : Nat) : Int) = ((i : Nat) : Int), i < l.length, i < l.length, ActOK Try.prog (.call ⟨.value (.tmp 11), #[(.tmp 15)], #[57]⟩) 4 [.l (.v (.func (.func 84) #[] #[])), .ls 1015] [1015] [some (plan_ixK1 l i)] (.b (longB (ix l i))) []] (al2 (by omega) (al2 (by omega) (al2 (by omega) (al1 (act_callf (by kernel_rfl) (cfr (verify1_fr (ix l i) (by first | omega | exact hsh _ (ix_mem (by omega)))) [(0, 1015)] (dem_cons rfl (le_ro rfl el_rfl) dem_nil))))))) ?_
  refine aw_cond (b := (longB (ix l i))) rfl (fun h2 => ?_) (fun h2 => ?_)
  ·
   apply aw_seq
   refine awr []
    ⟨19, [0], [(4, .i ((i : Nat) : Int))], []⟩
    [] trivial ?_
   exact aw_ret (ret_block (ret_then (ret_then (ret_block (ret_then ⟨.inr rfl, eok ⟨19, [0], [(4, .i (findI longB l))], []⟩
       (enr [] ⟨(slot_i rfl (by first | rfl | omega | assumption | (exact findI_at hp (by omega) (by assumption)) | (exact findI_no hp (by omega)))), trivial⟩ trivial) wr_nil⟩)))))
  ·
   apply aw_skip
   refine awr [(0, .num (((i + 1) : Nat) : Int))]
    ⟨19, [0], [(0, .ls 0), (1, .l (.v (.func (.func 84) #[] #[]))), (7, .i ((l.length : Nat) : Int)), (8, .i (((i + 1) : Nat) : Int))], [(0, some (.ro 1 l.length (LstL 2 eS l)))]⟩
    [(((i : Nat) : Int) + 1) = (((i + 1) : Nat) : Int), -9223372036854775808 ≤ (((i + 1) : Nat) : Int) ∧ (((i + 1) : Nat) : Int) < 9223372036854775808] (al2 (by omega) (al1 (by omega))) ?_
   exact ⟨(i + 1), ⟨(by first | omega | rfl | assumption | (simp; done)), (by exact all_snoc hp (by assumption))⟩, (show l.length - (i + 1) < l.length - i by first | omega | rfl | assumption),
       (enr [] ⟨rfl, rfl, rfl, rfl, trivial⟩ (cro rfl trivial))⟩
 ·
  have h1p : ((l.length : Nat) : Int) ≤ ((i : Nat) : Int) := dlt h1
  refine aw_exit (exit_then (exit_then (exit_in ?_)))
  apply aw_seq
  refine awr []
   ⟨19, [0], [(4, .i (-1))], []⟩
   [] trivial ?_
  exact aw_ret ⟨.inr rfl, eok ⟨19, [0], [(4, .i (findI longB l))], []⟩
      (enr [] ⟨(slot_i rfl (by first | rfl | omega | assumption | (exact findI_at hp (by omega) (by assumption)) | (exact findI_no hp (by omega)))), trivial⟩ trivial) wr_nil⟩
set_option maxRecDepth 100000 in
theorem plan_any (l : List (List Spt)) (hl : l.length ≤ 1000000) (hsh : shortP 1000000000 l) : CallFr Try.prog 83 [.ls 0, .l (.v (.func (.func 84) #[] #[]))] [0] [some (.ro 1 l.length (LstL 2 eS l))] (.b (anyLong l)) [] := by
 refine callFr_of (fn := Try.f83) (by kernel_rfl) rfl (by kernel_rfl) (by kernel_rfl) fun E => ?_
 refine aw_ent (T := ⟨9, [0], [(0, .ls 0), (1, .l (.v (.func (.func 84) #[] #[])))], [(0, some (.ro 1 l.length (LstL 2 eS l)))]⟩) (Ent.refl _) ?_
 apply aw_seq
 refine awr []
  ⟨9, [0], [(0, .ls 0), (1, .l (.v (.func (.func 84) #[] #[])))], [(0, some (.ro 1 l.length (LstL 2 eS l)))]⟩
  [] trivial ?_
 apply aw_seq
 refine awr [(2, .call [0] (.i (findI longB l)) [])]
  ⟨9, [0], [(4, .b (decide (0 ≤ (findI longB l))))], []⟩
  [CallOK Try.prog 104 [.ls 0, .l (.v (.func (.func 84) #[] #[]))] [0] [some (.ro 1 l.length (LstL 2 eS l))] (.i (findI longB l)) []] (al1 (cfr (plan_ix l hl hsh) [(0, 0)] (dem_cons rfl (le_ro rfl el_rfl) dem_nil))) ?_
 exact aw_ret ⟨.inr rfl, eok ⟨9, [0], [(4, .b (anyLong l))], []⟩
     (enr [] ⟨(slot_b (a := decide (0 ≤ (findI longB l))) rfl (by first | rfl | omega | assumption | (exact findI_any))), trivial⟩ trivial) wr_nil⟩
def grow_frK1 (n : Nat) : Cn := .vec 72 2 n (fun _ _ => DV.v (.int .i64 0))
def grow_frK2  : Cn := .vec 72 2 0 (Lst eS ([] : List Spt))
def grow_frK3  : Cn := .vec 72 2 (([] : List Spt).length) (Lst eS ([] : List Spt))
set_option maxRecDepth 100000 in
theorem grow_fr (n : Nat) (hn : n ≤ 10000000) : CallFr Try.prog 105 [.l (.v (.slice none 0 0)), .i ((n : Nat) : Int)] [] [] (.ls 2) [(2, some (.vec 72 2 (([] : List Spt).length) (Lst eS ([] : List Spt))))] := by
 refine callFr_of (fn := Try.f105) (by kernel_rfl) rfl (by kernel_rfl) (by kernel_rfl) fun E => ?_
 refine aw_ent (T := ⟨27, [], [(0, .l (.v (.slice none 0 0))), (1, .i ((n : Nat) : Int))], []⟩) (Ent.refl _) ?_
 apply aw_seq
 refine awr []
  ⟨27, [], [(0, .l (.v (.slice none 0 0))), (1, .i ((n : Nat) : Int))], []⟩
  [] trivial ?_
 apply aw_seq
 apply aw_seq
 refine awr []
  ⟨27, [], [(0, .l (.v (.slice none 0 0))), (1, .i ((n : Nat) : Int)), (6, .b (decide (((n : Nat) : Int) < 0)))], []⟩
  [] trivial ?_
 have h1 : (decide (((n : Nat) : Int) < 0)) = false := by exact decide_eq_false (by omega)
 refine aw_cond (b := decide (((n : Nat) : Int) < 0)) rfl (fun h => Bool.noConfusion (h1.symm.trans h)) (fun _ => ?_)
 apply aw_skip
 apply aw_seq
 apply aw_seq
 refine awr [(2, .act [] (.i 0) [])]
  ⟨27, [], [(0, .l (.v (.slice none 0 0))), (1, .i (((n : Nat) : Int) - (0 - 0)))], []⟩
  [ActOK Try.prog (.call ⟨.builtin .cap, #[(.tmp 9)], #[57]⟩) 3 [.l (.v (.slice none 0 0))] [] [] (.i 0) [], -9223372036854775808 ≤ ((0 - 0) : Int) ∧ ((0 - 0) : Int) < 9223372036854775808, -9223372036854775808 ≤ (((n : Nat) : Int) - (0 - 0)) ∧ (((n : Nat) : Int) - (0 - 0)) < 9223372036854775808] (al2 (act_capnil (e := 72) (by kernel_rfl)) (al2 (by omega) (al1 (by omega)))) ?_
 apply aw_seq
 refine aw_ent (T := ⟨27, [], [(0, .l (.v (.slice none 0 0))), (1, .i ((n : Nat) : Int))], []⟩)
     (enr [] ⟨rfl, (slot_i rfl (by first | rfl | omega | assumption | (omega))), trivial⟩ trivial) ?_
 refine awr []
  ⟨27, [], [(0, .l (.v (.slice none 0 0))), (1, .i ((n : Nat) : Int)), (16, .b (decide (0 < ((n : Nat) : Int))))], []⟩
  [] trivial ?_
 refine aw_cond (b := decide (0 < ((n : Nat) : Int))) rfl (fun h2 => ?_) (fun h2 => ?_)
 ·
  have h2p : 0 < ((n : Nat) : Int) := dtr h2
  refine awr [(2, .act [] (.i 0) []), (3, .act [] (.l (.v (.slice none 0 0))) []), (5, .act [] (.ls 1022) [(1022, some (grow_frK1 n))]), (8, .act [1022] (.ls 1025) [(1022, none), (1025, some grow_frK2)])]
   ⟨27, [], [(0, .ls 1025)], [(1025, some grow_frK2)]⟩
   [ActOK Try.prog (.call ⟨.builtin .cap, #[(.tmp 18)], #[57]⟩) 3 [.l (.v (.slice none 0 0))] [] [] (.i 0) [], ActOK Try.prog (.slice 57 (.tmp 17) none (some (.tmp 19)) none) 57 [.l (.v (.slice none 0 0)), .i 0] [] [] (.l (.v (.slice none 0 0))) [], ActOK Try.prog (.call ⟨.builtin .append, #[(.tmp 20), (.tmp 21)], #[57, 3]⟩) 57 [.l (.v (.slice none 0 0)), .i ((n : Nat) : Int)] [] [] (.ls 1022) [(1022, some (grow_frK1 n))], ActOK Try.prog (.slice 57 (.tmp 22) none (some (.tmp 24)) none) 57 [.ls 1022, .i 0] [1022] [some (grow_frK1 n)] (.ls 1025) [(1022, none), (1025, some grow_frK2)]] (al2 (act_capnil (e := 72) (by kernel_rfl)) (al2 (act_slnil (e := 72) (sz := 2) (by kernel_rfl) (by kernel_rfl)) (al2 (act_zeros2 (kn := .i64) (by kernel_rfl) (by kernel_rfl) (bytes := 16) (by kernel_rfl) (by decide) (by omega) (by omega) (by unfold maxLen; omega)) (al1 (act_cut0 (e := 72) (sz := 2) (by kernel_rfl) (by kernel_rfl) rfl))))) ?_
  apply aw_seq
  refine awr []
   ⟨27, [], [(4, .ls 1025)], [(1025, some grow_frK2)]⟩
   [] trivial ?_
  exact aw_ret ⟨.inr rfl, eok ⟨27, [], [(4, .ls 2)], [(2, some grow_frK3)]⟩
      (enr [(2, 1025)] ⟨rfl, trivial⟩ (conts_cons rfl (le_vec (by first | rfl | omega | assumption) el_rfl) trivial)) (wr_cons rfl (plain_Lst plain_eS) wr_nil)⟩
 ·
  have h2p : ((n : Nat) : Int) ≤ 0 := dlt h2
  apply aw_skip
  apply aw_seq
  refine awr []
   ⟨27, [], [(4, .l (.v (.slice none 0 0)))], []⟩
   [] trivial ?_
  exact aw_ret ⟨.inr rfl, eok ⟨27, [], [(4, .ls 2)], [(2, some grow_frK3)]⟩
      (Ent.trans (Ent.nilSlot 4 70001 72 2 (Lst eS ([] : List Spt)) rfl (by omega) (by kernel_rfl)) (enr [(2, 70001)] ⟨rfl, trivial⟩ (conts_cons rfl (le_vec (by first | rfl | omega | assumption) el_rfl) trivial))) (wr_cons rfl (plain_Lst plain_eS) wr_nil)⟩
def concat_frK1 (xss : List (List Spt)) (i : Nat) : Cn := .ro 2 ((ix xss i).length) (Lst eS (ix xss i))
def concat_frH2 (xss : List (List Spt)) (i : Nat) : List (Nat × Option Cn) := [(0, some (.ro 1 xss.length (LstL 2 eS xss))), (1014, some (concat_frK1 xss i))]
def concat_frK3  : Cn := .vec 72 2 (([] : List Spt).length) (Lst eS ([] : List Spt))
def concat_frH4 (xss : List (List Spt)) : List (Nat × Option Cn) := [(0, some (.ro 1 xss.length (LstL 2 eS xss))), (10240, some concat_frK3)]
def concat_frK5 (xss : List (List Spt)) (j : Nat) : Cn := .vec 72 2 (((xss.take j).flatten).length) (Lst eS ((xss.take j).flatten))
def concat_frH6 (xss : List (List Spt)) (j : Nat) : List (Nat × Option Cn) := [(0, some (.ro 1 xss.length (LstL 2 eS xss))), (2001, some (concat_frK5 xss j))]
def concat_frK7 (xss : List (List Spt)) (j : Nat) : Cn := .ro 2 ((ix xss j).length) (Lst eS (ix xss j))
def concat_frH8 (xss : List (List Spt)) (j : Nat) : List (Nat × Option Cn) := [(0, some (.ro 1 xss.length (LstL 2 eS xss))), (1030, some (concat_frK7 xss j)), (2001, some (concat_frK5 xss j))]
def concat_frK9 (xss : List (List Spt)) (j : Nat) : Cn := .vec 72 2 (((xss.take j).flatten).length + (ix xss j).length) (Lst eS (((xss.take j).flatten) ++ (ix xss j)))
def concat_frH10 (xss : List (List Spt)) (j : Nat) : List (Nat × Option Cn) := [(0, some (.ro 1 xss.length (LstL 2 eS xss))), (1033, some (concat_frK9 xss j))]
def concat_frK11 (xss : List (List Spt)) : Cn := .vec 72 2 xss.flatten.length (Lst eS xss.flatten)
set_option maxRecDepth 100000 in
theorem concat_fr (xss : List (List Spt)) (h1 : xss.length ≤ 100) (hsh : shortP 1000 xss) : CallFr Try.prog 85 [.ls 0] [0] [some (.ro 1 xss.length (LstL 2 eS xss))] (.ls 2) [(2, some (.vec 72 2 xss.flatten.length (Lst eS xss.flatten)))] := by
 have hT := flat_take hsh
 refine callFr_of (fn := Try.f85) (by kernel_rfl) rfl (by kernel_rfl) (by kernel_rfl) fun E => ?_
 refine aw_ent (T := ⟨36, [0], [(0, .ls 0)], [(0, some (.ro 1 xss.length (LstL 2 eS xss)))]⟩) (Ent.refl _) ?_
 apply aw_seq
 refine awr []
  ⟨36, [0], [(0, .ls 0)], [(0, some (.ro 1 xss.length (LstL 2 eS xss)))]⟩
  [] trivial ?_
 apply aw_seq
 refine awr []
  ⟨36, [0], [(0, .ls 0), (3, .i 0)], [(0, some (.ro 1 xss.length (LstL 2 eS xss)))]⟩
  [] trivial ?_
 apply aw_seq
 apply aw_seq
 refine awr []
  ⟨36, [0], [(0, .ls 0), (3, .i 0), (9, .ls 0), (10, .i ((xss.length : Nat) : Int)), (11, .i 0)], [(0, some (.ro 1 xss.length (LstL 2 eS xss)))]⟩
  [] trivial ?_
 apply aw_block
 refine aw_loop (ι := Nat) (fun zz => ⟨36, [0], [(0, .ls 0), (3, .i ((((xss.take zz).flatten.length) : Nat) : Int)), (9, .ls 0), (10, .i ((xss.length : Nat) : Int)), (11, .i ((zz : Nat) : Int))], [(0, some (.ro 1 xss.length (LstL 2 eS xss)))]⟩) (fun zz => (zz ≤ xss.length)) (fun zz => xss.length - zz) 0 (by first | omega | rfl | assumption | (simp; done))
     (enr [] ⟨rfl, (slot_i rfl (by first | rfl | omega | assumption | (exact flat_all (by omega)) | (exact (flat_all (by omega)).symm) | (rw [flat_all (by omega)]))), rfl, rfl, rfl, trivial⟩ (cro rfl trivial)) fun zz hp => ?_
 obtain ⟨i, rfl⟩ : ∃ x, x = zz := ⟨_, rfl⟩
 have hiL := hp
 have hTi := hT i
 have hTj := hT (i + 1)
 show AW _ E _ _ ⟨36, [0], [(0, .ls 0), (3, .i ((((xss.take i).flatten.length) : Nat) : Int)), (9, .ls 0), (10, .i ((xss.length : Nat) : Int)), (11, .i ((i : Nat) : Int))], [(0, some (.ro 1 xss.length (LstL 2 eS xss)))]⟩
 apply aw_seq
 refine awr []
  ⟨36, [0], [(0, .ls 0), (3, .i ((((xss.take i).flatten.length) : Nat) : Int)), (9, .ls 0), (10, .i ((xss.length : Nat) : Int)), (11, .i ((i : Nat) : Int)), (12, .b (decide (((i : Nat) : Int) < ((xss.length : Nat) : Int))))], [(0, some (.ro 1 xss.length (LstL 2 eS xss)))]⟩
  [] trivial ?_
 apply aw_seq
 refine aw_cond (b := decide (((i : Nat) : Int) < ((xss.length : Nat) : Int))) rfl (fun h1 => ?_) (fun h1 => ?_)
 ·
  have h1p : ((i : Nat) : Int) < ((xss.length : Nat) : Int) := dtr h1
  apply aw_skip
  apply aw_seq
  apply aw_block
  apply aw_seq
  refine awr [(0, .idx i), (1, .many [1014])]
   ⟨36, [0], [(0, .ls 0), (3, .i ((((xss.take i).flatten.length) : Nat) : Int)), (5, .ls 1014), (9, .ls 0), (10, .i ((xss.length : Nat) : Int)), (11, .i ((i : Nat) : Int))], (concat_frH2 xss i)⟩
   [((i : Nat) : Int) = ((i : Nat) : Int), i < xss.length, i < xss.length] (al2 (by omega) (al2 (by omega) (al1 (by omega)))) ?_
  have hTk : (ix xss i).length ≤ 1000 := hsh _ (ix_mem (by omega))
  apply aw_seq
  refine awr [(3, .num (((((xss.take i).flatten.length) + (ix xss i).length) : Nat) : Int))]
   ⟨36, [0], [(0, .ls 0), (3, .i (((((xss.take i).flatten.length) + (ix xss i).length) : Nat) : Int)), (9, .ls 0), (10, .i ((xss.length : Nat) : Int)), (11, .i ((i : Nat) : Int))], [(0, some (.ro 1 xss.length (LstL 2 eS xss)))]⟩
   [(((((xss.take i).flatten.length) : Nat) : Int) + (((ix xss i).length : Nat) : Int)) = (((((xss.take i).flatten.length) + (ix xss i).length) : Nat) : Int), -9223372036854775808 ≤ (((((xss.take i).flatten.length) + (ix xss i).length) : Nat) : Int) ∧ (((((xss.take i).flatten.length) + (ix xss i).length) : Nat) : Int) < 9223372036854775808] (al2 (by omega) (al1 (by omega))) ?_
  apply aw_seq
  refine awr []
   ⟨36, [0], [(0, .ls 0), (3, .i (((((xss.take i).flatten.length) + (ix xss i).length) : Nat) : Int)), (9, .ls 0), (10, .i ((xss.length : Nat) : Int)), (11, .i ((i : Nat) : Int)), (20, .b (decide ((((((xss.take i).flatten.length) + (ix xss i).length) : Nat) : Int) < 0)))], [(0, some (.ro 1 xss.length (LstL 2 eS xss)))]⟩
   [] trivial ?_
  have h2 : (decide ((((((xss.take i).flatten.length) + (ix xss i).length) : Nat) : Int) < 0)) = false := by exact decide_eq_false (by omega)
  refine aw_cond (b := decide ((((((xss.take i).flatten.length) + (ix xss i).length) : Nat) : Int) < 0)) rfl (fun h => Bool.noConfusion (h2.symm.trans h)) (fun _ => ?_)
  apply aw_skip
  refine awr [(0, .num (((i + 1) : Nat) : Int))]
   ⟨36, [0], [(0, .ls 0), (3, .i (((((xss.take i).flatten.length) + (ix xss i).length) : Nat) : Int)), (9, .ls 0), (10, .i ((xss.length : Nat) : Int)), (11, .i (((i + 1) : Nat) : Int))], [(0, some (.ro 1 xss.length (LstL 2 eS xss)))]⟩
   [(((i : Nat) : Int) + 1) = (((i + 1) : Nat) : Int), -9223372036854775808 ≤ (((i + 1) : Nat) : Int) ∧ (((i + 1) : Nat) : Int) < 9223372036854775808] (al2 (by omega) (al1 (by omega))) ?_
  exact ⟨(i + 1), (by first | omega | rfl | assumption | (simp; done)), (show xss.length - (i + 1) < xss.length - i by first | omega | rfl | assumption),
      (enr [] ⟨rfl, (slot_i rfl (by first | rfl | omega | assumption | ((have q := congrArg List.length (take_flat (xss := xss) (i := i) (by omega)); rw [List.length_append] at q; omega)) | (exact flat_all (by omega)) | (exact (flat_all (by omega)).symm) | (rw [flat_all (by omega)]))), rfl, rfl, rfl, trivial⟩ (cro rfl trivial))⟩
 ·
  have h1p : ((xss.length : Nat) : Int) ≤ ((i : Nat) : Int) := dlt h1
  refine aw_exit (exit_then (exit_then (exit_in ?_)))
  apply aw_seq
  refine awr [(1, .call [] (.ls 10240) [(10240, some concat_frK3)])]
   ⟨36, [0], [(0, .ls 0), (6, .ls 10240)], (concat_frH4 xss)⟩
   [CallOK Try.prog 105 [.l (.v (.slice none 0 0)), .i ((((xss.take i).flatten.length) : Nat) : Int)] [] [] (.ls 10240) [(10240, some concat_frK3)]] (al1 (cfr (grow_fr ((xss.take i).flatten.length) (by omega)) [(2, 10240)] dem_nil)) ?_
  apply aw_seq
  apply aw_seq
  refine awr []
   ⟨36, [0], [(6, .ls 10240), (25, .ls 0), (26, .i ((xss.length : Nat) : Int)), (27, .i 0)], (concat_frH4 xss)⟩
   [] trivial ?_
  apply aw_block
  refine aw_loop (ι := Nat) (fun zz => ⟨36, [0], [(6, .ls 2001), (25, .ls 0), (26, .i ((xss.length : Nat) : Int)), (27, .i ((zz : Nat) : Int))], (concat_frH6 xss zz)⟩) (fun zz => (zz ≤ xss.length)) (fun zz => xss.length - zz) 0 (by first | omega | rfl | assumption | (simp; done))
      (enr [(2001, 10240)] ⟨rfl, rfl, rfl, rfl, trivial⟩ (cro rfl (conts_cons rfl (le_vec (by first | rfl | omega | assumption | (exact flat_all (by omega)) | (exact (flat_all (by omega)).symm) | (rw [flat_all (by omega)])) (lst_eq (by first | rfl | omega | assumption | (exact flat_all (by omega)) | (exact (flat_all (by omega)).symm) | (rw [flat_all (by omega)])))) trivial))) fun zz hp => ?_
  obtain ⟨j, rfl⟩ : ∃ x, x = zz := ⟨_, rfl⟩
  have hjL := hp
  have hTi := hT j
  show AW _ E _ _ ⟨36, [0], [(6, .ls 2001), (25, .ls 0), (26, .i ((xss.length : Nat) : Int)), (27, .i ((j : Nat) : Int))], (concat_frH6 xss j)⟩
  apply aw_seq
  refine awr []
   ⟨36, [0], [(6, .ls 2001), (25, .ls 0), (26, .i ((xss.length : Nat) : Int)), (27, .i ((j : Nat) : Int)), (28, .b (decide (((j : Nat) : Int) < ((xss.length : Nat) : Int))))], (concat_frH6 xss j)⟩
   [] trivial ?_
  apply aw_seq
  refine aw_cond (b := decide (((j : Nat) : Int) < ((xss.length : Nat) : Int))) rfl (fun h3 => ?_) (fun h3 => ?_)
  ·
   have h3p : ((j : Nat) : Int) < ((xss.length : Nat) : Int) := dtr h3
   apply aw_skip
   apply aw_seq
   apply aw_block
   apply aw_seq
   refine awr [(0, .idx j), (1, .many [1030])]
    ⟨36, [0], [(6, .ls 2001), (8, .ls 1030), (25, .ls 0), (26, .i ((xss.length : Nat) : Int)), (27, .i ((j : Nat) : Int))], (concat_frH8 xss j)⟩
    [((j : Nat) : Int) = ((j : Nat) : Int), j < xss.length, j < xss.length] (al2 (by omega) (al2 (by omega) (al1 (by omega)))) ?_
   have hTk : (ix xss j).length ≤ 1000 := hsh _ (ix_mem (by omega))
   refine awr [(2, .lst 1033 (((xss.take j).flatten).length + (ix xss j).length) (Lst eS (((xss.take j).flatten) ++ (ix xss j))))]
    ⟨36, [0], [(6, .ls 1033), (25, .ls 0), (26, .i ((xss.length : Nat) : Int)), (27, .i ((j : Nat) : Int))], (concat_frH10 xss j)⟩
    [((xss.take j).flatten).length + (ix xss j).length ≤ 1000000000000, (((xss.take j).flatten).length + (ix xss j).length) * 16 ≤ 140737488355328, AppOk 2 (((xss.take j).flatten).length) ((ix xss j).length) (Lst eS ((xss.take j).flatten)) (Lst eS (ix xss j)) (((xss.take j).flatten).length + (ix xss j).length) (Lst eS (((xss.take j).flatten) ++ (ix xss j)))] (al2 (by omega) (al2 (by omega) (al1 (app_list (by first | omega | rfl | assumption) (by first | omega | rfl | assumption))))) ?_
   refine awr [(0, .num (((j + 1) : Nat) : Int))]
    ⟨36, [0], [(6, .ls 1033), (25, .ls 0), (26, .i ((xss.length : Nat) : Int)), (27, .i (((j + 1) : Nat) : Int))], (concat_frH10 xss j)⟩
    [(((j : Nat) : Int) + 1) = (((j + 1) : Nat) : Int), -9223372036854775808 ≤ (((j + 1) : Nat) : Int) ∧ (((j + 1) : Nat) : Int) < 9223372036854775808] (al2 (by omega) (al1 (by omega))) ?_
   exact ⟨(j + 1), (by first | omega | rfl | assumption | (simp; done)), (show xss.length - (j + 1) < xss.length - j by first | omega | rfl | assumption),
       (enr [(2001, 1033)] ⟨rfl, rfl, rfl, rfl, trivial⟩ (cro rfl (conts_cons rfl (le_vec (by first | rfl | omega | assumption | (exact (take_flat (by omega)).symm) | (exact take_flat (by omega)) | ((have q := congrArg List.length (take_flat (xss := xss) (i := j) (by omega)); rw [List.length_append] at q; omega)) | (exact flat_all (by omega)) | (exact (flat_all (by omega)).symm) | (rw [flat_all (by omega)])) (lst_eq (by first | rfl | omega | assumption | (exact (take_flat (by omega)).symm) | (exact take_flat (by omega)) | ((have q := congrArg List.length (take_flat (xss := xss) (i := j) (by omega)); rw [List.length_append] at q; omega)) | (exact flat_all (by omega)) | (exact (flat_all (by omega)).symm) | (rw [flat_all (by omega)])))) trivial)))⟩
  ·
   have h3p : ((xss.length : Nat) : Int) ≤ ((j : Nat) : Int) := dlt h3
   refine aw_exit (exit_then (exit_then (exit_in ?_)))
   apply aw_seq
   refine awr []
    ⟨36, [0], [(2, .ls 2001)], [(2001, some (concat_frK5 xss j))]⟩
    [] trivial ?_
   exact aw_ret ⟨.inr rfl, eok ⟨36, [0], [(2, .ls 2)], [(2, some (concat_frK11 xss))]⟩
       (enr [(2, 2001)] ⟨rfl, trivial⟩ (conts_cons rfl (le_vec (by first | rfl | omega | assumption | (exact flat_all (by omega)) | (exact (flat_all (by omega)).symm) | (rw [flat_all (by omega)])) (lst_eq (by first | rfl | omega | assumption | (exact flat_all (by omega)) | (exact (flat_all (by omega)).symm) | (rw [flat_all (by omega)])))) trivial)) (wr_cons rfl (plain_Lst plain_eS) wr_nil)⟩
end Go.Proofs.Ytbpblhmigijkaaa
