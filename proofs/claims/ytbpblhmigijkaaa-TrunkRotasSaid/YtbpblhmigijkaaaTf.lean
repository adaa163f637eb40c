/- What is free. -/
import Derived.Test.YtbpblhmigijkaaaTe
import Derived.Test.YtbpblhmigijkaaaTs
namespace Go.Proofs.Ytbpblhmigijkaaa
open Go.RowKit
set_option linter.unusedVariables false
set_option linter.unusedSimpArgs false
set_option maxRecDepth 100000 in
theorem arc_fr (a m : Int) : CallFr Try.prog 93 [.i a, .i m] [] [] (.l (.fnc (.func 107) [2, 3])) [(2, some (.blk 3 [.i a])), (3, some (.blk 3 [.i m]))] := by
 refine callFr_of (fn := Try.f93) (by kernel_rfl) rfl (by kernel_rfl) (by kernel_rfl) fun E => ?_
 refine aw_ent (T := ⟨6, [], [(0, .i a), (1, .i m)], []⟩) (Ent.refl _) ?_
 apply aw_seq
 refine awr [(0, .new 1002), (1, .new 1003)]
  ⟨6, [], [(2, .l (.ref 1002 0)), (3, .l (.ref 1003 0))], [(1002, some (.blk 3 [.i a])), (1003, some (.blk 3 [.i m]))]⟩
  [] trivial ?_
 apply aw_seq
 refine awr []
  ⟨6, [], [(4, .l (.fnc (.func 107) [1002, 1003]))], [(1002, some (.blk 3 [.i a])), (1003, some (.blk 3 [.i m]))]⟩
  [] trivial ?_
 exact aw_ret ⟨.inr rfl, eok ⟨6, [], [(4, .l (.fnc (.func 107) [2, 3]))], [(2, some (.blk 3 [.i a])), (3, some (.blk 3 [.i m]))]⟩
     (enr [(2, 1002), (3, 1003)] ⟨rfl, trivial⟩ (cbl rfl rfl (cbl rfl rfl trivial))) (wr_cons rfl plain_blk (wr_cons rfl plain_blk wr_nil))⟩
def free_frK1 (x : TrkV) : Cn := .rblk [.i x.t.year, .i x.t.glo, .i x.t.ghi, .i x.t.wlo, .i x.t.whi, .i x.t.health, .ls 1, .i x.r.slo, .i x.r.shi, .i x.r.ulo, .i x.r.uhi, .i x.r.hlo, .i x.r.hhi, .i x.r.apart, .i x.r.blo, .i x.r.bhi, .ls 2, .i x.r.n0, .i x.r.n1, .i x.r.n2, .i x.r.n3, .i x.r.n4, .i x.r.opn, .i x.year, .i x.worst.girth, .i x.worst.side, .i x.worst.up, .i x.worst.heal, .i x.best.girth, .i x.best.side, .i x.best.up, .i x.best.heal]
def free_frK2 (x : TrkV) : Cn := .ro 3 x.t.holes.length (Lst eH x.t.holes)
def free_frK3 (x : TrkV) : Cn := .ro 2 x.r.sizes.length (Lst eZ x.r.sizes)
def free_frH4 (x : TrkV) : List (Nat × Option Cn) := [(0, some (free_frK1 x)), (1, some (free_frK2 x)), (2, some (free_frK3 x))]
def free_frK5  : Cn := .vec 23 2 1 (exEl 2 [.i 0, .i 3599])
def free_frH6 (x : TrkV) : List (Nat × Option Cn) := [(0, some (free_frK1 x)), (1, some (free_frK2 x)), (2, some (free_frK3 x)), (1005, some (.blk 52 [.ls 1011])), (1011, some free_frK5)]
def free_frH7 (x : TrkV) (s : List Rg) : List (Nat × Option Cn) := [(0, some (free_frK1 x)), (1, some (free_frK2 x)), (2, some (free_frK3 x)), (1005, some (.blk 52 [.ls 2001])), (2001, some (.vec 23 2 s.length (Lst eG s)))]
def free_frK8 (x : TrkV) (i : Nat) : Cn := .blk 74 [.i ((ix x.t.holes i).year), .i ((ix x.t.holes i).angle), .i ((ix x.t.holes i).height)]
def free_frH9 (x : TrkV) (i : Nat) (s : List Rg) : List (Nat × Option Cn) := [(0, some (free_frK1 x)), (1, some (free_frK2 x)), (2, some (free_frK3 x)), (1005, some (.blk 52 [.ls 2001])), (1008, some (free_frK8 x i)), (2001, some (.vec 23 2 s.length (Lst eG s)))]
def free_frA10 (x : TrkV) (i : Nat) : SV := .agg [.i ((ix x.t.holes i).year), .i ((ix x.t.holes i).angle), .i ((ix x.t.holes i).height)]
def free_frA11 (x : TrkV) : SV := .agg [.i x.worst.girth, .i x.worst.side, .i x.worst.up, .i x.worst.heal]
def free_frK12 (x : TrkV) (i : Nat) : Cn := .blk 3 [.i ((ix x.t.holes i).angle)]
def free_frH13 (x : TrkV) (s : List Rg) (i : Nat) : List (Nat × Option Cn) := [(0, some (free_frK1 x)), (1, some (free_frK2 x)), (2, some (free_frK3 x)), (1005, some (.blk 52 [.ls 2001])), (2001, some (.vec 23 2 s.length (Lst eG s))), (10650, some (free_frK12 x i)), (10651, some (.blk 3 [.i (nearV x.worst)]))]
def free_frK14 (s : List Rg) : Cn := .vec 23 2 ((withoutV s ([(⟨0, 3599⟩ : Rg)])).length) (Lst eG (withoutV s ([(⟨0, 3599⟩ : Rg)])))
def free_frH15 (x : TrkV) (s : List Rg) : List (Nat × Option Cn) := [(0, some (free_frK1 x)), (1, some (free_frK2 x)), (2, some (free_frK3 x)), (1005, some (.blk 52 [.ls 10710])), (10710, some (free_frK14 s))]
def free_frK16  : Cn := .vec 3 1 3 (exEl 1 [.i (-3600), .i 0, .i 3600])
def free_frK17  : Cn := .vec 3 1 3 (Lst eI ([(-3600), 0, 3600]))
def free_frK18 (x : TrkV) (i : Nat) (j : Nat) : Cn := .blk 23 [.i (max 0 ((((ix x.t.holes i).angle) - (nearV x.worst)) + (ix ([(-3600), 0, 3600]) j))), .i (min 3599 ((((ix x.t.holes i).angle) + (nearV x.worst)) + (ix ([(-3600), 0, 3600]) j)))]
def free_frA19 (x : TrkV) (i : Nat) (j : Nat) : SV := .agg [.i (max 0 ((((ix x.t.holes i).angle) - (nearV x.worst)) + (ix ([(-3600), 0, 3600]) j))), .i (min 3599 ((((ix x.t.holes i).angle) + (nearV x.worst)) + (ix ([(-3600), 0, 3600]) j)))]
def free_frK20 (u : List Rg) (x : TrkV) (i : Nat) (j : Nat) : Cn := .vec 23 2 ((withoutV u ([(⟨(max 0 ((((ix x.t.holes i).angle) - (nearV x.worst)) + (ix ([(-3600), 0, 3600]) j))), (min 3599 ((((ix x.t.holes i).angle) + (nearV x.worst)) + (ix ([(-3600), 0, 3600]) j)))⟩ : Rg)])).length) (Lst eG (withoutV u ([(⟨(max 0 ((((ix x.t.holes i).angle) - (nearV x.worst)) + (ix ([(-3600), 0, 3600]) j))), (min 3599 ((((ix x.t.holes i).angle) + (nearV x.worst)) + (ix ([(-3600), 0, 3600]) j)))⟩ : Rg)])))
def free_frK21 (x : TrkV) (i : Nat) (j : Nat) : Cn := .vec 23 2 1 (exEl 2 [.i (max 0 ((((ix x.t.holes i).angle) - (nearV x.worst)) + (ix ([(-3600), 0, 3600]) j))), .i (min 3599 ((((ix x.t.holes i).angle) + (nearV x.worst)) + (ix ([(-3600), 0, 3600]) j)))])
def free_frH22 (x : TrkV) (u : List Rg) : List (Nat × Option Cn) := [(0, some (free_frK1 x)), (1, some (free_frK2 x)), (2, some (free_frK3 x)), (1005, some (.blk 52 [.ls 2002])), (2002, some (.vec 23 2 u.length (Lst eG u)))]
def free_frK23 (x : TrkV) (e : Int) : Cn := .vec 23 2 ((freeV x e).length) (Lst eG (freeV x e))
set_option maxRecDepth 100000 in
theorem free_fr (x : TrkV) (e : Int) (hx : TrkOk x) (he : -1000000 ≤ e ∧ e ≤ 1000000) : CallFr Try.prog 66 [.l (.ref 0 0), .i e] [0, 1, 2] [some (.rblk [.i x.t.year, .i x.t.glo, .i x.t.ghi, .i x.t.wlo, .i x.t.whi, .i x.t.health, .ls 1, .i x.r.slo, .i x.r.shi, .i x.r.ulo, .i x.r.uhi, .i x.r.hlo, .i x.r.hhi, .i x.r.apart, .i x.r.blo, .i x.r.bhi, .ls 2, .i x.r.n0, .i x.r.n1, .i x.r.n2, .i x.r.n3, .i x.r.n4, .i x.r.opn, .i x.year, .i x.worst.girth, .i x.worst.side, .i x.worst.up, .i x.worst.heal, .i x.best.girth, .i x.best.side, .i x.best.up, .i x.best.heal]), some (.ro 3 x.t.holes.length (Lst eH x.t.holes)), some (.ro 2 x.r.sizes.length (Lst eZ x.r.sizes))] (.ls 4) [(4, some (.vec 23 2 ((freeV x e).length) (Lst eG (freeV x e))))] := by
 have h1 := hx.t.len
 have h2 := hx.worst.side
 have h3 := hx.worst.girth
 have h4 := near_bd hx.worst
 refine callFr_ofR (fn := Try.f66) (by kernel_rfl) rfl (by kernel_rfl) (by kernel_rfl) fun E hE => ?_
 refine aw_ent (T := ⟨76, [0, 1, 2], [(0, .l (.ref 0 0)), (1, .i e)], (free_frH4 x)⟩) (Ent.refl _) ?_
 apply aw_seq
 refine awr []
  ⟨76, [0, 1, 2], [(0, .l (.ref 0 0)), (1, .i e)], (free_frH4 x)⟩
  [] trivial ?_
 apply aw_seq
 refine awr [(1, .new 1011), (2, .new 1005)]
  ⟨76, [0, 1, 2], [(0, .l (.ref 0 0)), (1, .i e), (5, .l (.ref 1005 0))], (free_frH6 x)⟩
  [] trivial ?_
 apply aw_seq
 refine awd [(12, .act [] (.i (nearV x.worst)) [])]
  ⟨76, [0, 1, 2], [(0, .l (.ref 0 0)), (1, .i e), (5, .l (.ref 1005 0)), (6, .i (nearV x.worst))], (free_frH6 x)⟩
  [-9223372036854775808 ≤ (3600 * x.worst.side) ∧ (3600 * x.worst.side) < 9223372036854775808, -9223372036854775808 ≤ ((3600 * x.worst.side) - 1) ∧ ((3600 * x.worst.side) - 1) < 9223372036854775808, ActOK Try.prog (.binOp .quo 3 (.tmp 18) (.tmp 23) 3) 3 [.i ((3600 * x.worst.side) - 1), .i x.worst.girth] [] [] (.i (nearV x.worst)) []] (al2 (by omega) (al2 (by omega) (al1 (act_quo (by omega) rfl (by show _ ∧ _; have := near_bd hx.worst; unfold nearV at this; constructor <;> omega))))) ?_
 apply aw_seq
 apply aw_seq
 refine awr []
  ⟨76, [0, 1, 2], [(0, .l (.ref 0 0)), (1, .i e), (5, .l (.ref 1005 0)), (6, .i (nearV x.worst)), (29, .ls 1), (30, .i (x.t.holes.length : Int)), (31, .i 0)], (free_frH6 x)⟩
  [] trivial ?_
 apply aw_block
 refine aw_loop (ι := Nat × List Rg) (fun zz => ⟨76, [0, 1, 2], [(0, .l (.ref 0 0)), (1, .i e), (5, .l (.ref 1005 0)), (6, .i (nearV x.worst)), (29, .ls 1), (30, .i (x.t.holes.length : Int)), (31, .i (zz.1 : Int))], (free_frH7 x zz.2)⟩) (fun zz => (zz.1 ≤ x.t.holes.length) ∧ (FreeOk zz.2 (1 + 3 * zz.1)) ∧ ((x.t.holes.drop zz.1).foldl (freeS x e (nearV x.worst)) zz.2 = freeV x e)) (fun zz => x.t.holes.length - zz.1) (0, [⟨0, 3599⟩]) ⟨(by (try dsimp only); first | omega | rfl | assumption | (simp; done)), (by (try dsimp only); exact first_ok), (by (try dsimp only); rfl)⟩
     (enr [(2001, 1011)] ⟨rfl, rfl, rfl, rfl, rfl, rfl, rfl, trivial⟩ (crr rfl rfl (cro rfl (cro rfl (cbl rfl rfl (conts_cons rfl (le_vec (by first | rfl | omega | assumption | (rw [hz])) (fun | 0, _ => (fun | 0, _ => rfl | 1, _ => rfl | (_n + 2), h => absurd h (by omega)) | (_n + 1), h => absurd h (by omega))) trivial)))))) fun zz hp => ?_
 obtain ⟨i, s⟩ := zz
 obtain ⟨hiL, hok, hq⟩ := hp
 dsimp only at hiL hok hq
 show AW _ E _ _ ⟨76, [0, 1, 2], [(0, .l (.ref 0 0)), (1, .i e), (5, .l (.ref 1005 0)), (6, .i (nearV x.worst)), (29, .ls 1), (30, .i (x.t.holes.length : Int)), (31, .i (i : Int))], (free_frH7 x s)⟩
 apply aw_seq
 refine awr []
  ⟨76, [0, 1, 2], [(0, .l (.ref 0 0)), (1, .i e), (5, .l (.ref 1005 0)), (6, .i (nearV x.worst)), (29, .ls 1), (30, .i (x.t.holes.length : Int)), (31, .i (i : Int)), (32, .b (decide ((i : Int) < (x.t.holes.length : Int))))], (free_frH7 x s)⟩
  [] trivial ?_
 apply aw_seq
 refine aw_cond (b := decide ((i : Int) < (x.t.holes.length : Int))) rfl (fun h1 => ?_) (fun h1 => ?_)
 ·
  have h1p : (i : Int) < (x.t.holes.length : Int) := dtr h1
  apply aw_skip
  apply aw_seq
  apply aw_block
  apply aw_seq
  refine awr [(0, .idx i), (2, .new 1008)]
   ⟨76, [0, 1, 2], [(0, .l (.ref 0 0)), (1, .i e), (5, .l (.ref 1005 0)), (6, .i (nearV x.worst)), (8, .l (.ref 1008 0)), (29, .ls 1), (30, .i (x.t.holes.length : Int)), (31, .i (i : Int))], (free_frH9 x i s)⟩
   [(i : Int) = (i : Int), i < x.t.holes.length, i < x.t.holes.length] (al2 (by omega) (al2 (by omega) (al1 (by omega)))) ?_
  have hh := hx.t.hole _ (ix_mem (l := x.t.holes) (i := i) (by omega))
  have hha := hh.2
  apply aw_seq
  apply aw_seq
  rcases Bool.eq_false_or_eq_true (decide (x.worst.side = 0)) with h2 | h2
  ·
   have h2p : x.worst.side = 0 := dtr h2
   refine awd [(6, .dec true)]
    ⟨76, [0, 1, 2], [(0, .l (.ref 0 0)), (1, .i e), (5, .l (.ref 1005 0)), (6, .i (nearV x.worst)), (8, .l (.ref 1008 0)), (29, .ls 1), (30, .i (x.t.holes.length : Int)), (31, .i (i : Int)), (60, .b true)], (free_frH9 x i s)⟩
    [decide (x.worst.side = 0) = true] (al1 h2) ?_
   refine aw_true rfl ?_
   refine aw_exit (exit_then (exit_in ?_))
   refine awr [(0, .num (((i + 1) : Nat) : Int))]
    ⟨76, [0, 1, 2], [(0, .l (.ref 0 0)), (1, .i e), (5, .l (.ref 1005 0)), (6, .i (nearV x.worst)), (29, .ls 1), (30, .i (x.t.holes.length : Int)), (31, .i (((i + 1) : Nat) : Int))], (free_frH7 x s)⟩
    [((i : Int) + 1) = (((i + 1) : Nat) : Int), -9223372036854775808 ≤ (((i + 1) : Nat) : Int) ∧ (((i + 1) : Nat) : Int) < 9223372036854775808] (al2 (by omega) (al1 (by omega))) ?_
   have hO : FreeOk s (1 + 3 * (i + 1)) := by first | exact hok.mono (by omega) | exact (off_ok hok (by decide)).mono (by omega) | exact hu.mono (by omega)
   have hN : s = freeS x e (nearV x.worst) s (ix x.t.holes i) := by first | exact (free_no1 (by assumption)).symm | exact (free_no2 (by assumption)).symm | exact (free_no3 (by assumption)).symm | exact (free_all (by assumption) (by assumption) (by assumption) (by omega)).symm | (rw [free_arc2 (by assumption) (by assumption) (by assumption), ← hv, arcs_end (by omega)]; rfl)
   exact ⟨((i + 1), s), ⟨(by (try dsimp only); first | omega | rfl | assumption | (simp; done)), (by (try dsimp only); exact hO), (by (try dsimp only); rw [← hq, drop_ix (by omega : i < x.t.holes.length), List.foldl_cons, ← hN])⟩, (show x.t.holes.length - (i + 1) < x.t.holes.length - i by first | omega | rfl | assumption),
       (enr [] ⟨rfl, rfl, rfl, rfl, rfl, rfl, rfl, trivial⟩ (crr rfl rfl (cro rfl (cro rfl (cbl rfl rfl (cve rfl trivial))))))⟩
  ·
   have h2p : x.worst.side ≠ 0 := deq h2
   rcases Bool.eq_false_or_eq_true ((!(countsV x.year (ix x.t.holes i) x.worst))) with h3 | h3
   ·
    refine awd [(6, .dec false), (13, .call [0, 1, 2] (.b (countsV x.year (ix x.t.holes i) x.worst)) []), (16, .dec true)]
     ⟨76, [0, 1, 2], [(0, .l (.ref 0 0)), (1, .i e), (5, .l (.ref 1005 0)), (6, .i (nearV x.worst)), (8, .l (.ref 1008 0)), (29, .ls 1), (30, .i (x.t.holes.length : Int)), (31, .i (i : Int)), (60, .b true)], (free_frH9 x i s)⟩
     [decide (x.worst.side = 0) = false, CallOK Try.prog 91 [.l (.ref 0 0), (free_frA10 x i), (free_frA11 x)] [0, 1, 2] [some (free_frK1 x), some (free_frK2 x), some (free_frK3 x)] (.b (countsV x.year (ix x.t.holes i) x.worst)) [], (!(countsV x.year (ix x.t.holes i) x.worst)) = true] (al2 h2 (al2 (cfr (counts_fr x (ix x.t.holes i) x.worst (by assumption) (by first | assumption | exact (TrkOk.t (by assumption)).hole _ (ix_mem (by omega)))) [(0, 0), (1, 1), (2, 2)] (dem_cons rfl (le_rblk rfl) (dem_cons rfl (le_ro rfl el_rfl) (dem_cons rfl (le_ro rfl el_rfl) dem_nil)))) (al1 h3))) ?_
    refine aw_true rfl ?_
    refine aw_exit (exit_then (exit_in ?_))
    refine awr [(0, .num (((i + 1) : Nat) : Int))]
     ⟨76, [0, 1, 2], [(0, .l (.ref 0 0)), (1, .i e), (5, .l (.ref 1005 0)), (6, .i (nearV x.worst)), (29, .ls 1), (30, .i (x.t.holes.length : Int)), (31, .i (((i + 1) : Nat) : Int))], (free_frH7 x s)⟩
     [((i : Int) + 1) = (((i + 1) : Nat) : Int), -9223372036854775808 ≤ (((i + 1) : Nat) : Int) ∧ (((i + 1) : Nat) : Int) < 9223372036854775808] (al2 (by omega) (al1 (by omega))) ?_
    have hO : FreeOk s (1 + 3 * (i + 1)) := by first | exact hok.mono (by omega) | exact (off_ok hok (by decide)).mono (by omega) | exact hu.mono (by omega)
    have hN : s = freeS x e (nearV x.worst) s (ix x.t.holes i) := by first | exact (free_no1 (by assumption)).symm | exact (free_no2 (by assumption)).symm | exact (free_no3 (by assumption)).symm | exact (free_all (by assumption) (by assumption) (by assumption) (by omega)).symm | (rw [free_arc2 (by assumption) (by assumption) (by assumption), ← hv, arcs_end (by omega)]; rfl)
    exact ⟨((i + 1), s), ⟨(by (try dsimp only); first | omega | rfl | assumption | (simp; done)), (by (try dsimp only); exact hO), (by (try dsimp only); rw [← hq, drop_ix (by omega : i < x.t.holes.length), List.foldl_cons, ← hN])⟩, (show x.t.holes.length - (i + 1) < x.t.holes.length - i by first | omega | rfl | assumption),
        (enr [] ⟨rfl, rfl, rfl, rfl, rfl, rfl, rfl, trivial⟩ (crr rfl rfl (cro rfl (cro rfl (cbl rfl rfl (cve rfl trivial))))))⟩
   ·
    refine awd [(6, .dec false), (13, .call [0, 1, 2] (.b (countsV x.year (ix x.t.holes i) x.worst)) []), (16, .dec false), (23, .call [] (.b (levelV x.worst (ix x.t.holes i) e)) [])]
     ⟨76, [0, 1, 2], [(0, .l (.ref 0 0)), (1, .i e), (5, .l (.ref 1005 0)), (6, .i (nearV x.worst)), (8, .l (.ref 1008 0)), (29, .ls 1), (30, .i (x.t.holes.length : Int)), (31, .i (i : Int)), (60, .b (!(levelV x.worst (ix x.t.holes i) e)))], (free_frH9 x i s)⟩
     [decide (x.worst.side = 0) = false, CallOK Try.prog 91 [.l (.ref 0 0), (free_frA10 x i), (free_frA11 x)] [0, 1, 2] [some (free_frK1 x), some (free_frK2 x), some (free_frK3 x)] (.b (countsV x.year (ix x.t.holes i) x.worst)) [], (!(countsV x.year (ix x.t.holes i) x.worst)) = false, CallOK Try.prog 92 [(free_frA11 x), (free_frA10 x i), .i e] [] [] (.b (levelV x.worst (ix x.t.holes i) e)) []] (al2 h2 (al2 (cfr (counts_fr x (ix x.t.holes i) x.worst (by assumption) (by first | assumption | exact (TrkOk.t (by assumption)).hole _ (ix_mem (by omega)))) [(0, 0), (1, 1), (2, 2)] (dem_cons rfl (le_rblk rfl) (dem_cons rfl (le_ro rfl el_rfl) (dem_cons rfl (le_ro rfl el_rfl) dem_nil)))) (al2 h3 (al1 (cfr (level_fr x.worst (ix x.t.holes i) e (by first | assumption | exact (TrkOk.t (by assumption)).hole _ (ix_mem (by omega))) (by omega)) [] dem_nil))))) ?_
    refine aw_cond (b := (!(levelV x.worst (ix x.t.holes i) e))) rfl (fun h4 => ?_) (fun h4 => ?_)
    ·
     refine aw_exit (exit_then (exit_in ?_))
     refine awr [(0, .num (((i + 1) : Nat) : Int))]
      ⟨76, [0, 1, 2], [(0, .l (.ref 0 0)), (1, .i e), (5, .l (.ref 1005 0)), (6, .i (nearV x.worst)), (29, .ls 1), (30, .i (x.t.holes.length : Int)), (31, .i (((i + 1) : Nat) : Int))], (free_frH7 x s)⟩
      [((i : Int) + 1) = (((i + 1) : Nat) : Int), -9223372036854775808 ≤ (((i + 1) : Nat) : Int) ∧ (((i + 1) : Nat) : Int) < 9223372036854775808] (al2 (by omega) (al1 (by omega))) ?_
     have hO : FreeOk s (1 + 3 * (i + 1)) := by first | exact hok.mono (by omega) | exact (off_ok hok (by decide)).mono (by omega) | exact hu.mono (by omega)
     have hN : s = freeS x e (nearV x.worst) s (ix x.t.holes i) := by first | exact (free_no1 (by assumption)).symm | exact (free_no2 (by assumption)).symm | exact (free_no3 (by assumption)).symm | exact (free_all (by assumption) (by assumption) (by assumption) (by omega)).symm | (rw [free_arc2 (by assumption) (by assumption) (by assumption), ← hv, arcs_end (by omega)]; rfl)
     exact ⟨((i + 1), s), ⟨(by (try dsimp only); first | omega | rfl | assumption | (simp; done)), (by (try dsimp only); exact hO), (by (try dsimp only); rw [← hq, drop_ix (by omega : i < x.t.holes.length), List.foldl_cons, ← hN])⟩, (show x.t.holes.length - (i + 1) < x.t.holes.length - i by first | omega | rfl | assumption),
         (enr [] ⟨rfl, rfl, rfl, rfl, rfl, rfl, rfl, trivial⟩ (crr rfl rfl (cro rfl (cro rfl (cbl rfl rfl (cve rfl trivial))))))⟩
    ·
     apply aw_skip
     apply aw_seq
     refine awr [(4, .call [] (.l (.fnc (.func 107) [10650, 10651])) [(10650, some (free_frK12 x i)), (10651, some (.blk 3 [.i (nearV x.worst)]))])]
      ⟨76, [0, 1, 2], [(0, .l (.ref 0 0)), (1, .i e), (5, .l (.ref 1005 0)), (6, .i (nearV x.worst)), (29, .ls 1), (30, .i (x.t.holes.length : Int)), (31, .i (i : Int)), (65, .l (.fnc (.func 107) [10650, 10651]))], (free_frH13 x s i)⟩
      [CallOK Try.prog 93 [.i ((ix x.t.holes i).angle), .i (nearV x.worst)] [] [] (.l (.fnc (.func 107) [10650, 10651])) [(10650, some (free_frK12 x i)), (10651, some (.blk 3 [.i (nearV x.worst)]))]] (al1 (cfr (arc_fr ((ix x.t.holes i).angle) (nearV x.worst)) [(2, 10650), (3, 10651)] dem_nil)) ?_
     apply aw_block
     refine aw_range (gf := 107) (fN := Try.f107) (.fnc (.func 107) [10650, 10651]) [0, 1, 2, 1005, 9066, 10650, 10651] 9066 (.inl hE) rfl rfl (by kernel_rfl) rfl (by kernel_rfl) (by kernel_rfl) fun E1 l1 r1 hR1 => ?_
     refine aw_ent (T := ⟨49, [0, 1, 2, 1005, 9066, 10650, 10651], [(0, .l (.v (.func (.yield l1) #[] #[]))), (1, .l (.ref 10650 0)), (2, .l (.ref 10651 0))], [(9066, some (.mp (LpIs r1 .ready none))), (0, some (free_frK1 x)), (1, some (free_frK2 x)), (2, some (free_frK3 x)), (1005, some (.blk 52 [.ls 2001])), (2001, some (.vec 23 2 s.length (Lst eG s))), (10650, some (free_frK12 x i)), (10651, some (.blk 3 [.i (nearV x.worst)]))]⟩) (Ent.refl _) ?_
     apply aw_seq
     refine awd []
      ⟨49, [0, 1, 2, 1005, 9066, 10650, 10651], [(0, .l (.v (.func (.yield l1) #[] #[]))), (4, .i (((ix x.t.holes i).angle) - (nearV x.worst))), (5, .i (((ix x.t.holes i).angle) + (nearV x.worst)))], [(0, some (free_frK1 x)), (1, some (free_frK2 x)), (2, some (free_frK3 x)), (1005, some (.blk 52 [.ls 2001])), (2001, some (.vec 23 2 s.length (Lst eG s))), (9066, some (.mp (LpIs r1 .ready none))), (10650, some (free_frK12 x i)), (10651, some (.blk 3 [.i (nearV x.worst)]))]⟩
      [-9223372036854775808 ≤ (((ix x.t.holes i).angle) - (nearV x.worst)) ∧ (((ix x.t.holes i).angle) - (nearV x.worst)) < 9223372036854775808, -9223372036854775808 ≤ (((ix x.t.holes i).angle) + (nearV x.worst)) ∧ (((ix x.t.holes i).angle) + (nearV x.worst)) < 9223372036854775808] (al2 (by omega) (al1 (by omega))) ?_
     apply aw_seq
     apply aw_seq
     refine awr []
      ⟨49, [0, 1, 2, 1005, 9066, 10650, 10651], [(0, .l (.v (.func (.yield l1) #[] #[]))), (4, .i (((ix x.t.holes i).angle) - (nearV x.worst))), (5, .i (((ix x.t.holes i).angle) + (nearV x.worst))), (18, .b (decide (3599 ≤ ((((ix x.t.holes i).angle) + (nearV x.worst)) - (((ix x.t.holes i).angle) - (nearV x.worst))))))], [(0, some (free_frK1 x)), (1, some (free_frK2 x)), (2, some (free_frK3 x)), (1005, some (.blk 52 [.ls 2001])), (2001, some (.vec 23 2 s.length (Lst eG s))), (9066, some (.mp (LpIs r1 .ready none))), (10650, some (free_frK12 x i)), (10651, some (.blk 3 [.i (nearV x.worst)]))]⟩
      [-9223372036854775808 ≤ ((((ix x.t.holes i).angle) + (nearV x.worst)) - (((ix x.t.holes i).angle) - (nearV x.worst))) ∧ ((((ix x.t.holes i).angle) + (nearV x.worst)) - (((ix x.t.holes i).angle) - (nearV x.worst))) < 9223372036854775808] (al1 (by omega)) ?_
     refine aw_cond (b := decide (3599 ≤ ((((ix x.t.holes i).angle) + (nearV x.worst)) - (((ix x.t.holes i).angle) - (nearV x.worst))))) rfl (fun h5 => ?_) (fun h5 => ?_)
     ·
      have h5p : 3599 ≤ ((((ix x.t.holes i).angle) + (nearV x.worst)) - (((ix x.t.holes i).angle) - (nearV x.worst))) := dtr h5
      apply aw_seq
      refine aw_yield hR1 2 []
       ⟨49, [0, 1, 2, 1005, 9066, 10650, 10651], [(19, .l (.v (.func (.yield l1) #[] #[]))), (20, .agg [.i 0, .i 3599])], [(0, some (free_frK1 x)), (1, some (free_frK2 x)), (2, some (free_frK3 x)), (1005, some (.blk 52 [.ls 2001])), (2001, some (.vec 23 2 s.length (Lst eG s))), (9066, some (.mp (LpIs r1 .ready none))), (10650, some (free_frK12 x i)), (10651, some (.blk 3 [.i (nearV x.worst)]))]⟩
       [] [.agg [.i 0, .i 3599]] (some 21) [0, 1, 2, 1005, 9066, 10650, 10651] (by kernel_rfl) trivial (by kernel_rfl) rfl (by kernel_rfl) fun F1 hE1 hL1 => ?_
      refine aw_ent (T := ⟨76, [0, 1, 2, 1005, 9066, 10650, 10651], [(66, .agg [.i 0, .i 3599]), (0, .l (.ref 0 0)), (1, .i e), (5, .l (.ref 1005 0)), (6, .i (nearV x.worst)), (29, .ls 1), (30, .i (x.t.holes.length : Int)), (31, .i (i : Int)), (65, .l (.fnc (.func 107) [10650, 10651]))], [(0, some (free_frK1 x)), (1, some (free_frK2 x)), (2, some (free_frK3 x)), (1005, some (.blk 52 [.ls 2001])), (2001, some (.vec 23 2 s.length (Lst eG s))), (9066, some (.mp (LpIs r1 .ready none))), (10650, some (free_frK12 x i)), (10651, some (.blk 3 [.i (nearV x.worst)]))]⟩) (Ent.refl _) ?_
      refine awr [(0, .new 1009)]
       ⟨76, [0, 1, 2, 1005, 9066, 10650, 10651], [(5, .l (.ref 1005 0)), (9, .l (.ref 1009 0))], [(0, some (free_frK1 x)), (1, some (free_frK2 x)), (2, some (free_frK3 x)), (1005, some (.blk 52 [.ls 2001])), (1009, some (.blk 23 [.i 0, .i 3599])), (2001, some (.vec 23 2 s.length (Lst eG s))), (9066, some (.mp (LpIs r1 .ready none))), (10650, some (free_frK12 x i)), (10651, some (.blk 3 [.i (nearV x.worst)]))]⟩
       [] trivial ?_
      refine ⟨rfl, rfl, ?_⟩
      refine aw_ent (T := ⟨76, [0, 1, 2, 1005, 9066, 10650, 10651], [(5, .l (.ref 1005 0)), (9, .l (.ref 1009 0))], [(0, some (free_frK1 x)), (1, some (free_frK2 x)), (2, some (free_frK3 x)), (1005, some (.blk 52 [.ls 2001])), (1009, some (.blk 23 [.i 0, .i 3599])), (2001, some (.vec 23 2 s.length (Lst eG s))), (9066, some (.mp (LpIs r1 .busy none))), (10650, some (free_frK12 x i)), (10651, some (.blk 3 [.i (nearV x.worst)]))]⟩)
       (enr [] ⟨rfl, rfl, trivial⟩ (crr rfl rfl (cro rfl (cro rfl (cbl rfl rfl (cbl rfl rfl (cve rfl (cmp_ rfl (fun _ h => h) (cbl rfl rfl (cbl rfl rfl trivial)))))))))) ?_
      apply aw_block
      refine awr [(2, .new 1070), (3, .call [2001, 1070] (.tup [.one (.ls 10710), .one (.i 0)]) [(10710, some (free_frK14 s))])]
       ⟨76, [0, 1, 2, 1005, 9066, 10650, 10651], [], [(0, some (free_frK1 x)), (1, some (free_frK2 x)), (2, some (free_frK3 x)), (1005, some (.blk 52 [.ls 10710])), (9066, some (.mp (LpIs r1 .busy none))), (10650, some (free_frK12 x i)), (10651, some (.blk 3 [.i (nearV x.worst)])), (10710, some (free_frK14 s))]⟩
       [CallOK Try.prog 94 [.ls 2001, .ls 1070] [2001, 1070] [some (.vec 23 2 s.length (Lst eG s)), some free_frK5] (.tup [.one (.ls 10710), .one (.i 0)]) [(10710, some (free_frK14 s))]] (al1 (cfr (Without_ok s ([(⟨0, 3599⟩ : Rg)]) (by first | assumption | exact FreeOk.set (by assumption) (by omega)) (by first | assumption | (refine one_set ?_; (try dsimp only); omega)) (by first | assumption | exact setn_of (by assumption) (by (try dsimp only); omega) (by omega))) [(0, 2001), (1, 1070), (5, 10710)] (dem_cons rfl (le_vec_ro rfl el_rfl) (dem_cons rfl (le_vec_ro (by first | omega | rfl | assumption) (fun | 0, _ => (fun | 0, _ => rfl | 1, _ => rfl | (_n + 2), h => absurd h (by omega)) | (_n + 1), h => absurd h (by omega))) dem_nil)))) ?_
      refine ⟨rfl, rfl, ?_⟩
      refine cont_mk []
       ⟨49, [0, 1, 2, 1005, 9066, 10650, 10651], [], [(0, some (free_frK1 x)), (1, some (free_frK2 x)), (2, some (free_frK3 x)), (1005, some (.blk 52 [.ls 10710])), (9066, some (.mp (LpIs r1 .ready none))), (10650, some (free_frK12 x i)), (10651, some (.blk 3 [.i (nearV x.worst)])), (10710, some (free_frK14 s))]⟩
       [] (by kernel_rfl) trivial ?_
      refine aw_ret (ret_then ⟨.inr rfl, rfl, (by kernel_rfl), .inl ⟨rfl, ?_⟩⟩)
      refine awr [(0, .num (((i + 1) : Nat) : Int))]
       ⟨76, [0, 1, 2], [(0, .l (.ref 0 0)), (1, .i e), (5, .l (.ref 1005 0)), (6, .i (nearV x.worst)), (29, .ls 1), (30, .i (x.t.holes.length : Int)), (31, .i (((i + 1) : Nat) : Int))], (free_frH15 x s)⟩
       [((i : Int) + 1) = (((i + 1) : Nat) : Int), -9223372036854775808 ≤ (((i + 1) : Nat) : Int) ∧ (((i + 1) : Nat) : Int) < 9223372036854775808] (al2 (by omega) (al1 (by omega))) ?_
      have hO : FreeOk (withoutV s ([(⟨0, 3599⟩ : Rg)])) (1 + 3 * (i + 1)) := by first | exact hok.mono (by omega) | exact (off_ok hok (by decide)).mono (by omega) | exact hu.mono (by omega)
      have hN : (withoutV s ([(⟨0, 3599⟩ : Rg)])) = freeS x e (nearV x.worst) s (ix x.t.holes i) := by first | exact (free_no1 (by assumption)).symm | exact (free_no2 (by assumption)).symm | exact (free_no3 (by assumption)).symm | exact (free_all (by assumption) (by assumption) (by assumption) (by omega)).symm | (rw [free_arc2 (by assumption) (by assumption) (by assumption), ← hv, arcs_end (by omega)]; rfl)
      exact ⟨((i + 1), (withoutV s ([(⟨0, 3599⟩ : Rg)]))), ⟨(by (try dsimp only); first | omega | rfl | assumption | (simp; done)), (by (try dsimp only); exact hO), (by (try dsimp only); rw [← hq, drop_ix (by omega : i < x.t.holes.length), List.foldl_cons, ← hN])⟩, (show x.t.holes.length - (i + 1) < x.t.holes.length - i by first | omega | rfl | assumption),
          (enr [(2001, 10710)] ⟨rfl, rfl, rfl, rfl, rfl, rfl, rfl, trivial⟩ (crr rfl rfl (cro rfl (cro rfl (cbl rfl rfl (cve rfl trivial))))))⟩
     ·
      have h5p : ((((ix x.t.holes i).angle) + (nearV x.worst)) - (((ix x.t.holes i).angle) - (nearV x.worst))) < 3599 := dle h5
      apply aw_skip
      apply aw_seq
      refine awr [(0, .new 1022)]
       ⟨49, [0, 1, 2, 1005, 9066, 10650, 10651], [(0, .l (.v (.func (.yield l1) #[] #[]))), (4, .i (((ix x.t.holes i).angle) - (nearV x.worst))), (5, .i (((ix x.t.holes i).angle) + (nearV x.worst))), (22, .ls 1022), (23, .i 3), (24, .i 0)], [(0, some (free_frK1 x)), (1, some (free_frK2 x)), (2, some (free_frK3 x)), (1005, some (.blk 52 [.ls 2001])), (1022, some free_frK16), (2001, some (.vec 23 2 s.length (Lst eG s))), (9066, some (.mp (LpIs r1 .ready none))), (10650, some (free_frK12 x i)), (10651, some (.blk 3 [.i (nearV x.worst)]))]⟩
       [] trivial ?_
      apply aw_block
      refine aw_loop (ι := Nat × List Rg) (fun zz => ⟨49, [0, 1, 2, 1005, 9066, 10650, 10651], [(0, .l (.v (.func (.yield l1) #[] #[]))), (4, .i (((ix x.t.holes i).angle) - (nearV x.worst))), (5, .i (((ix x.t.holes i).angle) + (nearV x.worst))), (22, .ls 1022), (23, .i 3), (24, .i (zz.1 : Int))], [(0, some (free_frK1 x)), (1, some (free_frK2 x)), (2, some (free_frK3 x)), (1005, some (.blk 52 [.ls 2002])), (1022, some free_frK17), (2002, some (.vec 23 2 zz.2.length (Lst eG zz.2))), (9066, some (.mp (LpIs r1 .ready none))), (10650, some (free_frK12 x i)), (10651, some (.blk 3 [.i (nearV x.worst)]))]⟩) (fun zz => (zz.1 ≤ 3) ∧ (FreeOk zz.2 (1 + 3 * i + zz.1)) ∧ ((arcsFrom ((ix x.t.holes i).angle - nearV x.worst) ((ix x.t.holes i).angle + nearV x.worst) zz.1).foldl offR zz.2 = (arcV (ix x.t.holes i).angle (nearV x.worst)).foldl offR s)) (fun zz => 3 - zz.1) (0, s) ⟨(by (try dsimp only); first | omega | rfl | assumption | (simp; done)), (by (try dsimp only); exact hok.mono (by omega)), (by (try dsimp only); rw [arc_from (by omega)])⟩
          (enr [(2002, 2001)] ⟨rfl, rfl, rfl, rfl, rfl, rfl, trivial⟩ (crr rfl rfl (cro rfl (cro rfl (cbl rfl rfl (conts_cons rfl (le_vec rfl (fun | 0, _ => (fun | 0, _ => rfl | (_n + 1), h => absurd h (by omega)) | 1, _ => (fun | 0, _ => rfl | (_n + 1), h => absurd h (by omega)) | 2, _ => (fun | 0, _ => rfl | (_n + 1), h => absurd h (by omega)) | (_n + 3), h => absurd h (by omega))) (cve rfl (cmp_ rfl (fun _ h => h) (cbl rfl rfl (cbl rfl rfl trivial)))))))))) fun zz hp => ?_
      obtain ⟨j, u⟩ := zz
      obtain ⟨hjL, hu, hv⟩ := hp
      dsimp only at hjL hu hv
      have hby := by_bd j
      show AW _ E1 _ _ ⟨49, [0, 1, 2, 1005, 9066, 10650, 10651], [(0, .l (.v (.func (.yield l1) #[] #[]))), (4, .i (((ix x.t.holes i).angle) - (nearV x.worst))), (5, .i (((ix x.t.holes i).angle) + (nearV x.worst))), (22, .ls 1022), (23, .i 3), (24, .i (j : Int))], [(0, some (free_frK1 x)), (1, some (free_frK2 x)), (2, some (free_frK3 x)), (1005, some (.blk 52 [.ls 2002])), (1022, some free_frK17), (2002, some (.vec 23 2 u.length (Lst eG u))), (9066, some (.mp (LpIs r1 .ready none))), (10650, some (free_frK12 x i)), (10651, some (.blk 3 [.i (nearV x.worst)]))]⟩
      apply aw_seq
      refine awr []
       ⟨49, [0, 1, 2, 1005, 9066, 10650, 10651], [(0, .l (.v (.func (.yield l1) #[] #[]))), (4, .i (((ix x.t.holes i).angle) - (nearV x.worst))), (5, .i (((ix x.t.holes i).angle) + (nearV x.worst))), (22, .ls 1022), (23, .i 3), (24, .i (j : Int)), (25, .b (decide ((j : Int) < 3)))], [(0, some (free_frK1 x)), (1, some (free_frK2 x)), (2, some (free_frK3 x)), (1005, some (.blk 52 [.ls 2002])), (1022, some free_frK17), (2002, some (.vec 23 2 u.length (Lst eG u))), (9066, some (.mp (LpIs r1 .ready none))), (10650, some (free_frK12 x i)), (10651, some (.blk 3 [.i (nearV x.worst)]))]⟩
       [] trivial ?_
      apply aw_seq
      refine aw_cond (b := decide ((j : Int) < 3)) rfl (fun h6 => ?_) (fun h6 => ?_)
      ·
       have h6p : (j : Int) < 3 := dtr h6
       apply aw_skip
       apply aw_seq
       apply aw_block
       apply aw_seq
       refine awr [(0, .idx j)]
        ⟨49, [0, 1, 2, 1005, 9066, 10650, 10651], [(0, .l (.v (.func (.yield l1) #[] #[]))), (4, .i (((ix x.t.holes i).angle) - (nearV x.worst))), (5, .i (((ix x.t.holes i).angle) + (nearV x.worst))), (7, .i (ix ([(-3600), 0, 3600]) j)), (22, .ls 1022), (23, .i 3), (24, .i (j : Int))], [(0, some (free_frK1 x)), (1, some (free_frK2 x)), (2, some (free_frK3 x)), (1005, some (.blk 52 [.ls 2002])), (1022, some free_frK17), (2002, some (.vec 23 2 u.length (Lst eG u))), (9066, some (.mp (LpIs r1 .ready none))), (10650, some (free_frK12 x i)), (10651, some (.blk 3 [.i (nearV x.worst)]))]⟩
        [(j : Int) = (j : Int), j < 3, j < 3] (al2 (by omega) (al2 (by omega) (al1 (by omega)))) ?_
       apply aw_seq
       refine awr [(9, .new 1008)]
        ⟨49, [0, 1, 2, 1005, 9066, 10650, 10651], [(0, .l (.v (.func (.yield l1) #[] #[]))), (4, .i (((ix x.t.holes i).angle) - (nearV x.worst))), (5, .i (((ix x.t.holes i).angle) + (nearV x.worst))), (8, .l (.ref 1008 0)), (22, .ls 1022), (23, .i 3), (24, .i (j : Int))], [(0, some (free_frK1 x)), (1, some (free_frK2 x)), (2, some (free_frK3 x)), (1005, some (.blk 52 [.ls 2002])), (1008, some (free_frK18 x i j)), (1022, some free_frK17), (2002, some (.vec 23 2 u.length (Lst eG u))), (9066, some (.mp (LpIs r1 .ready none))), (10650, some (free_frK12 x i)), (10651, some (.blk 3 [.i (nearV x.worst)]))]⟩
        [-9223372036854775808 ≤ ((((ix x.t.holes i).angle) - (nearV x.worst)) + (ix ([(-3600), 0, 3600]) j)) ∧ ((((ix x.t.holes i).angle) - (nearV x.worst)) + (ix ([(-3600), 0, 3600]) j)) < 9223372036854775808, -9223372036854775808 ≤ ((((ix x.t.holes i).angle) + (nearV x.worst)) + (ix ([(-3600), 0, 3600]) j)) ∧ ((((ix x.t.holes i).angle) + (nearV x.worst)) + (ix ([(-3600), 0, 3600]) j)) < 9223372036854775808] (al2 (by omega) (al1 (by omega))) ?_
       apply aw_seq
       rcases Bool.eq_false_or_eq_true (decide ((max 0 ((((ix x.t.holes i).angle) - (nearV x.worst)) + (ix ([(-3600), 0, 3600]) j))) ≤ (min 3599 ((((ix x.t.holes i).angle) + (nearV x.worst)) + (ix ([(-3600), 0, 3600]) j))))) with h7 | h7
       ·
        have h7p : (max 0 ((((ix x.t.holes i).angle) - (nearV x.worst)) + (ix ([(-3600), 0, 3600]) j))) ≤ (min 3599 ((((ix x.t.holes i).angle) + (nearV x.worst)) + (ix ([(-3600), 0, 3600]) j))) := dtr h7
        refine aw_yield hR1 8 [(5, .dec true)]
         ⟨49, [0, 1, 2, 1005, 9066, 10650, 10651], [(0, .l (.v (.func (.yield l1) #[] #[]))), (4, .i (((ix x.t.holes i).angle) - (nearV x.worst))), (5, .i (((ix x.t.holes i).angle) + (nearV x.worst))), (22, .ls 1022), (23, .i 3), (24, .i (j : Int)), (42, .b true), (43, .l (.v (.func (.yield l1) #[] #[]))), (44, (free_frA19 x i j))], [(0, some (free_frK1 x)), (1, some (free_frK2 x)), (2, some (free_frK3 x)), (1005, some (.blk 52 [.ls 2002])), (1022, some free_frK17), (2002, some (.vec 23 2 u.length (Lst eG u))), (9066, some (.mp (LpIs r1 .ready none))), (10650, some (free_frK12 x i)), (10651, some (.blk 3 [.i (nearV x.worst)]))]⟩
         [decide ((max 0 ((((ix x.t.holes i).angle) - (nearV x.worst)) + (ix ([(-3600), 0, 3600]) j))) ≤ (min 3599 ((((ix x.t.holes i).angle) + (nearV x.worst)) + (ix ([(-3600), 0, 3600]) j)))) = true] [(free_frA19 x i j)] (some 45) [0, 1, 2, 1005, 1022, 9066, 10650, 10651] (by kernel_rfl) (al1 h7) (by kernel_rfl) rfl (by kernel_rfl) fun F2 hE2 hL2 => ?_
        refine aw_ent (T := ⟨76, [0, 1, 2, 1005, 1022, 9066, 10650, 10651], [(66, (free_frA19 x i j)), (0, .l (.ref 0 0)), (1, .i e), (5, .l (.ref 1005 0)), (6, .i (nearV x.worst)), (29, .ls 1), (30, .i (x.t.holes.length : Int)), (31, .i (i : Int)), (65, .l (.fnc (.func 107) [10650, 10651]))], [(0, some (free_frK1 x)), (1, some (free_frK2 x)), (2, some (free_frK3 x)), (1005, some (.blk 52 [.ls 2002])), (1022, some free_frK17), (2002, some (.vec 23 2 u.length (Lst eG u))), (9066, some (.mp (LpIs r1 .ready none))), (10650, some (free_frK12 x i)), (10651, some (.blk 3 [.i (nearV x.worst)]))]⟩) (Ent.refl _) ?_
        refine awr [(0, .new 1009)]
         ⟨76, [0, 1, 2, 1005, 1022, 9066, 10650, 10651], [(5, .l (.ref 1005 0)), (9, .l (.ref 1009 0))], [(0, some (free_frK1 x)), (1, some (free_frK2 x)), (2, some (free_frK3 x)), (1005, some (.blk 52 [.ls 2002])), (1009, some (free_frK18 x i j)), (1022, some free_frK17), (2002, some (.vec 23 2 u.length (Lst eG u))), (9066, some (.mp (LpIs r1 .ready none))), (10650, some (free_frK12 x i)), (10651, some (.blk 3 [.i (nearV x.worst)]))]⟩
         [] trivial ?_
        refine ⟨rfl, rfl, ?_⟩
        refine aw_ent (T := ⟨76, [0, 1, 2, 1005, 1022, 9066, 10650, 10651], [(5, .l (.ref 1005 0)), (9, .l (.ref 1009 0))], [(0, some (free_frK1 x)), (1, some (free_frK2 x)), (2, some (free_frK3 x)), (1005, some (.blk 52 [.ls 2002])), (1009, some (free_frK18 x i j)), (1022, some free_frK17), (2002, some (.vec 23 2 u.length (Lst eG u))), (9066, some (.mp (LpIs r1 .busy none))), (10650, some (free_frK12 x i)), (10651, some (.blk 3 [.i (nearV x.worst)]))]⟩)
         (enr [] ⟨rfl, rfl, trivial⟩ (crr rfl rfl (cro rfl (cro rfl (cbl rfl rfl (cbl rfl rfl (cve rfl (cve rfl (cmp_ rfl (fun _ h => h) (cbl rfl rfl (cbl rfl rfl trivial))))))))))) ?_
        apply aw_block
        refine awr [(2, .new 1070), (3, .call [2002, 1070] (.tup [.one (.ls 10710), .one (.i 0)]) [(10710, some (free_frK20 u x i j))])]
         ⟨76, [0, 1, 2, 1005, 1022, 9066, 10650, 10651], [], [(0, some (free_frK1 x)), (1, some (free_frK2 x)), (2, some (free_frK3 x)), (1005, some (.blk 52 [.ls 10710])), (1022, some free_frK17), (9066, some (.mp (LpIs r1 .busy none))), (10650, some (free_frK12 x i)), (10651, some (.blk 3 [.i (nearV x.worst)])), (10710, some (free_frK20 u x i j))]⟩
         [CallOK Try.prog 94 [.ls 2002, .ls 1070] [2002, 1070] [some (.vec 23 2 u.length (Lst eG u)), some (free_frK21 x i j)] (.tup [.one (.ls 10710), .one (.i 0)]) [(10710, some (free_frK20 u x i j))]] (al1 (cfr (Without_ok u ([(⟨(max 0 ((((ix x.t.holes i).angle) - (nearV x.worst)) + (ix ([(-3600), 0, 3600]) j))), (min 3599 ((((ix x.t.holes i).angle) + (nearV x.worst)) + (ix ([(-3600), 0, 3600]) j)))⟩ : Rg)]) (by first | assumption | exact FreeOk.set (by assumption) (by omega)) (by first | assumption | (refine one_set ?_; (try dsimp only); omega)) (by first | assumption | exact setn_of (by assumption) (by (try dsimp only); omega) (by omega))) [(0, 2002), (1, 1070), (5, 10710)] (dem_cons rfl (le_vec_ro rfl el_rfl) (dem_cons rfl (le_vec_ro (by first | omega | rfl | assumption) (fun | 0, _ => (fun | 0, _ => rfl | 1, _ => rfl | (_n + 2), h => absurd h (by omega)) | (_n + 1), h => absurd h (by omega))) dem_nil)))) ?_
        refine ⟨rfl, rfl, ?_⟩
        refine cont_mk []
         ⟨49, [0, 1, 2, 1005, 9066, 10650, 10651], [(0, .l (.v (.func (.yield l1) #[] #[]))), (4, .i (((ix x.t.holes i).angle) - (nearV x.worst))), (5, .i (((ix x.t.holes i).angle) + (nearV x.worst))), (22, .ls 1022), (23, .i 3), (24, .i (j : Int)), (47, .b false)], [(0, some (free_frK1 x)), (1, some (free_frK2 x)), (2, some (free_frK3 x)), (1005, some (.blk 52 [.ls 10710])), (1022, some free_frK17), (9066, some (.mp (LpIs r1 .ready none))), (10650, some (free_frK12 x i)), (10651, some (.blk 3 [.i (nearV x.worst)])), (10710, some (free_frK20 u x i j))]⟩
         [] (by kernel_rfl) trivial ?_
        refine aw_false rfl ?_
        apply aw_skip
        refine awr [(0, .num (((j + 1) : Nat) : Int))]
         ⟨49, [0, 1, 2, 1005, 9066, 10650, 10651], [(0, .l (.v (.func (.yield l1) #[] #[]))), (4, .i (((ix x.t.holes i).angle) - (nearV x.worst))), (5, .i (((ix x.t.holes i).angle) + (nearV x.worst))), (22, .ls 1022), (23, .i 3), (24, .i (((j + 1) : Nat) : Int))], [(0, some (free_frK1 x)), (1, some (free_frK2 x)), (2, some (free_frK3 x)), (1005, some (.blk 52 [.ls 10710])), (1022, some free_frK17), (9066, some (.mp (LpIs r1 .ready none))), (10650, some (free_frK12 x i)), (10651, some (.blk 3 [.i (nearV x.worst)])), (10710, some (free_frK20 u x i j))]⟩
         [((j : Int) + 1) = (((j + 1) : Nat) : Int), -9223372036854775808 ≤ (((j + 1) : Nat) : Int) ∧ (((j + 1) : Nat) : Int) < 9223372036854775808] (al2 (by omega) (al1 (by omega))) ?_
        exact ⟨((j + 1), (withoutV u ([(⟨(max 0 ((((ix x.t.holes i).angle) - (nearV x.worst)) + (ix ([(-3600), 0, 3600]) j))), (min 3599 ((((ix x.t.holes i).angle) + (nearV x.worst)) + (ix ([(-3600), 0, 3600]) j)))⟩ : Rg)]))), ⟨(by (try dsimp only); first | omega | rfl | assumption | (simp; done)), (by (try dsimp only); first | exact off_ok hu (by (try dsimp only); omega) | exact hu.mono (by omega)), (by (try dsimp only); rw [← hv, arcs_step (by omega : j < 3), List.foldl_append]; unfold arcR; first | rw [if_pos (by omega)]; rfl | rw [if_neg (by omega)]; rfl)⟩, (show 3 - (j + 1) < 3 - j by first | omega | rfl | assumption),
            (enr [(2002, 10710)] ⟨rfl, rfl, rfl, rfl, rfl, rfl, trivial⟩ (crr rfl rfl (cro rfl (cro rfl (cbl rfl rfl (cve rfl (cve rfl (cmp_ rfl (fun _ h => h) (cbl rfl rfl (cbl rfl rfl trivial))))))))))⟩
       ·
        have h7p : (min 3599 ((((ix x.t.holes i).angle) + (nearV x.worst)) + (ix ([(-3600), 0, 3600]) j))) < (max 0 ((((ix x.t.holes i).angle) - (nearV x.worst)) + (ix ([(-3600), 0, 3600]) j))) := dle h7
        refine awr [(5, .dec false)]
         ⟨49, [0, 1, 2, 1005, 9066, 10650, 10651], [(0, .l (.v (.func (.yield l1) #[] #[]))), (4, .i (((ix x.t.holes i).angle) - (nearV x.worst))), (5, .i (((ix x.t.holes i).angle) + (nearV x.worst))), (22, .ls 1022), (23, .i 3), (24, .i (j : Int)), (47, .b false)], [(0, some (free_frK1 x)), (1, some (free_frK2 x)), (2, some (free_frK3 x)), (1005, some (.blk 52 [.ls 2002])), (1022, some free_frK17), (2002, some (.vec 23 2 u.length (Lst eG u))), (9066, some (.mp (LpIs r1 .ready none))), (10650, some (free_frK12 x i)), (10651, some (.blk 3 [.i (nearV x.worst)]))]⟩
         [decide ((max 0 ((((ix x.t.holes i).angle) - (nearV x.worst)) + (ix ([(-3600), 0, 3600]) j))) ≤ (min 3599 ((((ix x.t.holes i).angle) + (nearV x.worst)) + (ix ([(-3600), 0, 3600]) j)))) = false] (al1 h7) ?_
        refine aw_false rfl ?_
        apply aw_skip
        refine awr [(0, .num (((j + 1) : Nat) : Int))]
         ⟨49, [0, 1, 2, 1005, 9066, 10650, 10651], [(0, .l (.v (.func (.yield l1) #[] #[]))), (4, .i (((ix x.t.holes i).angle) - (nearV x.worst))), (5, .i (((ix x.t.holes i).angle) + (nearV x.worst))), (22, .ls 1022), (23, .i 3), (24, .i (((j + 1) : Nat) : Int))], [(0, some (free_frK1 x)), (1, some (free_frK2 x)), (2, some (free_frK3 x)), (1005, some (.blk 52 [.ls 2002])), (1022, some free_frK17), (2002, some (.vec 23 2 u.length (Lst eG u))), (9066, some (.mp (LpIs r1 .ready none))), (10650, some (free_frK12 x i)), (10651, some (.blk 3 [.i (nearV x.worst)]))]⟩
         [((j : Int) + 1) = (((j + 1) : Nat) : Int), -9223372036854775808 ≤ (((j + 1) : Nat) : Int) ∧ (((j + 1) : Nat) : Int) < 9223372036854775808] (al2 (by omega) (al1 (by omega))) ?_
        exact ⟨((j + 1), u), ⟨(by (try dsimp only); first | omega | rfl | assumption | (simp; done)), (by (try dsimp only); first | exact off_ok hu (by (try dsimp only); omega) | exact hu.mono (by omega)), (by (try dsimp only); rw [← hv, arcs_step (by omega : j < 3), List.foldl_append]; unfold arcR; first | rw [if_pos (by omega)]; rfl | rw [if_neg (by omega)]; rfl)⟩, (show 3 - (j + 1) < 3 - j by first | omega | rfl | assumption),
            (enr [] ⟨rfl, rfl, rfl, rfl, rfl, rfl, trivial⟩ (crr rfl rfl (cro rfl (cro rfl (cbl rfl rfl (cve rfl (cve rfl (cmp_ rfl (fun _ h => h) (cbl rfl rfl (cbl rfl rfl trivial))))))))))⟩
      ·
       have h6p : 3 ≤ (j : Int) := dlt h6
       refine aw_exit (exit_then (exit_then (exit_in ?_)))
       refine  ⟨.inl rfl, rfl, (by kernel_rfl), .inl ⟨rfl, ?_⟩⟩
       refine awr [(0, .num (((i + 1) : Nat) : Int))]
        ⟨76, [0, 1, 2], [(0, .l (.ref 0 0)), (1, .i e), (5, .l (.ref 1005 0)), (6, .i (nearV x.worst)), (29, .ls 1), (30, .i (x.t.holes.length : Int)), (31, .i (((i + 1) : Nat) : Int))], (free_frH22 x u)⟩
        [((i : Int) + 1) = (((i + 1) : Nat) : Int), -9223372036854775808 ≤ (((i + 1) : Nat) : Int) ∧ (((i + 1) : Nat) : Int) < 9223372036854775808] (al2 (by omega) (al1 (by omega))) ?_
       have hO : FreeOk u (1 + 3 * (i + 1)) := by first | exact hok.mono (by omega) | exact (off_ok hok (by decide)).mono (by omega) | exact hu.mono (by omega)
       have hN : u = freeS x e (nearV x.worst) s (ix x.t.holes i) := by first | exact (free_no1 (by assumption)).symm | exact (free_no2 (by assumption)).symm | exact (free_no3 (by assumption)).symm | exact (free_all (by assumption) (by assumption) (by assumption) (by omega)).symm | (rw [free_arc2 (by assumption) (by assumption) (by assumption), ← hv, arcs_end (by omega)]; rfl)
       exact ⟨((i + 1), u), ⟨(by (try dsimp only); first | omega | rfl | assumption | (simp; done)), (by (try dsimp only); exact hO), (by (try dsimp only); rw [← hq, drop_ix (by omega : i < x.t.holes.length), List.foldl_cons, ← hN])⟩, (show x.t.holes.length - (i + 1) < x.t.holes.length - i by first | omega | rfl | assumption),
           (enr [(2001, 2002)] ⟨rfl, rfl, rfl, rfl, rfl, rfl, rfl, trivial⟩ (crr rfl rfl (cro rfl (cro rfl (cbl rfl rfl (cve rfl trivial))))))⟩
 ·
  have h1p : (x.t.holes.length : Int) ≤ (i : Int) := dlt h1
  refine aw_exit (exit_then (exit_then (exit_in ?_)))
  apply aw_seq
  have hz : s = freeV x e := by
   rw [List.drop_eq_nil_of_le (by omega)] at hq
   exact hq
  refine awr []
   ⟨76, [0, 1, 2], [(4, .ls 2001)], [(2001, some (.vec 23 2 s.length (Lst eG s)))]⟩
   [] trivial ?_
  exact aw_ret ⟨.inr rfl, eok ⟨76, [0, 1, 2], [(4, .ls 4)], [(4, some (free_frK23 x e))]⟩
      (enr [(4, 2001)] ⟨rfl, trivial⟩ (conts_cons rfl (le_vec (by first | rfl | omega | assumption | (rw [hz])) (lst_eq (by first | rfl | omega | assumption | (rw [hz])))) trivial)) (wr_cons rfl (plain_Lst plain_eG) wr_nil)⟩
end Go.Proofs.Ytbpblhmigijkaaa
