/- Do taps keep the rules; drilling. -/
import Derived.Test.YtbpblhmigijkaaaTp2
namespace Go.Proofs.Ytbpblhmigijkaaa
open Go.RowKit
set_option linter.unusedVariables false
set_option linter.unusedSimpArgs false
def keeps1_frH1 (s : Spt) (g : Int) : List (Nat × Option Cn) := [(1, some (.rblk [.i s.angle, .i s.height])), (2, some (.rblk [.i g]))]
def keeps1_frK2 (o : Spt) : Cn := .blk 72 [.i o.angle, .i o.height]
def keeps1_frH3 (s : Spt) (g : Int) (o : Spt) : List (Nat × Option Cn) := [(1, some (.rblk [.i s.angle, .i s.height])), (2, some (.rblk [.i g])), (1003, some (keeps1_frK2 o))]
set_option maxRecDepth 100000 in
theorem keeps1_fr (s o : Spt) (g : Int) (hs : 0 ≤ s.angle ∧ s.angle ≤ 3599) (ho : 0 ≤ o.angle ∧ o.angle ≤ 3599) : CallFr Try.prog 100 [.agg [.i o.angle, .i o.height], .l (.ref 1 0), .l (.ref 2 0)] [1, 2] [some (.rblk [.i s.angle, .i s.height]), some (.rblk [.i g])] (.b (nearB s g o)) [] := by
 refine callFr_of (fn := Try.f100) (by kernel_rfl) rfl (by kernel_rfl) (by kernel_rfl) fun E => ?_
 refine aw_ent (T := ⟨12, [1, 2], [(0, .agg [.i o.angle, .i o.height]), (1, .l (.ref 1 0)), (2, .l (.ref 2 0))], (keeps1_frH1 s g)⟩) (Ent.refl _) ?_
 apply aw_seq
 refine awr [(0, .new 1003)]
  ⟨12, [1, 2], [(1, .l (.ref 1 0)), (2, .l (.ref 2 0)), (3, .l (.ref 1003 0))], (keeps1_frH3 s g o)⟩
  [] trivial ?_
 apply aw_seq
 refine awd [(4, .call [] (.i (turnV o.angle s.angle)) [])]
  ⟨12, [1, 2], [(4, .b (decide ((turnV o.angle s.angle) < g)))], []⟩
  [CallOK Try.prog 101 [.i o.angle, .i s.angle] [] [] (.i (turnV o.angle s.angle)) []] (al1 (cfr (turn_fr o.angle s.angle (by omega) (by omega)) [] dem_nil)) ?_
 exact aw_ret ⟨.inr rfl, eok ⟨12, [1, 2], [(4, .b (nearB s g o))], []⟩
     (enr [] ⟨(slot_b (a := decide ((turnV o.angle s.angle) < g)) rfl (by first | rfl | omega | assumption)), trivial⟩ trivial) wr_nil⟩
def near_ixH1 (l : List Spt) (s : Spt) (g : Int) : List (Nat × Option Cn) := [(0, some (.ro 2 l.length (Lst eS l))), (1, some (.rblk [.i s.angle, .i s.height])), (2, some (.rblk [.i g]))]
set_option maxRecDepth 100000 in
theorem near_ix (s : Spt) (g : Int) (hs : 0 ≤ s.angle ∧ s.angle ≤ 3599) (l : List Spt) (hl : l.length ≤ 1000000) (hb : ∀ q, q ∈ l → 0 ≤ q.angle ∧ q.angle ≤ 3599) : CallFr Try.prog 106 [.ls 0, .l (.fnc (.func 100) [1, 2])] [0, 1, 2] [some (.ro 2 l.length (Lst eS l)), some (.rblk [.i s.angle, .i s.height]), some (.rblk [.i g])] (.i (findI (nearB s g) l)) [] := by
 refine callFr_of (fn := Try.f106) (by kernel_rfl) rfl (by kernel_rfl) (by kernel_rfl) fun E => ?_
 refine aw_ent (T := ⟨19, [0, 1, 2], [(0, .ls 0), (1, .l (.fnc (.func 100) [1, 2]))], (near_ixH1 l s g)⟩) (Ent.refl _) ?_
 apply aw_seq
 refine awr []
  ⟨19, [0, 1, 2], [(0, .ls 0), (1, .l (.fnc (.func 100) [1, 2]))], (near_ixH1 l s g)⟩
  [] trivial ?_
 apply aw_seq
 apply aw_seq
 refine awr []
  ⟨19, [0, 1, 2], [(0, .ls 0), (1, .l (.fnc (.func 100) [1, 2])), (7, .i (l.length : Int)), (8, .i 0)], (near_ixH1 l s g)⟩
  [] trivial ?_
 apply aw_block
 refine aw_loop (ι := Nat) (fun zz => ⟨19, [0, 1, 2], [(0, .ls 0), (1, .l (.fnc (.func 100) [1, 2])), (7, .i (l.length : Int)), (8, .i (zz : Int))], (near_ixH1 l s g)⟩) (fun zz => (zz ≤ l.length) ∧ (∀ j, j < zz → (nearB s g) (ix l j) = false)) (fun zz => l.length - zz) 0 ⟨(by first | omega | rfl | assumption | (simp; done)), (by intro j hj; omega)⟩
     (enr [] ⟨rfl, rfl, rfl, rfl, trivial⟩ (cro rfl (crr rfl rfl (crr rfl rfl trivial)))) fun zz hp => ?_
 obtain ⟨i, rfl⟩ : ∃ x, x = zz := ⟨_, rfl⟩
 obtain ⟨hiL, hp⟩ := hp
 show AW _ E _ _ ⟨19, [0, 1, 2], [(0, .ls 0), (1, .l (.fnc (.func 100) [1, 2])), (7, .i (l.length : Int)), (8, .i (i : Int))], (near_ixH1 l s g)⟩
 apply aw_seq
 refine awr []
  ⟨19, [0, 1, 2], [(0, .ls 0), (1, .l (.fnc (.func 100) [1, 2])), (7, .i (l.length : Int)), (8, .i (i : Int)), (9, .b (decide ((i : Int) < (l.length : Int))))], (near_ixH1 l s g)⟩
  [] trivial ?_
 apply aw_seq
 refine aw_cond (b := decide ((i : Int) < (l.length : Int))) rfl (fun h1 => ?_) (fun h1 => ?_)
 ·
  have h1p : (i : Int) < (l.length : Int) := dtr h1
  apply aw_skip
  apply aw_seq
  apply aw_block
  apply aw_seq
  refine awr []
   ⟨19, [0, 1, 2], [(0, .ls 0), (1, .l (.fnc (.func 100) [1, 2])), (5, .i (i : Int)), (7, .i (l.length : Int)), (8, .i (i : Int))], (near_ixH1 l s g)⟩
   [] trivial ?_
  apply aw_seq
  refine awr [(3, .idx i), (5, .act [1, 2] (.b (nearB s g (ix l i))) [])]
   ⟨19, [0, 1, 2], [(0, .ls 0), (1, .l (.fnc (.func 100) [1, 2])), (5, .i (i : Int)), (7, .i (l.length : Int)), (8, .i (i : Int)), (16, .b (nearB s g (ix l i)))], (near_ixH1 l s g)⟩
   [(i : Int) = (i : Int), i < l.length, i < l.length, ActOK Try.prog (.call ⟨.value (.tmp 11), #[(.tmp 15)], #[72]⟩) 4 [.l (.fnc (.func 100) [1, 2]), .agg [.i ((ix l i).angle), .i ((ix l i).height)]] [1, 2] [some (.rblk [.i s.angle, .i s.height]), some (.rblk [.i g])] (.b (nearB s g (ix l i))) []] (al2 (by omega) (al2 (by omega) (al2 (by omega) (al1 (act_callv (by kernel_rfl) (by kernel_rfl) (cfr (keeps1_fr s (ix l i) g (by assumption) (by first | assumption | exact hb _ (ix_mem (by omega)))) [(1, 1), (2, 2)] (dem_cons rfl (le_rblk rfl) (dem_cons rfl (le_rblk rfl) dem_nil)))))))) ?_
  refine aw_cond (b := (nearB s g (ix l i))) rfl (fun h2 => ?_) (fun h2 => ?_)
  ·
   apply aw_seq
   refine awr []
    ⟨19, [0, 1, 2], [(4, .i (i : Int))], []⟩
    [] trivial ?_
   exact aw_ret (ret_block (ret_then (ret_then (ret_block (ret_then ⟨.inr rfl, eok ⟨19, [0, 1, 2], [(4, .i (findI (nearB s g) l))], []⟩
       (enr [] ⟨(slot_i rfl (by first | rfl | omega | assumption | (exact findI_at hp (by omega) (by assumption)) | (exact findI_no hp (by omega)))), trivial⟩ trivial) wr_nil⟩)))))
  ·
   apply aw_skip
   refine awr [(0, .num (((i + 1) : Nat) : Int))]
    ⟨19, [0, 1, 2], [(0, .ls 0), (1, .l (.fnc (.func 100) [1, 2])), (7, .i (l.length : Int)), (8, .i (((i + 1) : Nat) : Int))], (near_ixH1 l s g)⟩
    [((i : Int) + 1) = (((i + 1) : Nat) : Int), -9223372036854775808 ≤ (((i + 1) : Nat) : Int) ∧ (((i + 1) : Nat) : Int) < 9223372036854775808] (al2 (by omega) (al1 (by omega))) ?_
   exact ⟨(i + 1), ⟨(by first | omega | rfl | assumption | (simp; done)), (by exact all_snoc hp h2)⟩, (show l.length - (i + 1) < l.length - i by first | omega | rfl | assumption),
       (enr [] ⟨rfl, rfl, rfl, rfl, trivial⟩ (cro rfl (crr rfl rfl (crr rfl rfl trivial))))⟩
 ·
  have h1p : (l.length : Int) ≤ (i : Int) := dlt h1
  refine aw_exit (exit_then (exit_then (exit_in ?_)))
  apply aw_seq
  refine awr []
   ⟨19, [0, 1, 2], [(4, .i (-1))], []⟩
   [] trivial ?_
  exact aw_ret ⟨.inr rfl, eok ⟨19, [0, 1, 2], [(4, .i (findI (nearB s g) l))], []⟩
      (enr [] ⟨(slot_i rfl (by first | rfl | omega | assumption | (exact findI_at hp (by omega) (by assumption)) | (exact findI_no hp (by omega)))), trivial⟩ trivial) wr_nil⟩
def near_anyH1 (l : List Spt) (s : Spt) (g : Int) : List (Nat × Option Cn) := [(0, some (.ro 2 l.length (Lst eS l))), (1, some (.rblk [.i s.angle, .i s.height])), (2, some (.rblk [.i g]))]
set_option maxRecDepth 100000 in
theorem near_any (s : Spt) (g : Int) (hs : 0 ≤ s.angle ∧ s.angle ≤ 3599) (l : List Spt) (hl : l.length ≤ 1000000) (hb : ∀ q, q ∈ l → 0 ≤ q.angle ∧ q.angle ≤ 3599) : CallFr Try.prog 87 [.ls 0, .l (.fnc (.func 100) [1, 2])] [0, 1, 2] [some (.ro 2 l.length (Lst eS l)), some (.rblk [.i s.angle, .i s.height]), some (.rblk [.i g])] (.b (l.any (nearB s g))) [] := by
 refine callFr_of (fn := Try.f87) (by kernel_rfl) rfl (by kernel_rfl) (by kernel_rfl) fun E => ?_
 refine aw_ent (T := ⟨9, [0, 1, 2], [(0, .ls 0), (1, .l (.fnc (.func 100) [1, 2]))], (near_anyH1 l s g)⟩) (Ent.refl _) ?_
 apply aw_seq
 refine awr []
  ⟨9, [0, 1, 2], [(0, .ls 0), (1, .l (.fnc (.func 100) [1, 2]))], (near_anyH1 l s g)⟩
  [] trivial ?_
 apply aw_seq
 refine awr [(2, .call [0, 1, 2] (.i (findI (nearB s g) l)) [])]
  ⟨9, [0, 1, 2], [(4, .b (decide (0 ≤ (findI (nearB s g) l))))], []⟩
  [CallOK Try.prog 106 [.ls 0, .l (.fnc (.func 100) [1, 2])] [0, 1, 2] [some (.ro 2 l.length (Lst eS l)), some (.rblk [.i s.angle, .i s.height]), some (.rblk [.i g])] (.i (findI (nearB s g) l)) []] (al1 (cfr (near_ix s g hs l hl hb) [(0, 0), (1, 1), (2, 2)] (dem_cons rfl (le_ro rfl el_rfl) (dem_cons rfl (le_rblk rfl) (dem_cons rfl (le_rblk rfl) dem_nil))))) ?_
 exact aw_ret ⟨.inr rfl, eok ⟨9, [0, 1, 2], [(4, .b (l.any (nearB s g)))], []⟩
     (enr [] ⟨(slot_b (a := decide (0 ≤ (findI (nearB s g) l))) rfl (by first | rfl | omega | assumption | (exact findI_any))), trivial⟩ trivial) wr_nil⟩
set_option maxRecDepth 100000 in
theorem none_fr  : CallFr Try.prog 82 [] [] [] (.agg [.i (-1), .i 0]) [] := by
 refine callFr_of (fn := Try.f82) (by kernel_rfl) rfl (by kernel_rfl) (by kernel_rfl) fun E => ?_
 refine aw_ent (T := ⟨2, [], [], []⟩) (Ent.refl _) ?_
 apply aw_seq
 refine awr [(0, .new 1000)]
  ⟨2, [], [(0, .l (.ref 1000 0))], [(1000, some (.blk 140 [.i 0, .i 0]))]⟩
  [] trivial ?_
 apply aw_seq
 refine awr []
  ⟨2, [], [(0, .l (.ref 1000 0))], [(1000, some (.blk 140 [.i (-1), .i 0]))]⟩
  [] trivial ?_
 exact aw_ret ⟨.inr rfl, eok ⟨2, [], [(0, .l (.ref 8000 0))], [(8000, some (.blk 140 [.i (-1), .i 0]))]⟩
     (enr [(8000, 1000)] ⟨rfl, trivial⟩ (cbl rfl rfl trivial)) wr_nil⟩
def keeps_frK1 (x : TrkV) : Cn := .rblk [.i x.t.year, .i x.t.glo, .i x.t.ghi, .i x.t.wlo, .i x.t.whi, .i x.t.health, .ls 1, .i x.r.slo, .i x.r.shi, .i x.r.ulo, .i x.r.uhi, .i x.r.hlo, .i x.r.hhi, .i x.r.apart, .i x.r.blo, .i x.r.bhi, .ls 2, .i x.r.n0, .i x.r.n1, .i x.r.n2, .i x.r.n3, .i x.r.n4, .i x.r.opn, .i x.year, .i x.worst.girth, .i x.worst.side, .i x.worst.up, .i x.worst.heal, .i x.best.girth, .i x.best.side, .i x.best.up, .i x.best.heal]
def keeps_frK2 (x : TrkV) : Cn := .ro 3 x.t.holes.length (Lst eH x.t.holes)
def keeps_frK3 (x : TrkV) : Cn := .ro 2 x.r.sizes.length (Lst eZ x.r.sizes)
def keeps_frH4 (x : TrkV) (l : List Spt) : List (Nat × Option Cn) := [(0, some (keeps_frK1 x)), (1, some (keeps_frK2 x)), (2, some (keeps_frK3 x)), (3, some (.ro 2 l.length (Lst eS l)))]
def keeps_frH5 (x : TrkV) (l : List Spt) : List (Nat × Option Cn) := [(0, some (keeps_frK1 x)), (1, some (keeps_frK2 x)), (2, some (keeps_frK3 x)), (3, some (.ro 2 l.length (Lst eS l))), (1004, some (.blk 140 [.i 0, .i 0]))]
def keeps_frA6 (x : TrkV) : SV := .agg [.i x.worst.girth, .i x.worst.side, .i x.worst.up, .i x.worst.heal]
def keeps_frH7 (x : TrkV) (l : List Spt) : List (Nat × Option Cn) := [(0, some (keeps_frK1 x)), (1, some (keeps_frK2 x)), (2, some (keeps_frK3 x)), (3, some (.ro 2 l.length (Lst eS l))), (1004, some (.blk 140 [.i 0, .i 0])), (1006, some (.blk 3 [.i (gapV x)]))]
def keeps_frK8 (l : List Spt) (i : Nat) : Cn := .blk 72 [.i ((ix l i).angle), .i ((ix l i).height)]
def keeps_frH9 (x : TrkV) (l : List Spt) (i : Nat) : List (Nat × Option Cn) := [(0, some (keeps_frK1 x)), (1, some (keeps_frK2 x)), (2, some (keeps_frK3 x)), (3, some (.ro 2 l.length (Lst eS l))), (1004, some (.blk 140 [.i 0, .i 0])), (1006, some (.blk 3 [.i (gapV x)])), (1008, some (keeps_frK8 l i))]
def keeps_frK10 (l : List Spt) (i : Nat) : Cn := .vec 3 1 1 (exEl 1 [.i ((ix l i).height)])
def keeps_frK11 (i : Nat) : Cn := .blk 140 [.i (i : Int), .i 1]
def keeps_frK12 (x : TrkV) (l : List Spt) : Cn := .blk 140 [.i ((keepsV x l).at_), .i ((keepsV x l).rule)]
def keeps_frK13 (x : TrkV) (l : List Spt) (i : Nat) : Cn := .vec 3 1 ((byV x (ix l i) x.worst).length) (Lst eI (byV x (ix l i) x.worst))
def keeps_frK14 (i : Nat) : Cn := .blk 140 [.i (i : Int), .i 2]
def keeps_frK15 (i : Nat) (l : List Spt) : Cn := .ro 2 (i - 0) (fun i_ j_ => (Lst eS l) (0 + i_) j_)
def keeps_frK16 (i : Nat) : Cn := .blk 140 [.i (i : Int), .i 3]
def keeps_frK17 (i : Nat) : Cn := .blk 140 [.i (i : Int), .i 4]
set_option maxRecDepth 100000 in
theorem keeps_fr (x : TrkV) (l : List Spt) (hx : TrkOk x) (hl : ∀ q, q ∈ l → (0 ≤ q.angle ∧ q.angle ≤ 3599) ∧ (0 ≤ q.height ∧ q.height ≤ 5000)) (hn : l.length ≤ 1000) : CallFr Try.prog 76 [.l (.ref 0 0), .ls 3] [0, 1, 2, 3] [some (.rblk [.i x.t.year, .i x.t.glo, .i x.t.ghi, .i x.t.wlo, .i x.t.whi, .i x.t.health, .ls 1, .i x.r.slo, .i x.r.shi, .i x.r.ulo, .i x.r.uhi, .i x.r.hlo, .i x.r.hhi, .i x.r.apart, .i x.r.blo, .i x.r.bhi, .ls 2, .i x.r.n0, .i x.r.n1, .i x.r.n2, .i x.r.n3, .i x.r.n4, .i x.r.opn, .i x.year, .i x.worst.girth, .i x.worst.side, .i x.worst.up, .i x.worst.heal, .i x.best.girth, .i x.best.side, .i x.best.up, .i x.best.heal]), some (.ro 3 x.t.holes.length (Lst eH x.t.holes)), some (.ro 2 x.r.sizes.length (Lst eZ x.r.sizes)), some (.ro 2 l.length (Lst eS l))] (.agg [.i ((keepsV x l).at_), .i ((keepsV x l).rule)]) [] := by
 refine callFr_of (fn := Try.f76) (by kernel_rfl) rfl (by kernel_rfl) (by kernel_rfl) fun E => ?_
 refine aw_ent (T := ⟨72, [0, 1, 2, 3], [(0, .l (.ref 0 0)), (1, .ls 3)], (keeps_frH4 x l)⟩) (Ent.refl _) ?_
 apply aw_seq
 refine awr [(0, .new 1004)]
  ⟨72, [0, 1, 2, 3], [(0, .l (.ref 0 0)), (1, .ls 3), (4, .l (.ref 1004 0))], (keeps_frH5 x l)⟩
  [] trivial ?_
 apply aw_seq
 refine awr [(5, .call [0, 1, 2] (.i (tapsV x x.worst)) []), (7, .call [0, 1, 2] (.i (gapV x)) []), (8, .new 1006)]
  ⟨72, [0, 1, 2, 3], [(0, .l (.ref 0 0)), (1, .ls 3), (4, .l (.ref 1004 0)), (5, .i (tapsV x x.worst)), (6, .l (.ref 1006 0))], (keeps_frH7 x l)⟩
  [CallOK Try.prog 62 [.l (.ref 0 0), (keeps_frA6 x)] [0, 1, 2] [some (keeps_frK1 x), some (keeps_frK2 x), some (keeps_frK3 x)] (.i (tapsV x x.worst)) [], CallOK Try.prog 95 [.l (.ref 0 0)] [0, 1, 2] [some (keeps_frK1 x), some (keeps_frK2 x), some (keeps_frK3 x)] (.i (gapV x)) []] (al2 (cfr (taps_fr x x.worst (by assumption) (by first | assumption | exact (TrkOk.worst (by assumption)) | exact (TrkOk.best (by assumption)))) [(0, 0), (1, 1), (2, 2)] (dem_cons rfl (le_rblk rfl) (dem_cons rfl (le_ro rfl el_rfl) (dem_cons rfl (le_ro rfl el_rfl) dem_nil)))) (al1 (cfr (gap_fr x (by assumption)) [(0, 0), (1, 1), (2, 2)] (dem_cons rfl (le_rblk rfl) (dem_cons rfl (le_ro rfl el_rfl) (dem_cons rfl (le_ro rfl el_rfl) dem_nil)))))) ?_
 apply aw_seq
 apply aw_seq
 refine awr []
  ⟨72, [0, 1, 2, 3], [(0, .l (.ref 0 0)), (1, .ls 3), (4, .l (.ref 1004 0)), (5, .i (tapsV x x.worst)), (6, .l (.ref 1006 0)), (17, .ls 3), (18, .i (l.length : Int)), (19, .i 0)], (keeps_frH7 x l)⟩
  [] trivial ?_
 apply aw_block
 refine aw_loop (ι := Nat) (fun zz => ⟨72, [0, 1, 2, 3], [(0, .l (.ref 0 0)), (1, .ls 3), (4, .l (.ref 1004 0)), (5, .i (tapsV x x.worst)), (6, .l (.ref 1006 0)), (17, .ls 3), (18, .i (l.length : Int)), (19, .i (zz : Int))], (keeps_frH7 x l)⟩) (fun zz => (zz ≤ l.length) ∧ (keepL x (tapsV x x.worst) (gapV x) l zz (l.drop zz) = keepsV x l)) (fun zz => l.length - zz) 0 ⟨(by first | omega | rfl | assumption | (simp; done)), (by rfl)⟩
     (enr [] ⟨rfl, rfl, rfl, rfl, rfl, rfl, rfl, rfl, trivial⟩ (crr rfl rfl (cro rfl (cro rfl (cro rfl (cbl rfl rfl (cbl rfl rfl trivial))))))) fun zz hp => ?_
 obtain ⟨i, rfl⟩ : ∃ x, x = zz := ⟨_, rfl⟩
 obtain ⟨hiL, hq⟩ := hp
 show AW _ E _ _ ⟨72, [0, 1, 2, 3], [(0, .l (.ref 0 0)), (1, .ls 3), (4, .l (.ref 1004 0)), (5, .i (tapsV x x.worst)), (6, .l (.ref 1006 0)), (17, .ls 3), (18, .i (l.length : Int)), (19, .i (i : Int))], (keeps_frH7 x l)⟩
 apply aw_seq
 refine awr []
  ⟨72, [0, 1, 2, 3], [(0, .l (.ref 0 0)), (1, .ls 3), (4, .l (.ref 1004 0)), (5, .i (tapsV x x.worst)), (6, .l (.ref 1006 0)), (17, .ls 3), (18, .i (l.length : Int)), (19, .i (i : Int)), (20, .b (decide ((i : Int) < (l.length : Int))))], (keeps_frH7 x l)⟩
  [] trivial ?_
 apply aw_seq
 refine aw_cond (b := decide ((i : Int) < (l.length : Int))) rfl (fun h1 => ?_) (fun h1 => ?_)
 ·
  have h1p : (i : Int) < (l.length : Int) := dtr h1
  apply aw_skip
  apply aw_seq
  apply aw_block
  apply aw_seq
  refine awr [(1, .idx i), (3, .new 1008)]
   ⟨72, [0, 1, 2, 3], [(0, .l (.ref 0 0)), (1, .ls 3), (4, .l (.ref 1004 0)), (5, .i (tapsV x x.worst)), (6, .l (.ref 1006 0)), (7, .i (i : Int)), (8, .l (.ref 1008 0)), (17, .ls 3), (18, .i (l.length : Int)), (19, .i (i : Int))], (keeps_frH9 x l i)⟩
   [(i : Int) = (i : Int), i < l.length, i < l.length] (al2 (by omega) (al2 (by omega) (al1 (by omega)))) ?_
  have hs := hl _ (ix_mem (l := l) (i := i) (by omega))
  have hsa := hs.1
  apply aw_block
  apply aw_seq
  refine awd [(14, .new 1039), (15, .call [1039] (.b (within x.r.blo x.r.bhi ([(ix l i).height]))) [])]
   ⟨72, [0, 1, 2, 3], [(0, .l (.ref 0 0)), (1, .ls 3), (4, .l (.ref 1004 0)), (5, .i (tapsV x x.worst)), (6, .l (.ref 1006 0)), (7, .i (i : Int)), (8, .l (.ref 1008 0)), (17, .ls 3), (18, .i (l.length : Int)), (19, .i (i : Int)), (24, .b (!(within x.r.blo x.r.bhi ([(ix l i).height]))))], (keeps_frH9 x l i)⟩
   [CallOK Try.prog 55 [.i x.r.blo, .i x.r.bhi, .ls 1039] [1039] [some (keeps_frK10 l i)] (.b (within x.r.blo x.r.bhi ([(ix l i).height]))) []] (al1 (cfr (within_fr x.r.blo x.r.bhi ([(ix l i).height]) (by first | omega | (simp; done) | decide)) [(0, 1039)] (dem_cons rfl (le_vec_ro (by first | omega | rfl | assumption) (fun | 0, _ => (fun | 0, _ => rfl | (_n + 1), h => absurd h (by omega)) | (_n + 1), h => absurd h (by omega))) dem_nil))) ?_
  refine aw_cond (b := (!(within x.r.blo x.r.bhi ([(ix l i).height])))) rfl (fun h2 => ?_) (fun h2 => ?_)
  ·
   apply aw_seq
   have hK : keepsV x l = ⟨i, 1⟩ := by
    rw [← hq, drop_ix (l := l) (i := i) (by omega)]
    first | (simp only [keepL, *, ne_eq, not_true_eq_false, not_false_eq_true, Bool.false_eq_true, if_true, if_false]; done) | (simp only [keepL, *, ne_eq, not_true_eq_false, not_false_eq_true, Bool.false_eq_true, if_true, if_false]; rfl)
   refine awr []
    ⟨72, [0, 1, 2, 3], [(4, .l (.ref 1004 0))], [(1004, some (keeps_frK11 i))]⟩
    [] trivial ?_
   exact aw_ret (ret_block (ret_block (ret_then (ret_then (ret_block (ret_then ⟨.inr rfl, eok ⟨72, [0, 1, 2, 3], [(4, .l (.ref 8004 0))], [(8004, some (keeps_frK12 x l))]⟩
       (enr [(8004, 1004)] ⟨rfl, trivial⟩ (cbl rfl (by exact (cells_cons (cell_i (by first | rfl | omega | assumption | (rw [hK]))) (cells_cons (cell_i (by first | rfl | omega | assumption | (rw [hK]))) rfl))) trivial)) wr_nil⟩))))))
  ·
   apply aw_seq
   refine awd [(6, .call [0, 1, 2] (.ls 10510) [(10510, some (keeps_frK13 x l i))])]
    ⟨72, [0, 1, 2, 3], [(0, .l (.ref 0 0)), (1, .ls 3), (4, .l (.ref 1004 0)), (5, .i (tapsV x x.worst)), (6, .l (.ref 1006 0)), (7, .i (i : Int)), (8, .l (.ref 1008 0)), (17, .ls 3), (18, .i (l.length : Int)), (19, .i (i : Int)), (44, .b (decide (0 < (((byV x (ix l i) x.worst).length : Nat) : Int))))], (keeps_frH9 x l i)⟩
    [CallOK Try.prog 73 [.l (.ref 0 0), .agg [.i ((ix l i).angle), .i ((ix l i).height)], (keeps_frA6 x)] [0, 1, 2] [some (keeps_frK1 x), some (keeps_frK2 x), some (keeps_frK3 x)] (.ls 10510) [(10510, some (keeps_frK13 x l i))]] (al1 (cfr (by_fr x (ix l i) x.worst (by assumption) (by assumption) (by first | assumption | exact (TrkOk.worst (by assumption)) | exact (TrkOk.best (by assumption)))) [(0, 0), (1, 1), (2, 2), (4, 10510)] (dem_cons rfl (le_rblk rfl) (dem_cons rfl (le_ro rfl el_rfl) (dem_cons rfl (le_ro rfl el_rfl) dem_nil))))) ?_
   refine aw_cond (b := decide (0 < (((byV x (ix l i) x.worst).length : Nat) : Int))) rfl (fun h3 => ?_) (fun h3 => ?_)
   ·
    have h3p : 0 < (((byV x (ix l i) x.worst).length : Nat) : Int) := dtr h3
    apply aw_seq
    have hK : keepsV x l = ⟨i, 2⟩ := by
     rw [← hq, drop_ix (l := l) (i := i) (by omega)]
     first | (simp only [keepL, *, ne_eq, not_true_eq_false, not_false_eq_true, Bool.false_eq_true, if_true, if_false]; done) | (simp only [keepL, *, ne_eq, not_true_eq_false, not_false_eq_true, Bool.false_eq_true, if_true, if_false]; rfl)
    refine awr []
     ⟨72, [0, 1, 2, 3], [(4, .l (.ref 1004 0))], [(1004, some (keeps_frK14 i))]⟩
     [] trivial ?_
    exact aw_ret (ret_block (ret_block (ret_then (ret_then (ret_block (ret_then ⟨.inr rfl, eok ⟨72, [0, 1, 2, 3], [(4, .l (.ref 8004 0))], [(8004, some (keeps_frK12 x l))]⟩
        (enr [(8004, 1004)] ⟨rfl, trivial⟩ (cbl rfl (by exact (cells_cons (cell_i (by first | rfl | omega | assumption | (rw [hK]))) (cells_cons (cell_i (by first | rfl | omega | assumption | (rw [hK]))) rfl))) trivial)) wr_nil⟩))))))
   ·
    have h3p : (((byV x (ix l i) x.worst).length : Nat) : Int) ≤ 0 := dlt h3
    apply aw_seq
    refine awr [(2, .cut 1059 0 i), (4, .call [1059, 1008, 1006] (.b ((l.take i).any (nearB (ix l i) (gapV x)))) [])]
     ⟨72, [0, 1, 2, 3], [(0, .l (.ref 0 0)), (1, .ls 3), (4, .l (.ref 1004 0)), (5, .i (tapsV x x.worst)), (6, .l (.ref 1006 0)), (7, .i (i : Int)), (17, .ls 3), (18, .i (l.length : Int)), (19, .i (i : Int)), (56, .b ((l.take i).any (nearB (ix l i) (gapV x))))], (keeps_frH7 x l)⟩
     [0 = 0, (i : Int) = (i : Int), 0 ≤ i, i ≤ l.length, CallOK Try.prog 87 [.ls 1059, .l (.fnc (.func 100) [1008, 1006])] [1059, 1008, 1006] [some (keeps_frK15 i l), some (keeps_frK8 l i), some (.blk 3 [.i (gapV x)])] (.b ((l.take i).any (nearB (ix l i) (gapV x)))) []] (al2 rfl (al2 (by omega) (al2 (by omega) (al2 (by omega) (al1 (cfr (near_any (ix l i) (gapV x) (by assumption) (l.take i) (by first | omega | (simp; done) | decide | (rw [List.length_take]; omega)) (fun q hq => (hl q (List.mem_of_mem_take hq)).1)) [(0, 1059), (1, 1008), (2, 1006)] (dem_cons rfl (le_ro (by rw [List.length_take]; omega) (sub_take (by omega))) (dem_cons rfl (le_blk_r rfl) (dem_cons rfl (le_blk_r rfl) dem_nil))))))))) ?_
    refine aw_cond (b := ((l.take i).any (nearB (ix l i) (gapV x)))) rfl (fun h4 => ?_) (fun h4 => ?_)
    ·
     apply aw_seq
     have hK : keepsV x l = ⟨i, 3⟩ := by
      rw [← hq, drop_ix (l := l) (i := i) (by omega)]
      first | (simp only [keepL, *, ne_eq, not_true_eq_false, not_false_eq_true, Bool.false_eq_true, if_true, if_false]; done) | (simp only [keepL, *, ne_eq, not_true_eq_false, not_false_eq_true, Bool.false_eq_true, if_true, if_false]; rfl)
     refine awr []
      ⟨72, [0, 1, 2, 3], [(4, .l (.ref 1004 0))], [(1004, some (keeps_frK16 i))]⟩
      [] trivial ?_
     exact aw_ret (ret_block (ret_block (ret_then (ret_then (ret_block (ret_then ⟨.inr rfl, eok ⟨72, [0, 1, 2, 3], [(4, .l (.ref 8004 0))], [(8004, some (keeps_frK12 x l))]⟩
         (enr [(8004, 1004)] ⟨rfl, trivial⟩ (cbl rfl (by exact (cells_cons (cell_i (by first | rfl | omega | assumption | (rw [hK]))) (cells_cons (cell_i (by first | rfl | omega | assumption | (rw [hK]))) rfl))) trivial)) wr_nil⟩))))))
    ·
     apply aw_seq
     refine awr []
      ⟨72, [0, 1, 2, 3], [(0, .l (.ref 0 0)), (1, .ls 3), (4, .l (.ref 1004 0)), (5, .i (tapsV x x.worst)), (6, .l (.ref 1006 0)), (7, .i (i : Int)), (17, .ls 3), (18, .i (l.length : Int)), (19, .i (i : Int)), (64, .b (decide ((tapsV x x.worst) ≤ (i : Int))))], (keeps_frH7 x l)⟩
      [] trivial ?_
     refine aw_cond (b := decide ((tapsV x x.worst) ≤ (i : Int))) rfl (fun h5 => ?_) (fun h5 => ?_)
     ·
      have h5p : (tapsV x x.worst) ≤ (i : Int) := dtr h5
      apply aw_seq
      have hK : keepsV x l = ⟨i, 4⟩ := by
       rw [← hq, drop_ix (l := l) (i := i) (by omega)]
       first | (simp only [keepL, *, ne_eq, not_true_eq_false, not_false_eq_true, Bool.false_eq_true, if_true, if_false]; done) | (simp only [keepL, *, ne_eq, not_true_eq_false, not_false_eq_true, Bool.false_eq_true, if_true, if_false]; rfl)
      refine awr []
       ⟨72, [0, 1, 2, 3], [(4, .l (.ref 1004 0))], [(1004, some (keeps_frK17 i))]⟩
       [] trivial ?_
      exact aw_ret (ret_block (ret_block (ret_then (ret_then (ret_block (ret_then ⟨.inr rfl, eok ⟨72, [0, 1, 2, 3], [(4, .l (.ref 8004 0))], [(8004, some (keeps_frK12 x l))]⟩
          (enr [(8004, 1004)] ⟨rfl, trivial⟩ (cbl rfl (by exact (cells_cons (cell_i (by first | rfl | omega | assumption | (rw [hK]))) (cells_cons (cell_i (by first | rfl | omega | assumption | (rw [hK]))) rfl))) trivial)) wr_nil⟩))))))
     ·
      have h5p : (i : Int) < (tapsV x x.worst) := dle h5
      apply aw_skip
      refine awr [(0, .num (((i + 1) : Nat) : Int))]
       ⟨72, [0, 1, 2, 3], [(0, .l (.ref 0 0)), (1, .ls 3), (4, .l (.ref 1004 0)), (5, .i (tapsV x x.worst)), (6, .l (.ref 1006 0)), (17, .ls 3), (18, .i (l.length : Int)), (19, .i (((i + 1) : Nat) : Int))], (keeps_frH7 x l)⟩
       [((i : Int) + 1) = (((i + 1) : Nat) : Int), -9223372036854775808 ≤ (((i + 1) : Nat) : Int) ∧ (((i + 1) : Nat) : Int) < 9223372036854775808] (al2 (by omega) (al1 (by omega))) ?_
      exact ⟨(i + 1), ⟨(by first | omega | rfl | assumption | (simp; done)), (by rw [← hq, drop_ix (l := l) (i := i) (by omega)]; first | (simp only [keepL, *, ne_eq, not_true_eq_false, not_false_eq_true, Bool.false_eq_true, if_true, if_false]; done) | (simp only [keepL, *, ne_eq, not_true_eq_false, not_false_eq_true, Bool.false_eq_true, if_true, if_false]; rfl))⟩, (show l.length - (i + 1) < l.length - i by first | omega | rfl | assumption),
          (enr [] ⟨rfl, rfl, rfl, rfl, rfl, rfl, rfl, rfl, trivial⟩ (crr rfl rfl (cro rfl (cro rfl (cro rfl (cbl rfl rfl (cbl rfl rfl trivial)))))))⟩
 ·
  have h1p : (l.length : Int) ≤ (i : Int) := dlt h1
  refine aw_exit (exit_then (exit_then (exit_in ?_)))
  apply aw_seq
  have hK : keepsV x l = ⟨-1, 0⟩ := by
   rw [← hq, List.drop_eq_nil_of_le (by omega)]
   rfl
  refine awr [(0, .call [] (.agg [.i (-1), .i 0]) [])]
   ⟨72, [0, 1, 2, 3], [(4, .l (.ref 1004 0))], [(1004, some (.blk 140 [.i (-1), .i 0]))]⟩
   [CallOK Try.prog 82 [] [] [] (.agg [.i (-1), .i 0]) []] (al1 (cfr (none_fr ) [] dem_nil)) ?_
  exact aw_ret ⟨.inr rfl, eok ⟨72, [0, 1, 2, 3], [(4, .l (.ref 8004 0))], [(8004, some (keeps_frK12 x l))]⟩
      (enr [(8004, 1004)] ⟨rfl, trivial⟩ (cbl rfl (by exact (cells_cons (cell_i (by first | rfl | omega | assumption | (rw [hK]))) (cells_cons (cell_i (by first | rfl | omega | assumption | (rw [hK]))) rfl))) trivial)) wr_nil⟩
def Keeps_frA1 (t : TreeV) : SV := .agg [.i t.year, .i t.glo, .i t.ghi, .i t.wlo, .i t.whi, .i t.health, .ls 1]
def Keeps_frA2 (r : RuleV) : SV := .agg [.i r.slo, .i r.shi, .i r.ulo, .i r.uhi, .i r.hlo, .i r.hhi, .i r.apart, .i r.blo, .i r.bhi, .ls 2, .i r.n0, .i r.n1, .i r.n2, .i r.n3, .i r.n4, .i r.opn]
def Keeps_frK3 (t : TreeV) : Cn := .ro 3 t.holes.length (Lst eH t.holes)
def Keeps_frK4 (r : RuleV) : Cn := .ro 2 r.sizes.length (Lst eZ r.sizes)
def Keeps_frH5 (t : TreeV) (r : RuleV) (l : List Spt) : List (Nat × Option Cn) := [(1, some (Keeps_frK3 t)), (2, some (Keeps_frK4 r)), (3, some (.ro 2 l.length (Lst eS l)))]
def Keeps_frK6 (t : TreeV) : Cn := .blk 26 [.i t.year, .i t.glo, .i t.ghi, .i t.wlo, .i t.whi, .i t.health, .ls 1]
def Keeps_frK7 (r : RuleV) : Cn := .blk 30 [.i r.slo, .i r.shi, .i r.ulo, .i r.uhi, .i r.hlo, .i r.hhi, .i r.apart, .i r.blo, .i r.bhi, .ls 2, .i r.n0, .i r.n1, .i r.n2, .i r.n3, .i r.n4, .i r.opn]
def Keeps_frH8 (t : TreeV) (r : RuleV) (l : List Spt) : List (Nat × Option Cn) := [(1, some (Keeps_frK3 t)), (2, some (Keeps_frK4 r)), (3, some (.ro 2 l.length (Lst eS l))), (1004, some (Keeps_frK6 t)), (1005, some (Keeps_frK7 r))]
def Keeps_frK9 (t : TreeV) (r : RuleV) (y : Int) : Cn := .blk 123 [.i ((openV t r y).t.year), .i ((openV t r y).t.glo), .i ((openV t r y).t.ghi), .i ((openV t r y).t.wlo), .i ((openV t r y).t.whi), .i ((openV t r y).t.health), .ls 1, .i ((openV t r y).r.slo), .i ((openV t r y).r.shi), .i ((openV t r y).r.ulo), .i ((openV t r y).r.uhi), .i ((openV t r y).r.hlo), .i ((openV t r y).r.hhi), .i ((openV t r y).r.apart), .i ((openV t r y).r.blo), .i ((openV t r y).r.bhi), .ls 2, .i ((openV t r y).r.n0), .i ((openV t r y).r.n1), .i ((openV t r y).r.n2), .i ((openV t r y).r.n3), .i ((openV t r y).r.n4), .i ((openV t r y).r.opn), .i ((openV t r y).year), .i ((openV t r y).worst.girth), .i ((openV t r y).worst.side), .i ((openV t r y).worst.up), .i ((openV t r y).worst.heal), .i ((openV t r y).best.girth), .i ((openV t r y).best.side), .i ((openV t r y).best.up), .i ((openV t r y).best.heal)]
def Keeps_frH10 (t : TreeV) (r : RuleV) (l : List Spt) (y : Int) : List (Nat × Option Cn) := [(1, some (Keeps_frK3 t)), (2, some (Keeps_frK4 r)), (3, some (.ro 2 l.length (Lst eS l))), (10170, some (Keeps_frK9 t r y))]
def Keeps_frA11 (t : TreeV) (r : RuleV) (y : Int) (l : List Spt) : SV := .agg [.i ((keepsV (openV t r y) l).at_), .i ((keepsV (openV t r y) l).rule)]
def Keeps_frK12 (t : TreeV) (r : RuleV) (y : Int) (l : List Spt) : Cn := .blk 140 [.i ((keepsV (openV t r y) l).at_), .i ((keepsV (openV t r y) l).rule)]
set_option maxRecDepth 100000 in
theorem Keeps_fr (t : TreeV) (r : RuleV) (y : Int) (l : List Spt) (ht : t.holes.length ≤ 1000000) (hr : r.sizes.length ≤ 1000000) (hn : l.length ≤ 1000000) : CallFr Try.prog 45 [(Keeps_frA1 t), (Keeps_frA2 r), .i y, .ls 3] [1, 2, 3] [some (.ro 3 t.holes.length (Lst eH t.holes)), some (.ro 2 r.sizes.length (Lst eZ r.sizes)), some (.ro 2 l.length (Lst eS l))] (.tup [.one (.i ((keepsR t r y l).at_)), .one (.i ((keepsR t r y l).rule)), .one (.i (keepsE t r y l))]) [] := by
 refine callFr_of (fn := Try.f45) (by kernel_rfl) rfl (by kernel_rfl) (by kernel_rfl) fun E => ?_
 refine aw_ent (T := ⟨39, [1, 2, 3], [(0, (Keeps_frA1 t)), (1, (Keeps_frA2 r)), (2, .i y), (3, .ls 3)], (Keeps_frH5 t r l)⟩) (Ent.refl _) ?_
 apply aw_seq
 refine awr [(0, .new 1004), (1, .new 1005)]
  ⟨39, [1, 2, 3], [(2, .i y), (3, .ls 3), (4, .l (.ref 1004 0)), (5, .l (.ref 1005 0))], (Keeps_frH8 t r l)⟩
  [] trivial ?_
 apply aw_seq
 rcases Bool.eq_false_or_eq_true (decide (startE t r y = 0)) with h1 | h1
 ·
  have hz0 : startE t r y = 0 := dtr h1
  refine awr [(3, .call [1, 2] (.tup [.one (.ref 10170 0), .one (.i 0)]) [(10170, some (Keeps_frK9 t r y))])]
   ⟨39, [1, 2, 3], [(3, .ls 3), (10, .i 0), (11, .l (.ref 10170 0))], (Keeps_frH10 t r l y)⟩
   [CallOK Try.prog 61 [(Keeps_frA1 t), (Keeps_frA2 r), .i y] [1, 2] [some (Keeps_frK3 t), some (Keeps_frK4 r)] (.tup [.one (.ref 10170 0), .one (.i 0)]) [(10170, some (Keeps_frK9 t r y))]] (al1 (cfr (open_ok_fr t r y (by first | omega | (simp; done) | assumption) (by first | omega | (simp; done) | assumption) (dtr h1)) [(1, 1), (2, 2), (5, 10170)] (dem_cons rfl (le_ro rfl el_rfl) (dem_cons rfl (le_ro rfl el_rfl) dem_nil)))) ?_
  have hx := open_ok (dtr h1)
  apply aw_seq
  apply aw_block
  apply aw_seq
  refine awr []
   ⟨39, [1, 2, 3], [(3, .ls 3), (10, .i 0), (11, .l (.ref 10170 0)), (20, .b (decide ((0 : Int) ≠ (0 : Int))))], (Keeps_frH10 t r l y)⟩
   [] trivial ?_
  have h2 : (decide ((0 : Int) ≠ (0 : Int))) = false := by decide
  refine aw_cond (b := decide ((0 : Int) ≠ (0 : Int))) rfl (fun h => Bool.noConfusion (h2.symm.trans h)) (fun _ => ?_)
  apply aw_seq
  refine awr []
   ⟨39, [1, 2, 3], [(3, .ls 3), (11, .l (.ref 10170 0)), (24, .b (decide (20 < (l.length : Int))))], (Keeps_frH10 t r l y)⟩
   [] trivial ?_
  refine aw_cond (b := decide (20 < (l.length : Int))) rfl (fun h3 => ?_) (fun h3 => ?_)
  ·
   have h3p : 20 < (l.length : Int) := dtr h3
   apply aw_seq
   refine awr []
    ⟨39, [1, 2, 3], [(8, .i 0), (9, .i 0), (10, .i 5)], []⟩
    [] trivial ?_
   exact aw_ret (ret_block (ret_then ⟨.inr rfl, eok ⟨39, [1, 2, 3], [(8, .i ((keepsR t r y l).at_)), (9, .i ((keepsR t r y l).rule)), (10, .i (keepsE t r y l))], []⟩
       (enr [] ⟨(slot_i rfl (by first | rfl | omega | assumption | (simp only [keepsR, keepsE, *, ne_eq, not_true_eq_false, not_false_eq_true, Bool.false_eq_true, if_true, if_false] <;> rfl))), (slot_i rfl (by first | rfl | omega | assumption | (simp only [keepsR, keepsE, *, ne_eq, not_true_eq_false, not_false_eq_true, Bool.false_eq_true, if_true, if_false] <;> rfl))), (slot_i rfl (by first | rfl | omega | assumption | (simp only [keepsR, keepsE, *, ne_eq, not_true_eq_false, not_false_eq_true, Bool.false_eq_true, if_true, if_false] <;> rfl))), trivial⟩ trivial) wr_nil⟩))
  ·
   have h3p : (l.length : Int) ≤ 20 := dlt h3
   apply aw_seq
   refine awr [(1, .call [3] (.b (spotsB l)) [])]
    ⟨39, [1, 2, 3], [(3, .ls 3), (11, .l (.ref 10170 0)), (28, .b (!(spotsB l)))], (Keeps_frH10 t r l y)⟩
    [CallOK Try.prog 56 [.ls 3] [3] [some (.ro 2 l.length (Lst eS l))] (.b (spotsB l)) []] (al1 (cfr (areSpots_fr l (by first | omega | (simp; done) | decide)) [(0, 3)] (dem_cons rfl (le_ro rfl el_rfl) dem_nil))) ?_
   refine aw_cond (b := (!(spotsB l))) rfl (fun h4 => ?_) (fun h4 => ?_)
   ·
    apply aw_seq
    refine awr []
     ⟨39, [1, 2, 3], [(8, .i 0), (9, .i 0), (10, .i 3)], []⟩
     [] trivial ?_
    exact aw_ret (ret_block (ret_then ⟨.inr rfl, eok ⟨39, [1, 2, 3], [(8, .i ((keepsR t r y l).at_)), (9, .i ((keepsR t r y l).rule)), (10, .i (keepsE t r y l))], []⟩
        (enr [] ⟨(slot_i rfl (by first | rfl | omega | assumption | (simp only [keepsR, keepsE, *, ne_eq, not_true_eq_false, not_false_eq_true, Bool.false_eq_true, if_true, if_false] <;> rfl))), (slot_i rfl (by first | rfl | omega | assumption | (simp only [keepsR, keepsE, *, ne_eq, not_true_eq_false, not_false_eq_true, Bool.false_eq_true, if_true, if_false] <;> rfl))), (slot_i rfl (by first | rfl | omega | assumption | (simp only [keepsR, keepsE, *, ne_eq, not_true_eq_false, not_false_eq_true, Bool.false_eq_true, if_true, if_false] <;> rfl))), trivial⟩ trivial) wr_nil⟩))
   ·
    apply aw_skip
    apply aw_seq
    have hsp := spotsB_iff.1 (by simpa using (by assumption : (!(spotsB l)) = false))
    refine awr [(2, .call [10170, 1, 2, 3] ((Keeps_frA11 t r y l)) []), (3, .new 1012)]
     ⟨39, [1, 2, 3], [(12, .l (.ref 1012 0))], [(1012, some (Keeps_frK12 t r y l))]⟩
     [CallOK Try.prog 76 [.l (.ref 10170 0), .ls 3] [10170, 1, 2, 3] [some (Keeps_frK9 t r y), some (Keeps_frK3 t), some (Keeps_frK4 r), some (.ro 2 l.length (Lst eS l))] ((Keeps_frA11 t r y l)) []] (al1 (cfr (keeps_fr (openV t r y) l (by assumption) (by first | assumption) (by omega)) [(0, 10170), (3, 3), (1, 1), (2, 2)] (dem_cons rfl (le_blk_r rfl) (dem_cons rfl (le_ro (by first | omega | rfl | assumption) el_rfl) (dem_cons rfl (le_ro (by first | omega | rfl | assumption) el_rfl) (dem_cons rfl (le_ro rfl el_rfl) dem_nil)))))) ?_
    apply aw_seq
    refine awd []
     ⟨39, [1, 2, 3], [(8, .i ((keepsV (openV t r y) l).at_)), (9, .i ((keepsV (openV t r y) l).rule)), (10, .i 0)], []⟩
     [] trivial ?_
    exact aw_ret ⟨.inr rfl, eok ⟨39, [1, 2, 3], [(8, .i ((keepsR t r y l).at_)), (9, .i ((keepsR t r y l).rule)), (10, .i (keepsE t r y l))], []⟩
        (enr [] ⟨(slot_i rfl (by first | rfl | omega | assumption | (simp only [keepsR, keepsE, *, ne_eq, not_true_eq_false, not_false_eq_true, Bool.false_eq_true, if_true, if_false] <;> rfl))), (slot_i rfl (by first | rfl | omega | assumption | (simp only [keepsR, keepsE, *, ne_eq, not_true_eq_false, not_false_eq_true, Bool.false_eq_true, if_true, if_false] <;> rfl))), (slot_i rfl (by first | rfl | omega | assumption | (simp only [keepsR, keepsE, *, ne_eq, not_true_eq_false, not_false_eq_true, Bool.false_eq_true, if_true, if_false] <;> rfl))), trivial⟩ trivial) wr_nil⟩
 ·
  have hz0 : startE t r y ≠ 0 := deq h1
  refine awr [(3, .call [1, 2] (.tup [.one (.v (.pointer none)), .one (.i (startE t r y))]) [])]
   ⟨39, [1, 2, 3], [(3, .ls 3), (10, .i (startE t r y)), (11, .l (.v (.pointer none)))], [(3, some (.ro 2 l.length (Lst eS l)))]⟩
   [CallOK Try.prog 61 [(Keeps_frA1 t), (Keeps_frA2 r), .i y] [1, 2] [some (Keeps_frK3 t), some (Keeps_frK4 r)] (.tup [.one (.v (.pointer none)), .one (.i (startE t r y))]) []] (al1 (cfr (open_bad_fr t r y (by first | omega | (simp; done) | assumption) (by first | omega | (simp; done) | assumption) (deq h1)) [(1, 1), (2, 2)] (dem_cons rfl (le_ro rfl el_rfl) (dem_cons rfl (le_ro rfl el_rfl) dem_nil)))) ?_
  apply aw_seq
  apply aw_block
  apply aw_seq
  refine awr []
   ⟨39, [1, 2, 3], [(3, .ls 3), (10, .i (startE t r y)), (11, .l (.v (.pointer none))), (20, .b (decide ((startE t r y) ≠ 0)))], [(3, some (.ro 2 l.length (Lst eS l)))]⟩
   [] trivial ?_
  have h5 : (decide ((startE t r y) ≠ 0)) = true := by simp_all
  refine aw_cond (b := decide ((startE t r y) ≠ 0)) rfl (fun _ => ?_) (fun h => Bool.noConfusion (h5.symm.trans h))
  apply aw_seq
  refine awr []
   ⟨39, [1, 2, 3], [(8, .i 0), (9, .i 0), (10, .i (startE t r y))], []⟩
   [] trivial ?_
  exact aw_ret (ret_block (ret_then ⟨.inr rfl, eok ⟨39, [1, 2, 3], [(8, .i ((keepsR t r y l).at_)), (9, .i ((keepsR t r y l).rule)), (10, .i (keepsE t r y l))], []⟩
      (enr [] ⟨(slot_i rfl (by first | rfl | omega | assumption | (simp only [keepsR, keepsE, *, ne_eq, not_true_eq_false, not_false_eq_true, Bool.false_eq_true, if_true, if_false] <;> rfl))), (slot_i rfl (by first | rfl | omega | assumption | (simp only [keepsR, keepsE, *, ne_eq, not_true_eq_false, not_false_eq_true, Bool.false_eq_true, if_true, if_false] <;> rfl))), (slot_i rfl (by first | rfl | omega | assumption | (simp only [keepsR, keepsE, *, ne_eq, not_true_eq_false, not_false_eq_true, Bool.false_eq_true, if_true, if_false] <;> rfl))), trivial⟩ trivial) wr_nil⟩))
set_option maxRecDepth 100000 in
theorem cloneH_fr (l : List Hol) (h1 : l.length ≤ 1000000) : CallFr Try.prog 102 [.ls 1] [1] [some (.ro 3 l.length (Lst eH l))] (.ls 2) [(2, some (.vec 74 3 l.length (Lst eH l)))] := by
 refine callFr_ofR (fn := Try.f102) (by kernel_rfl) rfl (by kernel_rfl) (by kernel_rfl) fun E hE => ?_
 refine aw_ent (T := ⟨8, [1], [(0, .ls 1)], [(1, some (.ro 3 l.length (Lst eH l)))]⟩) (Ent.refl _) ?_
 apply aw_seq
 refine awr []
  ⟨8, [1], [(0, .ls 1)], [(1, some (.ro 3 l.length (Lst eH l)))]⟩
  [] trivial ?_
 apply aw_seq
 apply aw_seq
 refine aw_eqnil hE 1 []
  ⟨8, [1], [(0, .ls 1), (3, .ls 1)], [(1, some (.ro 3 l.length (Lst eH l)))]⟩
  [] (u := 74) (by kernel_rfl) trivial rfl rfl (by kernel_rfl) rfl rfl rfl (by kernel_rfl) fun b2 hb1 => ?_
 cases b2
 ·
  refine cont_mk []
   ⟨8, [1], [(0, .ls 1), (4, .b false)], [(1, some (.ro 3 l.length (Lst eH l)))]⟩
   [] (by kernel_rfl) trivial ?_
  refine aw_false rfl ?_
  apply aw_skip
  apply aw_seq
  refine awr [(0, .new 1005), (2, .lst 1007 l.length (Lst eH l))]
   ⟨8, [1], [(2, .ls 1007)], [(1007, some (.vec 74 3 l.length (Lst eH l)))]⟩
   [0 + l.length ≤ 1000000000000, (0 + l.length) * 24 ≤ 140737488355328, AppOk 3 0 l.length (exEl 3 []) (Lst eH l) l.length (Lst eH l)] (al2 (by omega) (al2 (by omega) (al1 (app_nil (by first | omega | rfl | assumption))))) ?_
  exact aw_ret ⟨.inr rfl, eok ⟨8, [1], [(2, .ls 2)], [(2, some (.vec 74 3 l.length (Lst eH l)))]⟩
      (enr [(2, 1007)] ⟨rfl, trivial⟩ (cve rfl trivial)) (wr_cons rfl (plain_Lst plain_eH) wr_nil)⟩
 ·
  have hb1 := hb1 rfl
  refine cont_mk []
   ⟨8, [1], [(0, .ls 1), (4, .b true)], [(1, some (.ro 3 l.length (Lst eH l)))]⟩
   [] (by kernel_rfl) trivial ?_
  refine aw_true rfl ?_
  apply aw_seq
  refine awr []
   ⟨8, [1], [(2, .l (.v (.slice none 0 0)))], []⟩
   [] trivial ?_
  exact aw_ret (ret_then ⟨.inr rfl, eok ⟨8, [1], [(2, .ls 2)], [(2, some (.vec 74 3 l.length (Lst eH l)))]⟩
      (Ent.trans (Ent.nilSlot 2 70001 74 3 (Lst eH l) rfl (by omega) (by kernel_rfl)) (enr [(2, 70001)] ⟨rfl, trivial⟩ (conts_cons rfl (le_vec (by first | rfl | omega | assumption | (simp)) el_rfl) trivial))) (wr_cons rfl (plain_Lst plain_eH) wr_nil)⟩)
def drill_frA1 (t : TreeV) : SV := .agg [.i t.year, .i t.glo, .i t.ghi, .i t.wlo, .i t.whi, .i t.health, .ls 1]
def drill_frK2 (t : TreeV) : Cn := .ro 3 t.holes.length (Lst eH t.holes)
def drill_frH3 (t : TreeV) (l : List Spt) : List (Nat × Option Cn) := [(1, some (drill_frK2 t)), (3, some (.ro 2 l.length (Lst eS l)))]
def drill_frK4 (t : TreeV) : Cn := .blk 26 [.i t.year, .i t.glo, .i t.ghi, .i t.wlo, .i t.whi, .i t.health, .ls 1]
def drill_frK5  : Cn := .blk 26 [.i 0, .i 0, .i 0, .i 0, .i 0, .i 0, .v (.slice none 0 0)]
def drill_frH6 (t : TreeV) (l : List Spt) : List (Nat × Option Cn) := [(1, some (drill_frK2 t)), (3, some (.ro 2 l.length (Lst eS l))), (1003, some (drill_frK4 t)), (1006, some drill_frK5)]
def drill_frK7 (t : TreeV) : Cn := .vec 74 3 ((t.holes).length) (Lst eH t.holes)
def drill_frK8 (t : TreeV) : Cn := .blk 26 [.i t.year, .i t.glo, .i t.ghi, .i t.wlo, .i t.whi, .i t.health, .ls 10120]
def drill_frH9 (l : List Spt) (t : TreeV) : List (Nat × Option Cn) := [(3, some (.ro 2 l.length (Lst eS l))), (1003, some (drill_frK8 t)), (1006, some drill_frK5), (10120, some (drill_frK7 t))]
def drill_frK10 (t : TreeV) : Cn := .blk 26 [.i t.year, .i t.glo, .i t.ghi, .i t.wlo, .i t.whi, .i t.health, .ls 2001]
def drill_frH11 (l : List Spt) (t : TreeV) (o : List Hol) : List (Nat × Option Cn) := [(3, some (.ro 2 l.length (Lst eS l))), (1003, some (drill_frK10 t)), (1006, some drill_frK5), (2001, some (.vec 74 3 o.length (Lst eH o)))]
def drill_frK12 (l : List Spt) (i : Nat) : Cn := .blk 72 [.i ((ix l i).angle), .i ((ix l i).height)]
def drill_frH13 (l : List Spt) (t : TreeV) (i : Nat) (o : List Hol) : List (Nat × Option Cn) := [(3, some (.ro 2 l.length (Lst eS l))), (1003, some (drill_frK10 t)), (1006, some drill_frK5), (1009, some (drill_frK12 l i)), (2001, some (.vec 74 3 o.length (Lst eH o)))]
def drill_frK14 (t : TreeV) : Cn := .blk 26 [.i t.year, .i t.glo, .i t.ghi, .i t.wlo, .i t.whi, .i t.health, .ls 1026]
def drill_frK15 (o : List Hol) (y : Int) (l : List Spt) (i : Nat) : Cn := .vec 74 3 (o.length + 1) (Lst eH (o ++ [(⟨y, (ix l i).angle, (ix l i).height⟩ : Hol)]))
def drill_frH16 (l : List Spt) (t : TreeV) (o : List Hol) (y : Int) (i : Nat) : List (Nat × Option Cn) := [(3, some (.ro 2 l.length (Lst eS l))), (1003, some (drill_frK14 t)), (1006, some drill_frK5), (1026, some (drill_frK15 o y l i))]
def drill_frH17 (t : TreeV) (o : List Hol) : List (Nat × Option Cn) := [(1006, some (drill_frK10 t)), (2001, some (.vec 74 3 o.length (Lst eH o)))]
def drill_frK18 (t : TreeV) (y : Int) (l : List Spt) : Cn := .vec 74 3 (((drillV t y l).holes).length) (Lst eH ((drillV t y l).holes))
def drill_frK19 (t : TreeV) (y : Int) (l : List Spt) : Cn := .blk 26 [.i ((drillV t y l).year), .i ((drillV t y l).glo), .i ((drillV t y l).ghi), .i ((drillV t y l).wlo), .i ((drillV t y l).whi), .i ((drillV t y l).health), .ls 9]
def drill_frH20 (t : TreeV) (y : Int) (l : List Spt) : List (Nat × Option Cn) := [(9, some (drill_frK18 t y l)), (8006, some (drill_frK19 t y l))]
set_option maxRecDepth 100000 in
theorem drill_fr (t : TreeV) (y : Int) (l : List Spt) (ht : t.holes.length ≤ 100000) (hl : l.length ≤ 100000) : CallFr Try.prog 77 [(drill_frA1 t), .i y, .ls 3] [1, 3] [some (.ro 3 t.holes.length (Lst eH t.holes)), some (.ro 2 l.length (Lst eS l))] (.tup [.agg [.i ((drillV t y l).year), .i ((drillV t y l).glo), .i ((drillV t y l).ghi), .i ((drillV t y l).wlo), .i ((drillV t y l).whi), .i ((drillV t y l).health), .ls 9], .one (.v (.bool (drillB t y l)))]) [(9, some (.vec 74 3 (((drillV t y l).holes).length) (Lst eH ((drillV t y l).holes))))] := by
 refine callFr_of (fn := Try.f77) (by kernel_rfl) rfl (by kernel_rfl) (by kernel_rfl) fun E => ?_
 refine aw_ent (T := ⟨34, [1, 3], [(0, (drill_frA1 t)), (1, .i y), (2, .ls 3)], (drill_frH3 t l)⟩) (Ent.refl _) ?_
 apply aw_seq
 refine awr [(0, .new 1003), (1, .new 1006)]
  ⟨34, [1, 3], [(1, .i y), (2, .ls 3), (3, .l (.ref 1003 0)), (6, .l (.ref 1006 0))], (drill_frH6 t l)⟩
  [] trivial ?_
 apply aw_seq
 refine awr [(2, .call [1] (.ls 10120) [(10120, some (drill_frK7 t))])]
  ⟨34, [1, 3], [(1, .i y), (2, .ls 3), (3, .l (.ref 1003 0)), (6, .l (.ref 1006 0))], (drill_frH9 l t)⟩
  [CallOK Try.prog 102 [.ls 1] [1] [some (drill_frK2 t)] (.ls 10120) [(10120, some (drill_frK7 t))]] (al1 (cfr (cloneH_fr t.holes (by omega)) [(1, 1), (2, 10120)] (dem_cons rfl (le_ro rfl el_rfl) dem_nil))) ?_
 apply aw_seq
 apply aw_seq
 refine awr []
  ⟨34, [1, 3], [(1, .i y), (3, .l (.ref 1003 0)), (6, .l (.ref 1006 0)), (14, .ls 3), (15, .i (l.length : Int)), (16, .i 0)], (drill_frH9 l t)⟩
  [] trivial ?_
 apply aw_block
 refine aw_loop (ι := Nat × List Hol) (fun zz => ⟨34, [1, 3], [(1, .i y), (3, .l (.ref 1003 0)), (6, .l (.ref 1006 0)), (14, .ls 3), (15, .i (l.length : Int)), (16, .i (zz.1 : Int))], (drill_frH11 l t zz.2)⟩) (fun zz => (zz.1 ≤ l.length) ∧ (zz.2.length = t.holes.length + zz.1) ∧ (zz.2 ++ (l.drop zz.1).map (fun s : Spt => (⟨y, s.angle, s.height⟩ : Hol)) = (drillV t y l).holes)) (fun zz => l.length - zz.1) (0, t.holes) ⟨(by (try dsimp only); first | omega | rfl | assumption | (simp; done)), (by (try dsimp only); rfl), (by (try dsimp only); rfl)⟩
     (enr [(2001, 10120)] ⟨rfl, rfl, rfl, rfl, rfl, rfl, trivial⟩ (cro rfl (cbl rfl rfl (cbl rfl rfl (cve rfl trivial))))) fun zz hp => ?_
 obtain ⟨i, o⟩ := zz
 obtain ⟨hiL, hoL, hq⟩ := hp
 dsimp only at hiL hoL hq
 show AW _ E _ _ ⟨34, [1, 3], [(1, .i y), (3, .l (.ref 1003 0)), (6, .l (.ref 1006 0)), (14, .ls 3), (15, .i (l.length : Int)), (16, .i (i : Int))], (drill_frH11 l t o)⟩
 apply aw_seq
 refine awr []
  ⟨34, [1, 3], [(1, .i y), (3, .l (.ref 1003 0)), (6, .l (.ref 1006 0)), (14, .ls 3), (15, .i (l.length : Int)), (16, .i (i : Int)), (17, .b (decide ((i : Int) < (l.length : Int))))], (drill_frH11 l t o)⟩
  [] trivial ?_
 apply aw_seq
 refine aw_cond (b := decide ((i : Int) < (l.length : Int))) rfl (fun h1 => ?_) (fun h1 => ?_)
 ·
  have h1p : (i : Int) < (l.length : Int) := dtr h1
  apply aw_skip
  apply aw_seq
  apply aw_block
  apply aw_seq
  refine awr [(0, .idx i), (2, .new 1009)]
   ⟨34, [1, 3], [(1, .i y), (3, .l (.ref 1003 0)), (6, .l (.ref 1006 0)), (9, .l (.ref 1009 0)), (14, .ls 3), (15, .i (l.length : Int)), (16, .i (i : Int))], (drill_frH13 l t i o)⟩
   [(i : Int) = (i : Int), i < l.length, i < l.length] (al2 (by omega) (al2 (by omega) (al1 (by omega)))) ?_
  refine awr [(5, .new 1025), (6, .lst 1026 (o.length + 1) (Lst eH (o ++ [(⟨y, (ix l i).angle, (ix l i).height⟩ : Hol)])))]
   ⟨34, [1, 3], [(1, .i y), (3, .l (.ref 1003 0)), (6, .l (.ref 1006 0)), (14, .ls 3), (15, .i (l.length : Int)), (16, .i (i : Int))], (drill_frH16 l t o y i)⟩
   [o.length + 1 ≤ 1000000000000, (o.length + 1) * 24 ≤ 140737488355328, AppOk 3 o.length 1 (Lst eH o) (exEl 3 [.i y, .i ((ix l i).angle), .i ((ix l i).height)]) (o.length + 1) (Lst eH (o ++ [(⟨y, (ix l i).angle, (ix l i).height⟩ : Hol)]))] (al2 (by omega) (al2 (by omega) (al1 (app_one (by first | omega | rfl | assumption) (by first | omega | rfl | assumption) (fun | 0, _ => rfl | 1, _ => rfl | 2, _ => rfl | (n + 3), h => absurd h (by omega)))))) ?_
  refine awr [(0, .num (((i + 1) : Nat) : Int))]
   ⟨34, [1, 3], [(1, .i y), (3, .l (.ref 1003 0)), (6, .l (.ref 1006 0)), (14, .ls 3), (15, .i (l.length : Int)), (16, .i (((i + 1) : Nat) : Int))], (drill_frH16 l t o y i)⟩
   [((i : Int) + 1) = (((i + 1) : Nat) : Int), -9223372036854775808 ≤ (((i + 1) : Nat) : Int) ∧ (((i + 1) : Nat) : Int) < 9223372036854775808] (al2 (by omega) (al1 (by omega))) ?_
  exact ⟨((i + 1), (o ++ [(⟨y, (ix l i).angle, (ix l i).height⟩ : Hol)])), ⟨(by (try dsimp only); first | omega | rfl | assumption | (simp; done)), (by (try dsimp only); simp; omega), (by (try dsimp only); rw [← hq, drop_ix (l := l) (i := i) (by omega)]; simp)⟩, (show l.length - (i + 1) < l.length - i by first | omega | rfl | assumption),
      (enr [(2001, 1026)] ⟨rfl, rfl, rfl, rfl, rfl, rfl, trivial⟩ (cro rfl (cbl rfl rfl (cbl rfl rfl (conts_cons rfl (le_vec (by first | rfl | omega | assumption | (simp; done) | (rw [hz]; rfl) | (rw [hz])) el_rfl) trivial)))))⟩
 ·
  have h1p : (l.length : Int) ≤ (i : Int) := dlt h1
  refine aw_exit (exit_then (exit_then (exit_in ?_)))
  apply aw_seq
  have hz : o = (drillV t y l).holes := by
   rw [List.drop_eq_nil_of_le (by omega)] at hq
   simpa using hq
  refine awd []
   ⟨34, [1, 3], [(6, .l (.ref 1006 0)), (7, .b (decide ((o.length : Int) ≤ 60)))], (drill_frH17 t o)⟩
   [] trivial ?_
  exact aw_ret ⟨.inr rfl, eok ⟨34, [1, 3], [(6, .l (.ref 8006 0)), (7, .b (drillB t y l))], (drill_frH20 t y l)⟩
      (enr [(8006, 1006), (9, 2001)] ⟨rfl, (slot_b (a := decide ((o.length : Int) ≤ 60)) rfl (by first | rfl | omega | assumption | (rw [hz]; rfl) | (rw [hz]))), trivial⟩ (conts_cons rfl (le_vec (by first | rfl | omega | assumption | (rw [hz]; rfl) | (rw [hz])) (lst_eq (by first | rfl | omega | assumption | (rw [hz]; rfl) | (rw [hz])))) (cbl rfl (by exact (cells_cons (cell_i (by first | rfl | omega | assumption | (rw [hz]; rfl) | (rw [hz]))) (cells_cons (cell_i (by first | rfl | omega | assumption | (rw [hz]; rfl) | (rw [hz]))) (cells_cons (cell_i (by first | rfl | omega | assumption | (rw [hz]; rfl) | (rw [hz]))) (cells_cons (cell_i (by first | rfl | omega | assumption | (rw [hz]; rfl) | (rw [hz]))) (cells_cons (cell_i (by first | rfl | omega | assumption | (rw [hz]; rfl) | (rw [hz]))) (cells_cons (cell_i (by first | rfl | omega | assumption | (rw [hz]; rfl) | (rw [hz]))) (cells_cons rfl rfl)))))))) trivial))) (wr_cons rfl (plain_Lst plain_eH) wr_nil)⟩
end Go.Proofs.Ytbpblhmigijkaaa
