/- Rotas, walked. -/
import Derived.Test.YtbpblhmigijkaaaTvv
import Derived.Test.YtbpblhmigijkaaaTrt
import Derived.Test.YtbpblhmigijkaaaA33
namespace Go.Proofs.Ytbpblhmigijkaaa
open Go.RowKit
set_option linter.unusedVariables false
set_option linter.unusedSimpArgs false
def rota1_frK1 (x : TrkV) : Cn := .rblk [.i x.t.year, .i x.t.glo, .i x.t.ghi, .i x.t.wlo, .i x.t.whi, .i x.t.health, .ls 5, .i x.r.slo, .i x.r.shi, .i x.r.ulo, .i x.r.uhi, .i x.r.hlo, .i x.r.hhi, .i x.r.apart, .i x.r.blo, .i x.r.bhi, .ls 6, .i x.r.n0, .i x.r.n1, .i x.r.n2, .i x.r.n3, .i x.r.n4, .i x.r.opn, .i x.year, .i x.worst.girth, .i x.worst.side, .i x.worst.up, .i x.worst.heal, .i x.best.girth, .i x.best.side, .i x.best.up, .i x.best.heal]
def rota1_frK2 (x : TrkV) : Cn := .ro 3 x.t.holes.length (Lst eH x.t.holes)
def rota1_frK3 (x : TrkV) : Cn := .ro 2 x.r.sizes.length (Lst eZ x.r.sizes)
def rota1_frH4 (x : TrkV) (m : Int) (l0 : List Spt) : List (Nat × Option Cn) := [(1, some (.rblk [.ref 4 0])), (4, some (rota1_frK1 x)), (5, some (rota1_frK2 x)), (6, some (rota1_frK3 x)), (2, some (.rblk [.i m])), (3, some (.blk 57 [.ls 7])), (7, some (.vec 72 2 l0.length (Lst eS l0)))]
def rota1_frH5 (m : Int) (x : TrkV) (l0 : List Spt) : List (Nat × Option Cn) := [(1, some (.rblk [.ref 4 0])), (2, some (.rblk [.i m])), (3, some (.blk 57 [.ls 7])), (4, some (rota1_frK1 x)), (5, some (rota1_frK2 x)), (6, some (rota1_frK3 x)), (7, some (.vec 72 2 l0.length (Lst eS l0)))]
def rota1_frK6 (x : TrkV) (e : Int) (m : Int) : Cn := .vec 72 2 ((spotsL x e m).length) (Lst eS (spotsL x e m))
def rota1_frH7 (x : TrkV) (l0 : List Spt) (e : Int) (m : Int) : List (Nat × Option Cn) := [(1, some (.rblk [.ref 4 0])), (3, some (.blk 57 [.ls 10100])), (4, some (rota1_frK1 x)), (5, some (rota1_frK2 x)), (6, some (rota1_frK3 x)), (7, some (.vec 72 2 l0.length (Lst eS l0))), (10100, some (rota1_frK6 x e m))]
def rota1_frA8 (x : TrkV) (e : Int) (m : Int) : SV := .agg [.i ((keepsV x (spotsL x e m)).at_), .i ((keepsV x (spotsL x e m)).rule)]
def rota1_frH9 (l0 : List Spt) (x : TrkV) (e : Int) (m : Int) : List (Nat × Option Cn) := [(3, some (.blk 57 [.ls 10100])), (7, some (.vec 72 2 l0.length (Lst eS l0))), (10100, some (rota1_frK6 x e m))]
set_option maxRecDepth 100000 in
theorem rota1_fr (x : TrkV) (m : Int) (e : Int) (l0 : List Spt) (hx : TrkOk x) (hm : 0 ≤ m ∧ m ≤ 20) (he : 0 ≤ e ∧ e ≤ 5000) : CallFr Try.prog 81 [.i e, .l (.ref 1 0), .l (.ref 2 0), .l (.ref 3 0)] [1, 4, 5, 6, 2, 3, 7] [some (.rblk [.ref 4 0]), some (.rblk [.i x.t.year, .i x.t.glo, .i x.t.ghi, .i x.t.wlo, .i x.t.whi, .i x.t.health, .ls 5, .i x.r.slo, .i x.r.shi, .i x.r.ulo, .i x.r.uhi, .i x.r.hlo, .i x.r.hhi, .i x.r.apart, .i x.r.blo, .i x.r.bhi, .ls 6, .i x.r.n0, .i x.r.n1, .i x.r.n2, .i x.r.n3, .i x.r.n4, .i x.r.opn, .i x.year, .i x.worst.girth, .i x.worst.side, .i x.worst.up, .i x.worst.heal, .i x.best.girth, .i x.best.side, .i x.best.up, .i x.best.heal]), some (.ro 3 x.t.holes.length (Lst eH x.t.holes)), some (.ro 2 x.r.sizes.length (Lst eZ x.r.sizes)), some (.rblk [.i m]), some (.blk 57 [.ls 7]), some (.vec 72 2 l0.length (Lst eS l0))] (.b (rotB x m e)) [(3, some (.blk 57 [.ls 8])), (7, none), (8, some (.vec 72 2 ((spotsL x e m).length) (Lst eS (spotsL x e m))))] := by
 have hsB := spotsL_B hx hm.1 he
 have hsl := spotsL_len (e := e) hx hm.1
 refine callFr_of (fn := Try.f81) (by kernel_rfl) rfl (by kernel_rfl) (by kernel_rfl) fun E => ?_
 refine aw_ent (T := ⟨21, [1, 4, 5, 6, 2, 3, 7], [(0, .i e), (1, .l (.ref 1 0)), (2, .l (.ref 2 0)), (3, .l (.ref 3 0))], (rota1_frH4 x m l0)⟩) (Ent.refl _) ?_
 apply aw_seq
 refine awr []
  ⟨21, [1, 4, 5, 6, 2, 3, 7], [(0, .i e), (1, .l (.ref 1 0)), (2, .l (.ref 2 0)), (3, .l (.ref 3 0))], (rota1_frH5 m x l0)⟩
  [] trivial ?_
 apply aw_seq
 refine awr [(3, .call [4, 5, 6] (.tup [.one (.ls 10100), .one (.v (.bool ((anglesO (nextV x e) (gapV x) m).isSome)))]) [(10100, some (rota1_frK6 x e m))])]
  ⟨21, [1, 4, 5, 6, 2, 3, 7], [(1, .l (.ref 1 0)), (3, .l (.ref 3 0)), (5, .b ((anglesO (nextV x e) (gapV x) m).isSome))], (rota1_frH7 x l0 e m)⟩
  [CallOK Try.prog 69 [.l (.ref 4 0), .i e, .i m] [4, 5, 6] [some (rota1_frK1 x), some (rota1_frK2 x), some (rota1_frK3 x)] (.tup [.one (.ls 10100), .one (.v (.bool ((anglesO (nextV x e) (gapV x) m).isSome)))]) [(10100, some (rota1_frK6 x e m))]] (al1 (cfr (spots_fr x e m (by assumption) (by omega) (by first | omega | (have := within1.1 (by simpa using (by assumption : (!(within 0 20 [m])) = false)); omega))) [(0, 4), (1, 5), (2, 6), (7, 10100)] (dem_cons rfl (le_rblk rfl) (dem_cons rfl (le_ro rfl el_rfl) (dem_cons rfl (le_ro rfl el_rfl) dem_nil))))) ?_
 apply aw_seq
 rcases Bool.eq_false_or_eq_true ((anglesO (nextV x e) (gapV x) m).isSome) with h1 | h1
 ·
  rcases Bool.eq_false_or_eq_true ((decide ((keepsV x (spotsL x e m)).at_ = (-1)) && decide ((keepsV x (spotsL x e m)).rule = 0))) with h2 | h2
  ·
   refine awr [(1, .dec true), (4, .call [4, 5, 6, 10100] ((rota1_frA8 x e m)) []), (5, .call [] (.agg [.i (-1), .i 0]) []), (6, .dec true)]
    ⟨21, [1, 4, 5, 6, 2, 3, 7], [(5, .b true)], (rota1_frH9 l0 x e m)⟩
    [(anglesO (nextV x e) (gapV x) m).isSome = true, CallOK Try.prog 76 [.l (.ref 4 0), .ls 10100] [4, 5, 6, 10100] [some (rota1_frK1 x), some (rota1_frK2 x), some (rota1_frK3 x), some (rota1_frK6 x e m)] ((rota1_frA8 x e m)) [], CallOK Try.prog 82 [] [] [] (.agg [.i (-1), .i 0]) [], BinRun Try.prog .eql 140 (.tmp 17) (.tmp 18) (.agg #[.int .i64 ((keepsV x (spotsL x e m)).at_), .int .i64 ((keepsV x (spotsL x e m)).rule)]) (.agg #[.int .i64 (-1), .int .i64 0]) (.bool true)] (al2 h1 (al2 (cfr (keeps_fr x (spotsL x e m) (by assumption) (by first | assumption) (by omega)) [(0, 4), (3, 10100), (1, 5), (2, 6)] (dem_cons rfl (le_rblk rfl) (dem_cons rfl (le_ro rfl el_rfl) (dem_cons rfl (le_ro rfl el_rfl) (dem_cons rfl (le_vec_ro rfl el_rfl) dem_nil))))) (al2 (cfr (none_fr ) [] dem_nil) (al1 (bin_eq_F ((keepsV x (spotsL x e m)).at_) ((keepsV x (spotsL x e m)).rule) (-1) 0 h2))))) ?_
   exact aw_ret ⟨.inr rfl, eok ⟨21, [1, 4, 5, 6, 2, 3, 7], [(5, .b (rotB x m e))], [(3, some (.blk 57 [.ls 8])), (8, some (rota1_frK6 x e m))]⟩
       (enr [(8, 10100)] ⟨(slot_b (a := true) rfl (by first | rfl | omega | assumption | ((unfold rotB; rw [show (anglesO (nextV x e) (gapV x) m).isSome = true by assumption, Bool.true_and]; exact (by assumption : (decide ((keepsV x (spotsL x e m)).at_ = -1) && decide ((keepsV x (spotsL x e m)).rule = 0)) = _).symm)) | ((unfold rotB; rw [show (anglesO (nextV x e) (gapV x) m).isSome = false by assumption, Bool.false_and])))), trivial⟩ (cbl rfl rfl (cve rfl trivial))) (wr_cons rfl plain_blk (wr_none (wr_cons rfl (plain_Lst plain_eS) wr_nil)))⟩
  ·
   refine awr [(1, .dec true), (4, .call [4, 5, 6, 10100] ((rota1_frA8 x e m)) []), (5, .call [] (.agg [.i (-1), .i 0]) []), (6, .dec false)]
    ⟨21, [1, 4, 5, 6, 2, 3, 7], [(5, .b false)], (rota1_frH9 l0 x e m)⟩
    [(anglesO (nextV x e) (gapV x) m).isSome = true, CallOK Try.prog 76 [.l (.ref 4 0), .ls 10100] [4, 5, 6, 10100] [some (rota1_frK1 x), some (rota1_frK2 x), some (rota1_frK3 x), some (rota1_frK6 x e m)] ((rota1_frA8 x e m)) [], CallOK Try.prog 82 [] [] [] (.agg [.i (-1), .i 0]) [], BinRun Try.prog .eql 140 (.tmp 17) (.tmp 18) (.agg #[.int .i64 ((keepsV x (spotsL x e m)).at_), .int .i64 ((keepsV x (spotsL x e m)).rule)]) (.agg #[.int .i64 (-1), .int .i64 0]) (.bool false)] (al2 h1 (al2 (cfr (keeps_fr x (spotsL x e m) (by assumption) (by first | assumption) (by omega)) [(0, 4), (3, 10100), (1, 5), (2, 6)] (dem_cons rfl (le_rblk rfl) (dem_cons rfl (le_ro rfl el_rfl) (dem_cons rfl (le_ro rfl el_rfl) (dem_cons rfl (le_vec_ro rfl el_rfl) dem_nil))))) (al2 (cfr (none_fr ) [] dem_nil) (al1 (bin_eq_F ((keepsV x (spotsL x e m)).at_) ((keepsV x (spotsL x e m)).rule) (-1) 0 h2))))) ?_
   exact aw_ret ⟨.inr rfl, eok ⟨21, [1, 4, 5, 6, 2, 3, 7], [(5, .b (rotB x m e))], [(3, some (.blk 57 [.ls 8])), (8, some (rota1_frK6 x e m))]⟩
       (enr [(8, 10100)] ⟨(slot_b (a := false) rfl (by first | rfl | omega | assumption | ((unfold rotB; rw [show (anglesO (nextV x e) (gapV x) m).isSome = true by assumption, Bool.true_and]; exact (by assumption : (decide ((keepsV x (spotsL x e m)).at_ = -1) && decide ((keepsV x (spotsL x e m)).rule = 0)) = _).symm)) | ((unfold rotB; rw [show (anglesO (nextV x e) (gapV x) m).isSome = false by assumption, Bool.false_and])))), trivial⟩ (cbl rfl rfl (cve rfl trivial))) (wr_cons rfl plain_blk (wr_none (wr_cons rfl (plain_Lst plain_eS) wr_nil)))⟩
 ·
  refine awr [(1, .dec false)]
   ⟨21, [1, 4, 5, 6, 2, 3, 7], [(5, .b false)], (rota1_frH9 l0 x e m)⟩
   [(anglesO (nextV x e) (gapV x) m).isSome = false] (al1 h1) ?_
  exact aw_ret ⟨.inr rfl, eok ⟨21, [1, 4, 5, 6, 2, 3, 7], [(5, .b (rotB x m e))], [(3, some (.blk 57 [.ls 8])), (8, some (rota1_frK6 x e m))]⟩
      (enr [(8, 10100)] ⟨(slot_b (a := false) rfl (by first | rfl | omega | assumption | ((unfold rotB; rw [show (anglesO (nextV x e) (gapV x) m).isSome = true by assumption, Bool.true_and]; exact (by assumption : (decide ((keepsV x (spotsL x e m)).at_ = -1) && decide ((keepsV x (spotsL x e m)).rule = 0)) = _).symm)) | ((unfold rotB; rw [show (anglesO (nextV x e) (gapV x) m).isSome = false by assumption, Bool.false_and])))), trivial⟩ (cbl rfl rfl (cve rfl trivial))) (wr_cons rfl plain_blk (wr_none (wr_cons rfl (plain_Lst plain_eS) wr_nil)))⟩
def rota_ixK1 (x : TrkV) : Cn := .rblk [.i x.t.year, .i x.t.glo, .i x.t.ghi, .i x.t.wlo, .i x.t.whi, .i x.t.health, .ls 5, .i x.r.slo, .i x.r.shi, .i x.r.ulo, .i x.r.uhi, .i x.r.hlo, .i x.r.hhi, .i x.r.apart, .i x.r.blo, .i x.r.bhi, .ls 6, .i x.r.n0, .i x.r.n1, .i x.r.n2, .i x.r.n3, .i x.r.n4, .i x.r.opn, .i x.year, .i x.worst.girth, .i x.worst.side, .i x.worst.up, .i x.worst.heal, .i x.best.girth, .i x.best.side, .i x.best.up, .i x.best.heal]
def rota_ixK2 (x : TrkV) : Cn := .ro 3 x.t.holes.length (Lst eH x.t.holes)
def rota_ixK3 (x : TrkV) : Cn := .ro 2 x.r.sizes.length (Lst eZ x.r.sizes)
def rota_ixK4  : Cn := .vec 72 2 (([] : List Spt).length) (Lst eS ([] : List Spt))
def rota_ixH5 (hs : List Int) (x : TrkV) (m : Int) : List (Nat × Option Cn) := [(0, some (.ro 1 hs.length (Lst eI hs))), (1, some (.rblk [.ref 4 0])), (4, some (rota_ixK1 x)), (5, some (rota_ixK2 x)), (6, some (rota_ixK3 x)), (2, some (.rblk [.i m])), (3, some (.blk 57 [.ls 7])), (7, some rota_ixK4)]
def rota_ixH6 (hs : List Int) (m : Int) (x : TrkV) : List (Nat × Option Cn) := [(0, some (.ro 1 hs.length (Lst eI hs))), (1, some (.rblk [.ref 4 0])), (2, some (.rblk [.i m])), (3, some (.blk 57 [.ls 7])), (4, some (rota_ixK1 x)), (5, some (rota_ixK2 x)), (6, some (rota_ixK3 x)), (7, some rota_ixK4)]
def rota_ixK7 (x : TrkV) (m : Int) (hs : List Int) (i : Nat) : Cn := .vec 72 2 ((lastL x m hs i).length) (Lst eS (lastL x m hs i))
def rota_ixH8 (hs : List Int) (m : Int) (x : TrkV) (i : Nat) : List (Nat × Option Cn) := [(0, some (.ro 1 hs.length (Lst eI hs))), (1, some (.rblk [.ref 4 0])), (2, some (.rblk [.i m])), (3, some (.blk 57 [.ls 2001])), (4, some (rota_ixK1 x)), (5, some (rota_ixK2 x)), (6, some (rota_ixK3 x)), (2001, some (rota_ixK7 x m hs i))]
def rota_ixK9 (x : TrkV) (hs : List Int) (i : Nat) (m : Int) : Cn := .vec 72 2 ((spotsL x (ix hs i) m).length) (Lst eS (spotsL x (ix hs i) m))
def rota_ixH10 (hs : List Int) (m : Int) (x : TrkV) (i : Nat) : List (Nat × Option Cn) := [(0, some (.ro 1 hs.length (Lst eI hs))), (1, some (.rblk [.ref 4 0])), (2, some (.rblk [.i m])), (3, some (.blk 57 [.ls 10160])), (4, some (rota_ixK1 x)), (5, some (rota_ixK2 x)), (6, some (rota_ixK3 x)), (10160, some (rota_ixK9 x hs i m))]
def rota_ixH11 (x : TrkV) (hs : List Int) (i : Nat) (m : Int) : List (Nat × Option Cn) := [(3, some (.blk 57 [.ls 10160])), (10160, some (rota_ixK9 x hs i m))]
def rota_ixK12 (x : TrkV) (m : Int) (hs : List Int) : Cn := .vec 72 2 ((foundL x m hs).length) (Lst eS (foundL x m hs))
def rota_ixH13 (x : TrkV) (m : Int) (hs : List Int) (i : Nat) : List (Nat × Option Cn) := [(3, some (.blk 57 [.ls 2001])), (2001, some (rota_ixK7 x m hs i))]
set_option maxRecDepth 100000 in
theorem rota_ix (x : TrkV) (m : Int) (hs : List Int) (hx : TrkOk x) (hm : 0 ≤ m ∧ m ≤ 20) (hh : ∀ e, e ∈ hs → 0 ≤ e ∧ e ≤ 5000) (hl : hs.length ≤ 1000) : CallFr Try.prog 103 [.ls 0, .l (.fnc (.func 81) [1, 2, 3])] [0, 1, 4, 5, 6, 2, 3, 7] [some (.ro 1 hs.length (Lst eI hs)), some (.rblk [.ref 4 0]), some (.rblk [.i x.t.year, .i x.t.glo, .i x.t.ghi, .i x.t.wlo, .i x.t.whi, .i x.t.health, .ls 5, .i x.r.slo, .i x.r.shi, .i x.r.ulo, .i x.r.uhi, .i x.r.hlo, .i x.r.hhi, .i x.r.apart, .i x.r.blo, .i x.r.bhi, .ls 6, .i x.r.n0, .i x.r.n1, .i x.r.n2, .i x.r.n3, .i x.r.n4, .i x.r.opn, .i x.year, .i x.worst.girth, .i x.worst.side, .i x.worst.up, .i x.worst.heal, .i x.best.girth, .i x.best.side, .i x.best.up, .i x.best.heal]), some (.ro 3 x.t.holes.length (Lst eH x.t.holes)), some (.ro 2 x.r.sizes.length (Lst eZ x.r.sizes)), some (.rblk [.i m]), some (.blk 57 [.ls 7]), some (.vec 72 2 (([] : List Spt).length) (Lst eS ([] : List Spt)))] (.i (findI (rotB x m) hs)) [(3, some (.blk 57 [.ls 8])), (7, none), (8, some (.vec 72 2 ((foundL x m hs).length) (Lst eS (foundL x m hs))))] := by
 refine callFr_of (fn := Try.f103) (by kernel_rfl) rfl (by kernel_rfl) (by kernel_rfl) fun E => ?_
 refine aw_ent (T := ⟨19, [0, 1, 4, 5, 6, 2, 3, 7], [(0, .ls 0), (1, .l (.fnc (.func 81) [1, 2, 3]))], (rota_ixH5 hs x m)⟩) (Ent.refl _) ?_
 apply aw_seq
 refine awr []
  ⟨19, [0, 1, 4, 5, 6, 2, 3, 7], [(0, .ls 0), (1, .l (.fnc (.func 81) [1, 2, 3]))], (rota_ixH6 hs m x)⟩
  [] trivial ?_
 apply aw_seq
 apply aw_seq
 refine awr []
  ⟨19, [0, 1, 4, 5, 6, 2, 3, 7], [(0, .ls 0), (1, .l (.fnc (.func 81) [1, 2, 3])), (7, .i (hs.length : Int)), (8, .i 0)], (rota_ixH6 hs m x)⟩
  [] trivial ?_
 apply aw_block
 refine aw_loop (ι := Nat) (fun zz => ⟨19, [0, 1, 4, 5, 6, 2, 3, 7], [(0, .ls 0), (1, .l (.fnc (.func 81) [1, 2, 3])), (7, .i (hs.length : Int)), (8, .i (zz : Int))], (rota_ixH8 hs m x zz)⟩) (fun zz => (zz ≤ hs.length) ∧ (∀ j, j < zz → rotB x m (ix hs j) = false)) (fun zz => hs.length - zz) 0 ⟨(by first | omega | rfl | assumption | (simp; done)), (by intro j hj; omega)⟩
     (enr [(2001, 7)] ⟨rfl, rfl, rfl, rfl, trivial⟩ (cro rfl (crr rfl rfl (crr rfl rfl (cbl rfl rfl (crr rfl rfl (cro rfl (cro rfl (conts_cons rfl (le_vec (by first | rfl | omega | assumption | (rfl)) (lst_eq (by first | rfl | omega | assumption | (rfl)))) trivial))))))))) fun zz hp => ?_
 obtain ⟨i, rfl⟩ : ∃ x, x = zz := ⟨_, rfl⟩
 obtain ⟨hiL, hp⟩ := hp
 show AW _ E _ _ ⟨19, [0, 1, 4, 5, 6, 2, 3, 7], [(0, .ls 0), (1, .l (.fnc (.func 81) [1, 2, 3])), (7, .i (hs.length : Int)), (8, .i (i : Int))], (rota_ixH8 hs m x i)⟩
 apply aw_seq
 refine awr []
  ⟨19, [0, 1, 4, 5, 6, 2, 3, 7], [(0, .ls 0), (1, .l (.fnc (.func 81) [1, 2, 3])), (7, .i (hs.length : Int)), (8, .i (i : Int)), (9, .b (decide ((i : Int) < (hs.length : Int))))], (rota_ixH8 hs m x i)⟩
  [] trivial ?_
 apply aw_seq
 refine aw_cond (b := decide ((i : Int) < (hs.length : Int))) rfl (fun h1 => ?_) (fun h1 => ?_)
 ·
  have h1p : (i : Int) < (hs.length : Int) := dtr h1
  apply aw_skip
  apply aw_seq
  apply aw_block
  apply aw_seq
  refine awr []
   ⟨19, [0, 1, 4, 5, 6, 2, 3, 7], [(0, .ls 0), (1, .l (.fnc (.func 81) [1, 2, 3])), (5, .i (i : Int)), (7, .i (hs.length : Int)), (8, .i (i : Int))], (rota_ixH8 hs m x i)⟩
   [] trivial ?_
  apply aw_seq
  refine awr [(3, .idx i), (5, .act [1, 4, 5, 6, 2, 3, 2001] (.b (rotB x m (ix hs i))) [(3, some (.blk 57 [.ls 10160])), (2001, none), (10160, some (rota_ixK9 x hs i m))])]
   ⟨19, [0, 1, 4, 5, 6, 2, 3, 7], [(0, .ls 0), (1, .l (.fnc (.func 81) [1, 2, 3])), (5, .i (i : Int)), (7, .i (hs.length : Int)), (8, .i (i : Int)), (16, .b (rotB x m (ix hs i)))], (rota_ixH10 hs m x i)⟩
   [(i : Int) = (i : Int), i < hs.length, i < hs.length, ActOK Try.prog (.call ⟨.value (.tmp 11), #[(.tmp 15)], #[3]⟩) 4 [.l (.fnc (.func 81) [1, 2, 3]), .i (ix hs i)] [1, 4, 5, 6, 2, 3, 2001] [some (.rblk [.ref 4 0]), some (rota_ixK1 x), some (rota_ixK2 x), some (rota_ixK3 x), some (.rblk [.i m]), some (.blk 57 [.ls 2001]), some (rota_ixK7 x m hs i)] (.b (rotB x m (ix hs i))) [(3, some (.blk 57 [.ls 10160])), (2001, none), (10160, some (rota_ixK9 x hs i m))]] (al2 (by omega) (al2 (by omega) (al2 (by omega) (al1 (act_callv (by kernel_rfl) (by kernel_rfl) (cfr (rota1_fr x m (ix hs i) (lastL x m hs i) (by assumption) (by omega) (by first | omega | exact hh _ (ix_mem (by omega)))) [(1, 1), (2, 2), (3, 3), (4, 4), (5, 5), (6, 6), (7, 2001), (8, 10160)] (dem_cons rfl (le_rblk rfl) (dem_cons rfl (le_rblk rfl) (dem_cons rfl (le_ro rfl el_rfl) (dem_cons rfl (le_ro rfl el_rfl) (dem_cons rfl (le_rblk rfl) (dem_cons rfl (le_blk rfl) (dem_cons rfl (le_vec rfl el_rfl) dem_nil))))))))))))) ?_
  refine aw_cond (b := (rotB x m (ix hs i))) rfl (fun h2 => ?_) (fun h2 => ?_)
  ·
   apply aw_seq
   refine awr []
    ⟨19, [0, 1, 4, 5, 6, 2, 3, 7], [(4, .i (i : Int))], (rota_ixH11 x hs i m)⟩
    [] trivial ?_
   exact aw_ret (ret_block (ret_then (ret_then (ret_block (ret_then ⟨.inr rfl, eok ⟨19, [0, 1, 4, 5, 6, 2, 3, 7], [(4, .i (findI (rotB x m) hs))], [(3, some (.blk 57 [.ls 8])), (8, some (rota_ixK12 x m hs))]⟩
       (enr [(8, 10160)] ⟨(slot_i rfl (by first | rfl | omega | assumption | (exact findI_at hp (by omega) (by assumption)) | (exact findI_no hp (by omega)) | ((rw [found_at hp (by omega) (by assumption)])) | ((rw [found_no hp (by omega) (by omega)])))), trivial⟩ (cbl rfl rfl (conts_cons rfl (le_vec (by first | rfl | omega | assumption | (exact findI_at hp (by omega) (by assumption)) | (exact findI_no hp (by omega)) | ((rw [found_at hp (by omega) (by assumption)])) | ((rw [found_no hp (by omega) (by omega)]))) (lst_eq (by first | rfl | omega | assumption | (exact findI_at hp (by omega) (by assumption)) | (exact findI_no hp (by omega)) | ((rw [found_at hp (by omega) (by assumption)])) | ((rw [found_no hp (by omega) (by omega)]))))) trivial))) (wr_cons rfl plain_blk (wr_none (wr_cons rfl (plain_Lst plain_eS) wr_nil)))⟩)))))
  ·
   apply aw_skip
   refine awr [(0, .num (((i + 1) : Nat) : Int))]
    ⟨19, [0, 1, 4, 5, 6, 2, 3, 7], [(0, .ls 0), (1, .l (.fnc (.func 81) [1, 2, 3])), (7, .i (hs.length : Int)), (8, .i (((i + 1) : Nat) : Int))], (rota_ixH10 hs m x i)⟩
    [((i : Int) + 1) = (((i + 1) : Nat) : Int), -9223372036854775808 ≤ (((i + 1) : Nat) : Int) ∧ (((i + 1) : Nat) : Int) < 9223372036854775808] (al2 (by omega) (al1 (by omega))) ?_
   exact ⟨(i + 1), ⟨(by first | omega | rfl | assumption | (simp; done)), (by exact all_snoc hp (by assumption))⟩, (show hs.length - (i + 1) < hs.length - i by first | omega | rfl | assumption),
       (enr [(2001, 10160)] ⟨rfl, rfl, rfl, rfl, trivial⟩ (cro rfl (crr rfl rfl (crr rfl rfl (cbl rfl rfl (crr rfl rfl (cro rfl (cro rfl (conts_cons rfl (le_vec (by first | rfl | omega | assumption | ((rw [last_next]))) (lst_eq (by first | rfl | omega | assumption | ((rw [last_next]))))) trivial)))))))))⟩
 ·
  have h1p : (hs.length : Int) ≤ (i : Int) := dlt h1
  refine aw_exit (exit_then (exit_then (exit_in ?_)))
  apply aw_seq
  refine awr []
   ⟨19, [0, 1, 4, 5, 6, 2, 3, 7], [(4, .i (-1))], (rota_ixH13 x m hs i)⟩
   [] trivial ?_
  exact aw_ret ⟨.inr rfl, eok ⟨19, [0, 1, 4, 5, 6, 2, 3, 7], [(4, .i (findI (rotB x m) hs))], [(3, some (.blk 57 [.ls 8])), (8, some (rota_ixK12 x m hs))]⟩
      (enr [(8, 2001)] ⟨(slot_i rfl (by first | rfl | omega | assumption | (exact findI_at hp (by omega) (by assumption)) | (exact findI_no hp (by omega)) | ((rw [found_at hp (by omega) (by assumption)])) | ((rw [found_no hp (by omega) (by omega)])))), trivial⟩ (cbl rfl rfl (conts_cons rfl (le_vec (by first | rfl | omega | assumption | (exact findI_at hp (by omega) (by assumption)) | (exact findI_no hp (by omega)) | ((rw [found_at hp (by omega) (by assumption)])) | ((rw [found_no hp (by omega) (by omega)]))) (lst_eq (by first | rfl | omega | assumption | (exact findI_at hp (by omega) (by assumption)) | (exact findI_no hp (by omega)) | ((rw [found_at hp (by omega) (by assumption)])) | ((rw [found_no hp (by omega) (by omega)]))))) trivial))) (wr_cons rfl plain_blk (wr_none (wr_cons rfl (plain_Lst plain_eS) wr_nil)))⟩
def rota_anyK1 (x : TrkV) : Cn := .rblk [.i x.t.year, .i x.t.glo, .i x.t.ghi, .i x.t.wlo, .i x.t.whi, .i x.t.health, .ls 5, .i x.r.slo, .i x.r.shi, .i x.r.ulo, .i x.r.uhi, .i x.r.hlo, .i x.r.hhi, .i x.r.apart, .i x.r.blo, .i x.r.bhi, .ls 6, .i x.r.n0, .i x.r.n1, .i x.r.n2, .i x.r.n3, .i x.r.n4, .i x.r.opn, .i x.year, .i x.worst.girth, .i x.worst.side, .i x.worst.up, .i x.worst.heal, .i x.best.girth, .i x.best.side, .i x.best.up, .i x.best.heal]
def rota_anyK2 (x : TrkV) : Cn := .ro 3 x.t.holes.length (Lst eH x.t.holes)
def rota_anyK3 (x : TrkV) : Cn := .ro 2 x.r.sizes.length (Lst eZ x.r.sizes)
def rota_anyK4  : Cn := .vec 72 2 (([] : List Spt).length) (Lst eS ([] : List Spt))
def rota_anyH5 (hs : List Int) (x : TrkV) (m : Int) : List (Nat × Option Cn) := [(0, some (.ro 1 hs.length (Lst eI hs))), (1, some (.rblk [.ref 4 0])), (4, some (rota_anyK1 x)), (5, some (rota_anyK2 x)), (6, some (rota_anyK3 x)), (2, some (.rblk [.i m])), (3, some (.blk 57 [.ls 7])), (7, some rota_anyK4)]
def rota_anyH6 (hs : List Int) (m : Int) (x : TrkV) : List (Nat × Option Cn) := [(0, some (.ro 1 hs.length (Lst eI hs))), (1, some (.rblk [.ref 4 0])), (2, some (.rblk [.i m])), (3, some (.blk 57 [.ls 7])), (4, some (rota_anyK1 x)), (5, some (rota_anyK2 x)), (6, some (rota_anyK3 x)), (7, some rota_anyK4)]
def rota_anyK7 (x : TrkV) (m : Int) (hs : List Int) : Cn := .vec 72 2 ((foundL x m hs).length) (Lst eS (foundL x m hs))
def rota_anyH8 (x : TrkV) (m : Int) (hs : List Int) : List (Nat × Option Cn) := [(3, some (.blk 57 [.ls 10070])), (10070, some (rota_anyK7 x m hs))]
set_option maxRecDepth 100000 in
theorem rota_any (x : TrkV) (m : Int) (hs : List Int) (hx : TrkOk x) (hm : 0 ≤ m ∧ m ≤ 20) (hh : ∀ e, e ∈ hs → 0 ≤ e ∧ e ≤ 5000) (hl : hs.length ≤ 1000) : CallFr Try.prog 80 [.ls 0, .l (.fnc (.func 81) [1, 2, 3])] [0, 1, 4, 5, 6, 2, 3, 7] [some (.ro 1 hs.length (Lst eI hs)), some (.rblk [.ref 4 0]), some (.rblk [.i x.t.year, .i x.t.glo, .i x.t.ghi, .i x.t.wlo, .i x.t.whi, .i x.t.health, .ls 5, .i x.r.slo, .i x.r.shi, .i x.r.ulo, .i x.r.uhi, .i x.r.hlo, .i x.r.hhi, .i x.r.apart, .i x.r.blo, .i x.r.bhi, .ls 6, .i x.r.n0, .i x.r.n1, .i x.r.n2, .i x.r.n3, .i x.r.n4, .i x.r.opn, .i x.year, .i x.worst.girth, .i x.worst.side, .i x.worst.up, .i x.worst.heal, .i x.best.girth, .i x.best.side, .i x.best.up, .i x.best.heal]), some (.ro 3 x.t.holes.length (Lst eH x.t.holes)), some (.ro 2 x.r.sizes.length (Lst eZ x.r.sizes)), some (.rblk [.i m]), some (.blk 57 [.ls 7]), some (.vec 72 2 (([] : List Spt).length) (Lst eS ([] : List Spt)))] (.b (hs.any (rotB x m))) [(3, some (.blk 57 [.ls 8])), (7, none), (8, some (.vec 72 2 ((foundL x m hs).length) (Lst eS (foundL x m hs))))] := by
 refine callFr_of (fn := Try.f80) (by kernel_rfl) rfl (by kernel_rfl) (by kernel_rfl) fun E => ?_
 refine aw_ent (T := ⟨9, [0, 1, 4, 5, 6, 2, 3, 7], [(0, .ls 0), (1, .l (.fnc (.func 81) [1, 2, 3]))], (rota_anyH5 hs x m)⟩) (Ent.refl _) ?_
 apply aw_seq
 refine awr []
  ⟨9, [0, 1, 4, 5, 6, 2, 3, 7], [(0, .ls 0), (1, .l (.fnc (.func 81) [1, 2, 3]))], (rota_anyH6 hs m x)⟩
  [] trivial ?_
 apply aw_seq
 refine awr [(2, .call [0, 1, 4, 5, 6, 2, 3, 7] (.i (findI (rotB x m) hs)) [(3, some (.blk 57 [.ls 10070])), (7, none), (10070, some (rota_anyK7 x m hs))])]
  ⟨9, [0, 1, 4, 5, 6, 2, 3, 7], [(4, .b (decide (0 ≤ (findI (rotB x m) hs))))], (rota_anyH8 x m hs)⟩
  [CallOK Try.prog 103 [.ls 0, .l (.fnc (.func 81) [1, 2, 3])] [0, 1, 4, 5, 6, 2, 3, 7] [some (.ro 1 hs.length (Lst eI hs)), some (.rblk [.ref 4 0]), some (rota_anyK1 x), some (rota_anyK2 x), some (rota_anyK3 x), some (.rblk [.i m]), some (.blk 57 [.ls 7]), some rota_anyK4] (.i (findI (rotB x m) hs)) [(3, some (.blk 57 [.ls 10070])), (7, none), (10070, some (rota_anyK7 x m hs))]] (al1 (cfr (rota_ix x m hs (by assumption) (by omega) (by assumption) (by omega)) [(0, 0), (1, 1), (2, 2), (3, 3), (4, 4), (5, 5), (6, 6), (7, 7), (8, 10070)] (dem_cons rfl (le_ro rfl el_rfl) (dem_cons rfl (le_rblk rfl) (dem_cons rfl (le_rblk rfl) (dem_cons rfl (le_ro rfl el_rfl) (dem_cons rfl (le_ro rfl el_rfl) (dem_cons rfl (le_rblk rfl) (dem_cons rfl (le_blk rfl) (dem_cons rfl (le_vec rfl el_rfl) dem_nil)))))))))) ?_
 exact aw_ret ⟨.inr rfl, eok ⟨9, [0, 1, 4, 5, 6, 2, 3, 7], [(4, .b (hs.any (rotB x m)))], [(3, some (.blk 57 [.ls 8])), (8, some (rota_anyK7 x m hs))]⟩
     (enr [(8, 10070)] ⟨(slot_b (a := decide (0 ≤ (findI (rotB x m) hs))) rfl (by first | rfl | omega | assumption | (exact findI_any))), trivial⟩ (cbl rfl rfl (cve rfl trivial))) (wr_cons rfl plain_blk (wr_none (wr_cons rfl (plain_Lst plain_eS) wr_nil)))⟩
def Rota_frA1 (t : TreeV) : SV := .agg [.i t.year, .i t.glo, .i t.ghi, .i t.wlo, .i t.whi, .i t.health, .ls 1]
def Rota_frA2 (r : RuleV) : SV := .agg [.i r.slo, .i r.shi, .i r.ulo, .i r.uhi, .i r.hlo, .i r.hhi, .i r.apart, .i r.blo, .i r.bhi, .ls 2, .i r.n0, .i r.n1, .i r.n2, .i r.n3, .i r.n4, .i r.opn]
def Rota_frK3 (t : TreeV) : Cn := .vec 74 3 t.holes.length (Lst eH t.holes)
def Rota_frK4 (r : RuleV) : Cn := .vec 45 2 r.sizes.length (Lst eZ r.sizes)
def Rota_frH5 (t : TreeV) (r : RuleV) (hs : List Int) : List (Nat × Option Cn) := [(1, some (Rota_frK3 t)), (2, some (Rota_frK4 r)), (3, some (.vec 3 1 hs.length (Lst eI hs)))]
def Rota_frK6 (t : TreeV) : Cn := .blk 26 [.i t.year, .i t.glo, .i t.ghi, .i t.wlo, .i t.whi, .i t.health, .ls 1]
def Rota_frK7 (r : RuleV) : Cn := .blk 30 [.i r.slo, .i r.shi, .i r.ulo, .i r.uhi, .i r.hlo, .i r.hhi, .i r.apart, .i r.blo, .i r.bhi, .ls 2, .i r.n0, .i r.n1, .i r.n2, .i r.n3, .i r.n4, .i r.opn]
def Rota_frH8 (t : TreeV) (r : RuleV) (hs : List Int) (m : Int) : List (Nat × Option Cn) := [(1, some (Rota_frK3 t)), (2, some (Rota_frK4 r)), (3, some (.vec 3 1 hs.length (Lst eI hs))), (1006, some (Rota_frK6 t)), (1007, some (Rota_frK7 r)), (1009, some (.blk 3 [.i m]))]
def Rota_frK9 (t : TreeV) : Cn := .ro 3 t.holes.length (Lst eH t.holes)
def Rota_frK10 (r : RuleV) : Cn := .ro 2 r.sizes.length (Lst eZ r.sizes)
def Rota_frH11 (t : TreeV) (r : RuleV) (hs : List Int) (m : Int) : List (Nat × Option Cn) := [(1, some (Rota_frK9 t)), (2, some (Rota_frK10 r)), (3, some (.ro 1 hs.length (Lst eI hs))), (1006, some (Rota_frK6 t)), (1007, some (Rota_frK7 r)), (1009, some (.blk 3 [.i m]))]
def Rota_frK12 (t : TreeV) (r : RuleV) (y : Int) : Cn := .blk 123 [.i ((openV t r y).t.year), .i ((openV t r y).t.glo), .i ((openV t r y).t.ghi), .i ((openV t r y).t.wlo), .i ((openV t r y).t.whi), .i ((openV t r y).t.health), .ls 1, .i ((openV t r y).r.slo), .i ((openV t r y).r.shi), .i ((openV t r y).r.ulo), .i ((openV t r y).r.uhi), .i ((openV t r y).r.hlo), .i ((openV t r y).r.hhi), .i ((openV t r y).r.apart), .i ((openV t r y).r.blo), .i ((openV t r y).r.bhi), .ls 2, .i ((openV t r y).r.n0), .i ((openV t r y).r.n1), .i ((openV t r y).r.n2), .i ((openV t r y).r.n3), .i ((openV t r y).r.n4), .i ((openV t r y).r.opn), .i ((openV t r y).year), .i ((openV t r y).worst.girth), .i ((openV t r y).worst.side), .i ((openV t r y).worst.up), .i ((openV t r y).worst.heal), .i ((openV t r y).best.girth), .i ((openV t r y).best.side), .i ((openV t r y).best.up), .i ((openV t r y).best.heal)]
def Rota_frH13 (t : TreeV) (r : RuleV) (hs : List Int) (m : Int) (y : Int) : List (Nat × Option Cn) := [(1, some (Rota_frK9 t)), (2, some (Rota_frK10 r)), (3, some (.ro 1 hs.length (Lst eI hs))), (1006, some (Rota_frK6 t)), (1009, some (.blk 3 [.i m])), (1015, some (.blk 116 [.ref 10230 0])), (10230, some (Rota_frK12 t r y))]
def Rota_frK14 (t : TreeV) (r : RuleV) (y : Int) (m : Int) (hs : List Int) (ys : Int) : Cn := .vec 57 1 (((rotR t r y m hs ys).1).length) (LstL 2 eS ((rotR t r y m hs ys).1))
def Rota_frK15 (t : TreeV) (r : RuleV) (y : Int) : Cn := .blk 123 [.i ((openV t r y).t.year), .i ((openV t r y).t.glo), .i ((openV t r y).t.ghi), .i ((openV t r y).t.wlo), .i ((openV t r y).t.whi), .i ((openV t r y).t.health), .ls 2003, .i ((openV t r y).r.slo), .i ((openV t r y).r.shi), .i ((openV t r y).r.ulo), .i ((openV t r y).r.uhi), .i ((openV t r y).r.hlo), .i ((openV t r y).r.hhi), .i ((openV t r y).r.apart), .i ((openV t r y).r.blo), .i ((openV t r y).r.bhi), .ls 2, .i ((openV t r y).r.n0), .i ((openV t r y).r.n1), .i ((openV t r y).r.n2), .i ((openV t r y).r.n3), .i ((openV t r y).r.n4), .i ((openV t r y).r.opn), .i ((openV t r y).year), .i ((openV t r y).worst.girth), .i ((openV t r y).worst.side), .i ((openV t r y).worst.up), .i ((openV t r y).worst.heal), .i ((openV t r y).best.girth), .i ((openV t r y).best.side), .i ((openV t r y).best.up), .i ((openV t r y).best.heal)]
def Rota_frH16 (t : TreeV) (r : RuleV) (hs : List Int) (m : Int) (y : Int) : List (Nat × Option Cn) := [(1, some (Rota_frK9 t)), (2, some (Rota_frK10 r)), (3, some (.ro 1 hs.length (Lst eI hs))), (1006, some (Rota_frK6 t)), (1009, some (.blk 3 [.i m])), (1015, some (.blk 116 [.ref 10230 0])), (10230, some (Rota_frK15 t r y)), (2003, some (Rota_frK9 t))]
def Rota_frH17 (t : TreeV) (r : RuleV) (hs : List Int) (m : Int) (y : Int) : List (Nat × Option Cn) := [(1, some (Rota_frK9 t)), (2, some (Rota_frK10 r)), (3, some (.ro 1 hs.length (Lst eI hs))), (1006, some (Rota_frK6 t)), (1009, some (.blk 3 [.i m])), (1015, some (.blk 116 [.ref 10230 0])), (2003, some (Rota_frK9 t)), (10230, some (Rota_frK15 t r y))]
def Rota_frK18 (tt : TreeV) : Cn := .blk 26 [.i tt.year, .i tt.glo, .i tt.ghi, .i tt.wlo, .i tt.whi, .i tt.health, .ls 2001]
def Rota_frK19 (tt : TreeV) : Cn := .ro 3 tt.holes.length (Lst eH tt.holes)
def Rota_frK20 (t2 : TreeV) (r : RuleV) (y2 : Int) : Cn := .rblk [.i ((openV t2 r y2).t.year), .i ((openV t2 r y2).t.glo), .i ((openV t2 r y2).t.ghi), .i ((openV t2 r y2).t.wlo), .i ((openV t2 r y2).t.whi), .i ((openV t2 r y2).t.health), .ls 2003, .i ((openV t2 r y2).r.slo), .i ((openV t2 r y2).r.shi), .i ((openV t2 r y2).r.ulo), .i ((openV t2 r y2).r.uhi), .i ((openV t2 r y2).r.hlo), .i ((openV t2 r y2).r.hhi), .i ((openV t2 r y2).r.apart), .i ((openV t2 r y2).r.blo), .i ((openV t2 r y2).r.bhi), .ls 2, .i ((openV t2 r y2).r.n0), .i ((openV t2 r y2).r.n1), .i ((openV t2 r y2).r.n2), .i ((openV t2 r y2).r.n3), .i ((openV t2 r y2).r.n4), .i ((openV t2 r y2).r.opn), .i ((openV t2 r y2).year), .i ((openV t2 r y2).worst.girth), .i ((openV t2 r y2).worst.side), .i ((openV t2 r y2).worst.up), .i ((openV t2 r y2).worst.heal), .i ((openV t2 r y2).best.girth), .i ((openV t2 r y2).best.side), .i ((openV t2 r y2).best.up), .i ((openV t2 r y2).best.heal)]
def Rota_frK21 (t2 : TreeV) : Cn := .ro 3 t2.holes.length (Lst eH t2.holes)
def Rota_frK22 (pl : List (List Spt)) : Cn := .vec 57 1 pl.length (LstL 2 eS pl)
def Rota_frH23 (r : RuleV) (hs : List Int) (tt : TreeV) (m : Int) (t2 : TreeV) (y2 : Int) (pl : List (List Spt)) : List (Nat × Option Cn) := [(2, some (Rota_frK10 r)), (3, some (.ro 1 hs.length (Lst eI hs))), (1006, some (Rota_frK18 tt)), (1009, some (.blk 3 [.i m])), (1015, some (.blk 116 [.ref 2002 0])), (2001, some (Rota_frK19 tt)), (2002, some (Rota_frK20 t2 r y2)), (2003, some (Rota_frK21 t2)), (2005, some (Rota_frK22 pl))]
def Rota_frK24 (tt : TreeV) (t2 : TreeV) (r : RuleV) (y2 : Int) (y : Int) (i : Nat) : Cn := .blk 123 [.i ((openV tt (openV t2 r y2).r (y + (i : Int))).t.year), .i ((openV tt (openV t2 r y2).r (y + (i : Int))).t.glo), .i ((openV tt (openV t2 r y2).r (y + (i : Int))).t.ghi), .i ((openV tt (openV t2 r y2).r (y + (i : Int))).t.wlo), .i ((openV tt (openV t2 r y2).r (y + (i : Int))).t.whi), .i ((openV tt (openV t2 r y2).r (y + (i : Int))).t.health), .ls 2001, .i ((openV tt (openV t2 r y2).r (y + (i : Int))).r.slo), .i ((openV tt (openV t2 r y2).r (y + (i : Int))).r.shi), .i ((openV tt (openV t2 r y2).r (y + (i : Int))).r.ulo), .i ((openV tt (openV t2 r y2).r (y + (i : Int))).r.uhi), .i ((openV tt (openV t2 r y2).r (y + (i : Int))).r.hlo), .i ((openV tt (openV t2 r y2).r (y + (i : Int))).r.hhi), .i ((openV tt (openV t2 r y2).r (y + (i : Int))).r.apart), .i ((openV tt (openV t2 r y2).r (y + (i : Int))).r.blo), .i ((openV tt (openV t2 r y2).r (y + (i : Int))).r.bhi), .ls 2, .i ((openV tt (openV t2 r y2).r (y + (i : Int))).r.n0), .i ((openV tt (openV t2 r y2).r (y + (i : Int))).r.n1), .i ((openV tt (openV t2 r y2).r (y + (i : Int))).r.n2), .i ((openV tt (openV t2 r y2).r (y + (i : Int))).r.n3), .i ((openV tt (openV t2 r y2).r (y + (i : Int))).r.n4), .i ((openV tt (openV t2 r y2).r (y + (i : Int))).r.opn), .i ((openV tt (openV t2 r y2).r (y + (i : Int))).year), .i ((openV tt (openV t2 r y2).r (y + (i : Int))).worst.girth), .i ((openV tt (openV t2 r y2).r (y + (i : Int))).worst.side), .i ((openV tt (openV t2 r y2).r (y + (i : Int))).worst.up), .i ((openV tt (openV t2 r y2).r (y + (i : Int))).worst.heal), .i ((openV tt (openV t2 r y2).r (y + (i : Int))).best.girth), .i ((openV tt (openV t2 r y2).r (y + (i : Int))).best.side), .i ((openV tt (openV t2 r y2).r (y + (i : Int))).best.up), .i ((openV tt (openV t2 r y2).r (y + (i : Int))).best.heal)]
def Rota_frA25 (tt : TreeV) : SV := .agg [.i tt.year, .i tt.glo, .i tt.ghi, .i tt.wlo, .i tt.whi, .i tt.health, .ls 2001]
def Rota_frH26 (r : RuleV) (hs : List Int) (tt : TreeV) (m : Int) (pl : List (List Spt)) (t2 : TreeV) (y2 : Int) (y : Int) (i : Nat) : List (Nat × Option Cn) := [(2, some (Rota_frK10 r)), (3, some (.ro 1 hs.length (Lst eI hs))), (1006, some (Rota_frK18 tt)), (1009, some (.blk 3 [.i m])), (1015, some (.blk 116 [.ref 10680 0])), (2001, some (Rota_frK19 tt)), (2005, some (Rota_frK22 pl)), (10680, some (Rota_frK24 tt t2 r y2 y i))]
def Rota_frK27 (tt : TreeV) (r : RuleV) (y : Int) (i : Nat) : Cn := .blk 123 [.i ((openV tt r (y + (i : Int))).t.year), .i ((openV tt r (y + (i : Int))).t.glo), .i ((openV tt r (y + (i : Int))).t.ghi), .i ((openV tt r (y + (i : Int))).t.wlo), .i ((openV tt r (y + (i : Int))).t.whi), .i ((openV tt r (y + (i : Int))).t.health), .ls 2001, .i ((openV tt r (y + (i : Int))).r.slo), .i ((openV tt r (y + (i : Int))).r.shi), .i ((openV tt r (y + (i : Int))).r.ulo), .i ((openV tt r (y + (i : Int))).r.uhi), .i ((openV tt r (y + (i : Int))).r.hlo), .i ((openV tt r (y + (i : Int))).r.hhi), .i ((openV tt r (y + (i : Int))).r.apart), .i ((openV tt r (y + (i : Int))).r.blo), .i ((openV tt r (y + (i : Int))).r.bhi), .ls 2, .i ((openV tt r (y + (i : Int))).r.n0), .i ((openV tt r (y + (i : Int))).r.n1), .i ((openV tt r (y + (i : Int))).r.n2), .i ((openV tt r (y + (i : Int))).r.n3), .i ((openV tt r (y + (i : Int))).r.n4), .i ((openV tt r (y + (i : Int))).r.opn), .i ((openV tt r (y + (i : Int))).year), .i ((openV tt r (y + (i : Int))).worst.girth), .i ((openV tt r (y + (i : Int))).worst.side), .i ((openV tt r (y + (i : Int))).worst.up), .i ((openV tt r (y + (i : Int))).worst.heal), .i ((openV tt r (y + (i : Int))).best.girth), .i ((openV tt r (y + (i : Int))).best.side), .i ((openV tt r (y + (i : Int))).best.up), .i ((openV tt r (y + (i : Int))).best.heal)]
def Rota_frH28 (r : RuleV) (hs : List Int) (tt : TreeV) (m : Int) (pl : List (List Spt)) (y : Int) (i : Nat) : List (Nat × Option Cn) := [(2, some (Rota_frK10 r)), (3, some (.ro 1 hs.length (Lst eI hs))), (1006, some (Rota_frK18 tt)), (1009, some (.blk 3 [.i m])), (1015, some (.blk 116 [.ref 10680 0])), (2001, some (Rota_frK19 tt)), (2005, some (Rota_frK22 pl)), (10680, some (Rota_frK27 tt r y i))]
def Rota_frH29 (r : RuleV) (hs : List Int) (tt : TreeV) (m : Int) (pl : List (List Spt)) (y : Int) (i : Nat) : List (Nat × Option Cn) := [(2, some (Rota_frK10 r)), (3, some (.ro 1 hs.length (Lst eI hs))), (1006, some (Rota_frK18 tt)), (1009, some (.blk 3 [.i m])), (1015, some (.blk 116 [.ref 10680 0])), (1017, some (.blk 57 [.v (.slice none 0 0)])), (2001, some (Rota_frK19 tt)), (2005, some (Rota_frK22 pl)), (10680, some (Rota_frK27 tt r y i))]
def Rota_frK30  : Cn := .vec 72 2 (([] : List Spt).length) (Lst eS ([] : List Spt))
def Rota_frH31 (r : RuleV) (hs : List Int) (tt : TreeV) (m : Int) (pl : List (List Spt)) (y : Int) (i : Nat) : List (Nat × Option Cn) := [(2, some (Rota_frK10 r)), (3, some (.ro 1 hs.length (Lst eI hs))), (1006, some (Rota_frK18 tt)), (1009, some (.blk 3 [.i m])), (1015, some (.blk 116 [.ref 10680 0])), (1017, some (.blk 57 [.ls 7001])), (2001, some (Rota_frK19 tt)), (2005, some (Rota_frK22 pl)), (10680, some (Rota_frK27 tt r y i)), (7001, some Rota_frK30)]
def Rota_frK32 (tt : TreeV) (r : RuleV) (y : Int) (i : Nat) (m : Int) (hs : List Int) : Cn := .vec 72 2 ((foundL (openV tt r (y + (i : Int))) m hs).length) (Lst eS (foundL (openV tt r (y + (i : Int))) m hs))
def Rota_frH33 (r : RuleV) (hs : List Int) (tt : TreeV) (m : Int) (pl : List (List Spt)) (y : Int) (i : Nat) : List (Nat × Option Cn) := [(2, some (Rota_frK10 r)), (3, some (.ro 1 hs.length (Lst eI hs))), (1006, some (Rota_frK18 tt)), (1009, some (.blk 3 [.i m])), (1015, some (.blk 116 [.ref 10680 0])), (1017, some (.blk 57 [.ls 10710])), (2001, some (Rota_frK19 tt)), (2005, some (Rota_frK22 pl)), (10680, some (Rota_frK27 tt r y i)), (10710, some (Rota_frK32 tt r y i m hs))]
def Rota_frK34 (tt : TreeV) (y : Int) (i : Nat) (r : RuleV) (m : Int) (hs : List Int) : Cn := .vec 74 3 (((drillV tt (y + (i : Int)) (foundL (openV tt r (y + (i : Int))) m hs)).holes).length) (Lst eH ((drillV tt (y + (i : Int)) (foundL (openV tt r (y + (i : Int))) m hs)).holes))
def Rota_frK35 (tt : TreeV) (y : Int) (i : Nat) (r : RuleV) (m : Int) (hs : List Int) : Cn := .blk 26 [.i ((drillV tt (y + (i : Int)) (foundL (openV tt r (y + (i : Int))) m hs)).year), .i ((drillV tt (y + (i : Int)) (foundL (openV tt r (y + (i : Int))) m hs)).glo), .i ((drillV tt (y + (i : Int)) (foundL (openV tt r (y + (i : Int))) m hs)).ghi), .i ((drillV tt (y + (i : Int)) (foundL (openV tt r (y + (i : Int))) m hs)).wlo), .i ((drillV tt (y + (i : Int)) (foundL (openV tt r (y + (i : Int))) m hs)).whi), .i ((drillV tt (y + (i : Int)) (foundL (openV tt r (y + (i : Int))) m hs)).health), .ls 10800]
def Rota_frH36 (r : RuleV) (hs : List Int) (tt : TreeV) (y : Int) (i : Nat) (m : Int) (pl : List (List Spt)) : List (Nat × Option Cn) := [(2, some (Rota_frK10 r)), (3, some (.ro 1 hs.length (Lst eI hs))), (1006, some (Rota_frK35 tt y i r m hs)), (1009, some (.blk 3 [.i m])), (1015, some (.blk 116 [.ref 10680 0])), (1017, some (.blk 57 [.ls 10710])), (2001, some (Rota_frK19 tt)), (2005, some (Rota_frK22 pl)), (10680, some (Rota_frK27 tt r y i)), (10710, some (Rota_frK32 tt r y i m hs)), (10800, some (Rota_frK34 tt y i r m hs))]
def Rota_frK37 (tt : TreeV) (r : RuleV) (y : Int) (i : Nat) (m : Int) (hs : List Int) : Cn := .vec 57 1 1 (LstL 2 eS ([(foundL (openV tt r (y + (i : Int))) m hs)]))
def Rota_frK38 (pl : List (List Spt)) (tt : TreeV) (r : RuleV) (y : Int) (i : Nat) (m : Int) (hs : List Int) : Cn := .vec 57 1 (pl.length + 1) (LstL 2 eS (pl ++ ([(foundL (openV tt r (y + (i : Int))) m hs)])))
def Rota_frH39 (r : RuleV) (hs : List Int) (tt : TreeV) (y : Int) (i : Nat) (m : Int) (pl : List (List Spt)) : List (Nat × Option Cn) := [(2, some (Rota_frK10 r)), (3, some (.ro 1 hs.length (Lst eI hs))), (1006, some (Rota_frK35 tt y i r m hs)), (1009, some (.blk 3 [.i m])), (1015, some (.blk 116 [.ref 10680 0])), (1089, some (Rota_frK38 pl tt r y i m hs)), (2001, some (Rota_frK19 tt)), (10680, some (Rota_frK27 tt r y i)), (10800, some (Rota_frK34 tt y i r m hs))]
def Rota_frH40 (t : TreeV) (hs : List Int) (m : Int) : List (Nat × Option Cn) := [(1, some (Rota_frK9 t)), (3, some (.ro 1 hs.length (Lst eI hs))), (1006, some (Rota_frK6 t)), (1009, some (.blk 3 [.i m])), (1015, some (.blk 116 [.v (.pointer none)]))]
set_option maxHeartbeats 8000000 in
set_option maxRecDepth 100000 in
theorem Rota_fr (t : TreeV) (r : RuleV) (y : Int) (ht : t.holes.length ≤ 1000000) (hr : r.sizes.length ≤ 1000000) (m : Int) (hs : List Int) (ys : Int) (hl : hs.length ≤ 1000000) : CallOK Try.prog 49 [(Rota_frA1 t), (Rota_frA2 r), .i y, .i m, .ls 3, .i ys] [1, 2, 3] [some (.vec 74 3 t.holes.length (Lst eH t.holes)), some (.vec 45 2 r.sizes.length (Lst eZ r.sizes)), some (.vec 3 1 hs.length (Lst eI hs))] (.tup [.one (.ls 9), .one (.i ((rotR t r y m hs ys).2.1)), .one (.i ((rotR t r y m hs ys).2.2))]) [(1, none), (2, none), (3, none), (9, some (.vec 57 1 (((rotR t r y m hs ys).1).length) (LstL 2 eS ((rotR t r y m hs ys).1))))] := by
 refine callFs_of (fn := Try.f49) (by kernel_rfl) rfl (by kernel_rfl) (by kernel_rfl) fun E => ?_
 refine aw_ent (T := ⟨92, [1, 2, 3], [(0, (Rota_frA1 t)), (1, (Rota_frA2 r)), (2, .i y), (3, .i m), (4, .ls 3), (5, .i ys)], (Rota_frH5 t r hs)⟩) (Ent.refl _) ?_
 apply aw_seq
 refine awr [(0, .new 1006), (1, .new 1007), (2, .new 1009)]
  ⟨92, [1, 2, 3], [(2, .i y), (4, .ls 3), (5, .i ys), (6, .l (.ref 1006 0)), (7, .l (.ref 1007 0)), (9, .l (.ref 1009 0)), (12, .l (.v (.slice none 0 0)))], (Rota_frH8 t r hs m)⟩
  [] trivial ?_
 apply aw_seq
 rcases Bool.eq_false_or_eq_true (decide (startE t r y = 0)) with h1 | h1
 ·
  have hz0 : startE t r y = 0 := dtr h1
  refine aw_ent (T := ⟨92, [1, 2, 3], [(2, .i y), (4, .ls 3), (5, .i ys), (6, .l (.ref 1006 0)), (7, .l (.ref 1007 0)), (9, .l (.ref 1009 0)), (12, .l (.v (.slice none 0 0)))], (Rota_frH11 t r hs m)⟩)
      (enr [] ⟨rfl, rfl, rfl, rfl, rfl, rfl, rfl, trivial⟩ (cvr rfl (cvr rfl (cvr rfl (cbl rfl rfl (cbl rfl rfl (cbl rfl rfl trivial))))))) ?_
  refine awr [(3, .call [1, 2] (.tup [.one (.ref 10230 0), .one (.i 0)]) [(10230, some (Rota_frK12 t r y))]), (7, .new 1015)]
   ⟨92, [1, 2, 3], [(2, .i y), (4, .ls 3), (5, .i ys), (6, .l (.ref 1006 0)), (9, .l (.ref 1009 0)), (12, .l (.v (.slice none 0 0))), (14, .i 0), (15, .l (.ref 1015 0))], (Rota_frH13 t r hs m y)⟩
   [CallOK Try.prog 61 [(Rota_frA1 t), (Rota_frA2 r), .i y] [1, 2] [some (Rota_frK9 t), some (Rota_frK10 r)] (.tup [.one (.ref 10230 0), .one (.i 0)]) [(10230, some (Rota_frK12 t r y))]] (al1 (cfr (open_ok_fr t r y (by first | omega | (simp; done) | assumption) (by first | omega | (simp; done) | assumption) (dtr h1)) [(1, 1), (2, 2), (5, 10230)] (dem_cons rfl (le_ro rfl el_rfl) (dem_cons rfl (le_ro rfl el_rfl) dem_nil)))) ?_
  have hx := open_ok (dtr h1)
  apply aw_seq
  apply aw_block
  apply aw_seq
  refine awr []
   ⟨92, [1, 2, 3], [(2, .i y), (4, .ls 3), (5, .i ys), (6, .l (.ref 1006 0)), (9, .l (.ref 1009 0)), (12, .l (.v (.slice none 0 0))), (14, .i 0), (15, .l (.ref 1015 0)), (26, .b (decide ((0 : Int) ≠ (0 : Int))))], (Rota_frH13 t r hs m y)⟩
   [] trivial ?_
  have h2 : (decide ((0 : Int) ≠ (0 : Int))) = false := by decide
  refine aw_cond (b := decide ((0 : Int) ≠ (0 : Int))) rfl (fun h => Bool.noConfusion (h2.symm.trans h)) (fun _ => ?_)
  apply aw_seq
  rcases Bool.eq_false_or_eq_true (decide (20 < (hs.length : Int))) with h3 | h3
  ·
   have h3p : 20 < (hs.length : Int) := dtr h3
   refine awr [(3, .dec true)]
    ⟨92, [1, 2, 3], [(2, .i y), (4, .ls 3), (5, .i ys), (6, .l (.ref 1006 0)), (9, .l (.ref 1009 0)), (12, .l (.v (.slice none 0 0))), (15, .l (.ref 1015 0)), (30, .b true)], (Rota_frH13 t r hs m y)⟩
    [decide (20 < (hs.length : Int)) = true] (al1 h3) ?_
   refine aw_true rfl ?_
   apply aw_seq
   have hVV := rotR_2 (m := m) (hs := hs) (ys := ys) hz0 (by first | (rw [show decide ((20 : Int) < (hs.length : Int)) = true by assumption]; rfl) | (rw [show decide (40 < ys) = true by assumption]; exact Bool.or_true _))
   refine awr []
    ⟨92, [1, 2, 3], [(12, .l (.v (.slice none 0 0))), (13, .i 0), (14, .i 5)], []⟩
    [] trivial ?_
   exact aw_ret (ret_block (ret_then ⟨.inr rfl, eoks ⟨92, [1, 2, 3], [(12, .ls 9), (13, .i ((rotR t r y m hs ys).2.1)), (14, .i ((rotR t r y m hs ys).2.2))], [(9, some (Rota_frK14 t r y m hs ys))]⟩
       (Ent.trans (Ent.nilSlot 12 70001 57 1 (LstL 2 eS ((rotR t r y m hs ys).1)) rfl (by omega) (by kernel_rfl)) (enr [(9, 70001)] ⟨rfl, (slot_i rfl (by first | rfl | omega | assumption | (rw [hVV] <;> rfl) | (rw [hV, hVV] <;> rfl))), (slot_i rfl (by first | rfl | omega | assumption | (rw [hVV] <;> rfl) | (rw [hV, hVV] <;> rfl))), trivial⟩ (conts_cons rfl (le_vec (by first | rfl | omega | assumption | (rw [hVV] <;> rfl) | (rw [hV, hVV] <;> rfl)) el_rfl) trivial))) (wrs_none (wrs_none (wrs_none (wrs_cons rfl trivial wrs_nil))))⟩))
  ·
   have h3p : (hs.length : Int) ≤ 20 := dlt h3
   refine awr [(3, .dec false)]
    ⟨92, [1, 2, 3], [(2, .i y), (4, .ls 3), (5, .i ys), (6, .l (.ref 1006 0)), (9, .l (.ref 1009 0)), (12, .l (.v (.slice none 0 0))), (15, .l (.ref 1015 0)), (30, .b (decide (40 < ys)))], (Rota_frH13 t r hs m y)⟩
    [decide (20 < (hs.length : Int)) = false] (al1 h3) ?_
   refine aw_cond (b := decide (40 < ys)) rfl (fun h4 => ?_) (fun h4 => ?_)
   ·
    have h4p : 40 < ys := dtr h4
    apply aw_seq
    have hVV := rotR_2 (m := m) (hs := hs) (ys := ys) hz0 (by first | (rw [show decide ((20 : Int) < (hs.length : Int)) = true by assumption]; rfl) | (rw [show decide (40 < ys) = true by assumption]; exact Bool.or_true _))
    refine awr []
     ⟨92, [1, 2, 3], [(12, .l (.v (.slice none 0 0))), (13, .i 0), (14, .i 5)], []⟩
     [] trivial ?_
    exact aw_ret (ret_block (ret_then ⟨.inr rfl, eoks ⟨92, [1, 2, 3], [(12, .ls 9), (13, .i ((rotR t r y m hs ys).2.1)), (14, .i ((rotR t r y m hs ys).2.2))], [(9, some (Rota_frK14 t r y m hs ys))]⟩
        (Ent.trans (Ent.nilSlot 12 70002 57 1 (LstL 2 eS ((rotR t r y m hs ys).1)) rfl (by omega) (by kernel_rfl)) (enr [(9, 70002)] ⟨rfl, (slot_i rfl (by first | rfl | omega | assumption | (rw [hVV] <;> rfl) | (rw [hV, hVV] <;> rfl))), (slot_i rfl (by first | rfl | omega | assumption | (rw [hVV] <;> rfl) | (rw [hV, hVV] <;> rfl))), trivial⟩ (conts_cons rfl (le_vec (by first | rfl | omega | assumption | (rw [hVV] <;> rfl) | (rw [hV, hVV] <;> rfl)) el_rfl) trivial))) (wrs_none (wrs_none (wrs_none (wrs_cons rfl trivial wrs_nil))))⟩))
   ·
    have h4p : ys ≤ 40 := dlt h4
    apply aw_seq
    have hk3 := (startE_0.1 hz0).2.2
    have hk1 := (startE_0.1 hz0).1.year
    rcases Bool.eq_false_or_eq_true ((!(within 0 5000 hs))) with h5 | h5
    ·
     refine awr [(1, .call [3] (.b (within 0 5000 hs)) []), (3, .dec true)]
      ⟨92, [1, 2, 3], [(2, .i y), (4, .ls 3), (5, .i ys), (6, .l (.ref 1006 0)), (9, .l (.ref 1009 0)), (12, .l (.v (.slice none 0 0))), (15, .l (.ref 1015 0)), (38, .b true)], (Rota_frH13 t r hs m y)⟩
      [CallOK Try.prog 55 [.i 0, .i 5000, .ls 3] [3] [some (.ro 1 hs.length (Lst eI hs))] (.b (within 0 5000 hs)) [], (!(within 0 5000 hs)) = true] (al2 (cfr (within_fr 0 5000 hs (by first | omega | (simp; done) | decide)) [(0, 3)] (dem_cons rfl (le_ro rfl el_rfl) dem_nil)) (al1 h5)) ?_
     refine aw_true rfl ?_
     apply aw_seq
     have hVV := rotR_3 (m := m) (hs := hs) (ys := ys) hz0 (by rw [show decide ((20 : Int) < (hs.length : Int)) = false by assumption, show decide (40 < ys) = false by assumption]; rfl) (by first | (rw [show (!(within 0 5000 hs)) = true by assumption]; rfl) | (rw [show (!(within 0 20 [m])) = true by assumption, Bool.true_or, Bool.or_true]) | (rw [show decide (ys < 0) = true by assumption, Bool.true_or, Bool.or_true, Bool.or_true]) | (rw [show decide (9999 < y + ys - 1) = true by assumption, Bool.or_true, Bool.or_true, Bool.or_true]))
     refine awr []
      ⟨92, [1, 2, 3], [(12, .l (.v (.slice none 0 0))), (13, .i 0), (14, .i 3)], []⟩
      [] trivial ?_
     exact aw_ret (ret_block (ret_then ⟨.inr rfl, eoks ⟨92, [1, 2, 3], [(12, .ls 9), (13, .i ((rotR t r y m hs ys).2.1)), (14, .i ((rotR t r y m hs ys).2.2))], [(9, some (Rota_frK14 t r y m hs ys))]⟩
         (Ent.trans (Ent.nilSlot 12 70003 57 1 (LstL 2 eS ((rotR t r y m hs ys).1)) rfl (by omega) (by kernel_rfl)) (enr [(9, 70003)] ⟨rfl, (slot_i rfl (by first | rfl | omega | assumption | (rw [hVV] <;> rfl) | (rw [hV, hVV] <;> rfl))), (slot_i rfl (by first | rfl | omega | assumption | (rw [hVV] <;> rfl) | (rw [hV, hVV] <;> rfl))), trivial⟩ (conts_cons rfl (le_vec (by first | rfl | omega | assumption | (rw [hVV] <;> rfl) | (rw [hV, hVV] <;> rfl)) el_rfl) trivial))) (wrs_none (wrs_none (wrs_none (wrs_cons rfl trivial wrs_nil))))⟩))
    ·
     rcases Bool.eq_false_or_eq_true ((!(within 0 20 ([m])))) with h6 | h6
     ·
      refine awr [(1, .call [3] (.b (within 0 5000 hs)) []), (3, .dec false), (5, .new 1044), (6, .call [1044] (.b (within 0 20 ([m]))) []), (9, .dec true)]
       ⟨92, [1, 2, 3], [(2, .i y), (4, .ls 3), (5, .i ys), (6, .l (.ref 1006 0)), (9, .l (.ref 1009 0)), (12, .l (.v (.slice none 0 0))), (15, .l (.ref 1015 0)), (38, .b true)], (Rota_frH13 t r hs m y)⟩
       [CallOK Try.prog 55 [.i 0, .i 5000, .ls 3] [3] [some (.ro 1 hs.length (Lst eI hs))] (.b (within 0 5000 hs)) [], (!(within 0 5000 hs)) = false, CallOK Try.prog 55 [.i 0, .i 20, .ls 1044] [1044] [some (.vec 3 1 1 (exEl 1 [.i m]))] (.b (within 0 20 ([m]))) [], (!(within 0 20 ([m]))) = true] (al2 (cfr (within_fr 0 5000 hs (by first | omega | (simp; done) | decide)) [(0, 3)] (dem_cons rfl (le_ro rfl el_rfl) dem_nil)) (al2 h5 (al2 (cfr (within_fr 0 20 ([m]) (by first | omega | (simp; done) | decide)) [(0, 1044)] (dem_cons rfl (le_vec_ro (by first | omega | rfl | assumption) (fun | 0, _ => (fun | 0, _ => rfl | (_n + 1), h => absurd h (by omega)) | (_n + 1), h => absurd h (by omega))) dem_nil)) (al1 h6)))) ?_
      refine aw_true rfl ?_
      apply aw_seq
      have hVV := rotR_3 (m := m) (hs := hs) (ys := ys) hz0 (by rw [show decide ((20 : Int) < (hs.length : Int)) = false by assumption, show decide (40 < ys) = false by assumption]; rfl) (by first | (rw [show (!(within 0 5000 hs)) = true by assumption]; rfl) | (rw [show (!(within 0 20 [m])) = true by assumption, Bool.true_or, Bool.or_true]) | (rw [show decide (ys < 0) = true by assumption, Bool.true_or, Bool.or_true, Bool.or_true]) | (rw [show decide (9999 < y + ys - 1) = true by assumption, Bool.or_true, Bool.or_true, Bool.or_true]))
      refine awr []
       ⟨92, [1, 2, 3], [(12, .l (.v (.slice none 0 0))), (13, .i 0), (14, .i 3)], []⟩
       [] trivial ?_
      exact aw_ret (ret_block (ret_then ⟨.inr rfl, eoks ⟨92, [1, 2, 3], [(12, .ls 9), (13, .i ((rotR t r y m hs ys).2.1)), (14, .i ((rotR t r y m hs ys).2.2))], [(9, some (Rota_frK14 t r y m hs ys))]⟩
          (Ent.trans (Ent.nilSlot 12 70004 57 1 (LstL 2 eS ((rotR t r y m hs ys).1)) rfl (by omega) (by kernel_rfl)) (enr [(9, 70004)] ⟨rfl, (slot_i rfl (by first | rfl | omega | assumption | (rw [hVV] <;> rfl) | (rw [hV, hVV] <;> rfl))), (slot_i rfl (by first | rfl | omega | assumption | (rw [hVV] <;> rfl) | (rw [hV, hVV] <;> rfl))), trivial⟩ (conts_cons rfl (le_vec (by first | rfl | omega | assumption | (rw [hVV] <;> rfl) | (rw [hV, hVV] <;> rfl)) el_rfl) trivial))) (wrs_none (wrs_none (wrs_none (wrs_cons rfl trivial wrs_nil))))⟩))
     ·
      rcases Bool.eq_false_or_eq_true (decide (ys < 0)) with h7 | h7
      ·
       have h7p : ys < 0 := dtr h7
       refine awr [(1, .call [3] (.b (within 0 5000 hs)) []), (3, .dec false), (5, .new 1044), (6, .call [1044] (.b (within 0 20 ([m]))) []), (9, .dec false), (13, .dec true)]
        ⟨92, [1, 2, 3], [(2, .i y), (4, .ls 3), (5, .i ys), (6, .l (.ref 1006 0)), (9, .l (.ref 1009 0)), (12, .l (.v (.slice none 0 0))), (15, .l (.ref 1015 0)), (38, .b true)], (Rota_frH13 t r hs m y)⟩
        [CallOK Try.prog 55 [.i 0, .i 5000, .ls 3] [3] [some (.ro 1 hs.length (Lst eI hs))] (.b (within 0 5000 hs)) [], (!(within 0 5000 hs)) = false, CallOK Try.prog 55 [.i 0, .i 20, .ls 1044] [1044] [some (.vec 3 1 1 (exEl 1 [.i m]))] (.b (within 0 20 ([m]))) [], (!(within 0 20 ([m]))) = false, decide (ys < 0) = true] (al2 (cfr (within_fr 0 5000 hs (by first | omega | (simp; done) | decide)) [(0, 3)] (dem_cons rfl (le_ro rfl el_rfl) dem_nil)) (al2 h5 (al2 (cfr (within_fr 0 20 ([m]) (by first | omega | (simp; done) | decide)) [(0, 1044)] (dem_cons rfl (le_vec_ro (by first | omega | rfl | assumption) (fun | 0, _ => (fun | 0, _ => rfl | (_n + 1), h => absurd h (by omega)) | (_n + 1), h => absurd h (by omega))) dem_nil)) (al2 h6 (al1 h7))))) ?_
       refine aw_true rfl ?_
       apply aw_seq
       have hVV := rotR_3 (m := m) (hs := hs) (ys := ys) hz0 (by rw [show decide ((20 : Int) < (hs.length : Int)) = false by assumption, show decide (40 < ys) = false by assumption]; rfl) (by first | (rw [show (!(within 0 5000 hs)) = true by assumption]; rfl) | (rw [show (!(within 0 20 [m])) = true by assumption, Bool.true_or, Bool.or_true]) | (rw [show decide (ys < 0) = true by assumption, Bool.true_or, Bool.or_true, Bool.or_true]) | (rw [show decide (9999 < y + ys - 1) = true by assumption, Bool.or_true, Bool.or_true, Bool.or_true]))
       refine awr []
        ⟨92, [1, 2, 3], [(12, .l (.v (.slice none 0 0))), (13, .i 0), (14, .i 3)], []⟩
        [] trivial ?_
       exact aw_ret (ret_block (ret_then ⟨.inr rfl, eoks ⟨92, [1, 2, 3], [(12, .ls 9), (13, .i ((rotR t r y m hs ys).2.1)), (14, .i ((rotR t r y m hs ys).2.2))], [(9, some (Rota_frK14 t r y m hs ys))]⟩
           (Ent.trans (Ent.nilSlot 12 70005 57 1 (LstL 2 eS ((rotR t r y m hs ys).1)) rfl (by omega) (by kernel_rfl)) (enr [(9, 70005)] ⟨rfl, (slot_i rfl (by first | rfl | omega | assumption | (rw [hVV] <;> rfl) | (rw [hV, hVV] <;> rfl))), (slot_i rfl (by first | rfl | omega | assumption | (rw [hVV] <;> rfl) | (rw [hV, hVV] <;> rfl))), trivial⟩ (conts_cons rfl (le_vec (by first | rfl | omega | assumption | (rw [hVV] <;> rfl) | (rw [hV, hVV] <;> rfl)) el_rfl) trivial))) (wrs_none (wrs_none (wrs_none (wrs_cons rfl trivial wrs_nil))))⟩))
      ·
       have h7p : 0 ≤ ys := dlt h7
       refine awr [(1, .call [3] (.b (within 0 5000 hs)) []), (3, .dec false), (5, .new 1044), (6, .call [1044] (.b (within 0 20 ([m]))) []), (9, .dec false), (13, .dec false)]
        ⟨92, [1, 2, 3], [(2, .i y), (4, .ls 3), (5, .i ys), (6, .l (.ref 1006 0)), (9, .l (.ref 1009 0)), (12, .l (.v (.slice none 0 0))), (15, .l (.ref 1015 0)), (38, .b (decide (9999 < ((y + ys) - 1))))], (Rota_frH13 t r hs m y)⟩
        [CallOK Try.prog 55 [.i 0, .i 5000, .ls 3] [3] [some (.ro 1 hs.length (Lst eI hs))] (.b (within 0 5000 hs)) [], (!(within 0 5000 hs)) = false, CallOK Try.prog 55 [.i 0, .i 20, .ls 1044] [1044] [some (.vec 3 1 1 (exEl 1 [.i m]))] (.b (within 0 20 ([m]))) [], (!(within 0 20 ([m]))) = false, decide (ys < 0) = false, -9223372036854775808 ≤ (y + ys) ∧ (y + ys) < 9223372036854775808, -9223372036854775808 ≤ ((y + ys) - 1) ∧ ((y + ys) - 1) < 9223372036854775808] (al2 (cfr (within_fr 0 5000 hs (by first | omega | (simp; done) | decide)) [(0, 3)] (dem_cons rfl (le_ro rfl el_rfl) dem_nil)) (al2 h5 (al2 (cfr (within_fr 0 20 ([m]) (by first | omega | (simp; done) | decide)) [(0, 1044)] (dem_cons rfl (le_vec_ro (by first | omega | rfl | assumption) (fun | 0, _ => (fun | 0, _ => rfl | (_n + 1), h => absurd h (by omega)) | (_n + 1), h => absurd h (by omega))) dem_nil)) (al2 h6 (al2 h7 (al2 (by omega) (al1 (by omega)))))))) ?_
       refine aw_cond (b := decide (9999 < ((y + ys) - 1))) rfl (fun h8 => ?_) (fun h8 => ?_)
       ·
        have h8p : 9999 < ((y + ys) - 1) := dtr h8
        apply aw_seq
        have hVV := rotR_3 (m := m) (hs := hs) (ys := ys) hz0 (by rw [show decide ((20 : Int) < (hs.length : Int)) = false by assumption, show decide (40 < ys) = false by assumption]; rfl) (by first | (rw [show (!(within 0 5000 hs)) = true by assumption]; rfl) | (rw [show (!(within 0 20 [m])) = true by assumption, Bool.true_or, Bool.or_true]) | (rw [show decide (ys < 0) = true by assumption, Bool.true_or, Bool.or_true, Bool.or_true]) | (rw [show decide (9999 < y + ys - 1) = true by assumption, Bool.or_true, Bool.or_true, Bool.or_true]))
        refine awr []
         ⟨92, [1, 2, 3], [(12, .l (.v (.slice none 0 0))), (13, .i 0), (14, .i 3)], []⟩
         [] trivial ?_
        exact aw_ret (ret_block (ret_then ⟨.inr rfl, eoks ⟨92, [1, 2, 3], [(12, .ls 9), (13, .i ((rotR t r y m hs ys).2.1)), (14, .i ((rotR t r y m hs ys).2.2))], [(9, some (Rota_frK14 t r y m hs ys))]⟩
            (Ent.trans (Ent.nilSlot 12 70006 57 1 (LstL 2 eS ((rotR t r y m hs ys).1)) rfl (by omega) (by kernel_rfl)) (enr [(9, 70006)] ⟨rfl, (slot_i rfl (by first | rfl | omega | assumption | (rw [hVV] <;> rfl) | (rw [hV, hVV] <;> rfl))), (slot_i rfl (by first | rfl | omega | assumption | (rw [hVV] <;> rfl) | (rw [hV, hVV] <;> rfl))), trivial⟩ (conts_cons rfl (le_vec (by first | rfl | omega | assumption | (rw [hVV] <;> rfl) | (rw [hV, hVV] <;> rfl)) el_rfl) trivial))) (wrs_none (wrs_none (wrs_none (wrs_cons rfl trivial wrs_nil))))⟩))
       ·
        have h8p : ((y + ys) - 1) ≤ 9999 := dlt h8
        apply aw_skip
        apply aw_seq
        apply aw_seq
        obtain ⟨hE0, hV⟩ := rotR_4 (m := m) (hs := hs) (ys := ys) hz0 (by rw [show decide ((20 : Int) < (hs.length : Int)) = false by assumption, show decide (40 < ys) = false by assumption]; rfl) (by rw [show (!(within 0 5000 hs)) = false by assumption, show (!(within 0 20 [m])) = false by assumption, show decide (ys < 0) = false by assumption, show decide (9999 < y + ys - 1) = false by assumption]; rfl)
        obtain ⟨_, hl20, hhB, hm20, hys, hy1⟩ := rotE_0 hE0
        have n60 := (startE_0.1 hz0).1.len
        have hrs2 : r.sizes.length ≤ 1000000 := hr
        refine aw_ent (T := ⟨92, [1, 2, 3], [(2, .i y), (4, .ls 3), (5, .i ys), (6, .l (.ref 1006 0)), (9, .l (.ref 1009 0)), (12, .l (.v (.slice none 0 0))), (15, .l (.ref 1015 0)), (38, .b (decide (9999 < ((y + ys) - 1))))], (Rota_frH16 t r hs m y)⟩)
            (Ent.trans (Ent.dupCell 10230 70007 1 123 [.i ((openV t r y).t.year), .i ((openV t r y).t.glo), .i ((openV t r y).t.ghi), .i ((openV t r y).t.wlo), .i ((openV t r y).t.whi), .i ((openV t r y).t.health), .ls 1, .i ((openV t r y).r.slo), .i ((openV t r y).r.shi), .i ((openV t r y).r.ulo), .i ((openV t r y).r.uhi), .i ((openV t r y).r.hlo), .i ((openV t r y).r.hhi), .i ((openV t r y).r.apart), .i ((openV t r y).r.blo), .i ((openV t r y).r.bhi), .ls 2, .i ((openV t r y).r.n0), .i ((openV t r y).r.n1), .i ((openV t r y).r.n2), .i ((openV t r y).r.n3), .i ((openV t r y).r.n4), .i ((openV t r y).r.opn), .i ((openV t r y).year), .i ((openV t r y).worst.girth), .i ((openV t r y).worst.side), .i ((openV t r y).worst.up), .i ((openV t r y).worst.heal), .i ((openV t r y).best.girth), .i ((openV t r y).best.side), .i ((openV t r y).best.up), .i ((openV t r y).best.heal)] 6 3 t.holes.length (Lst eH t.holes) rfl rfl rfl (by kernel_rfl) rfl) (enr [(2003, 70007)] ⟨rfl, rfl, rfl, rfl, rfl, rfl, rfl, rfl, trivial⟩ (cro rfl (cro rfl (cro rfl (cbl rfl rfl (cbl rfl rfl (cbl rfl rfl (cbl rfl rfl (cro rfl trivial)))))))))) ?_
        refine awr []
         ⟨92, [1, 2, 3], [(2, .i y), (4, .ls 3), (6, .l (.ref 1006 0)), (9, .l (.ref 1009 0)), (12, .l (.v (.slice none 0 0))), (15, .l (.ref 1015 0)), (59, .i ys), (60, .i 0)], (Rota_frH17 t r hs m y)⟩
         [] trivial ?_
        apply aw_block
        refine aw_loop (ι := Nat × TreeV × TreeV × Int × List (List Spt)) (fun zz => ⟨92, [1, 2, 3], [(2, .i y), (4, .ls 3), (6, .l (.ref 1006 0)), (9, .l (.ref 1009 0)), (12, .ls 2005), (15, .l (.ref 1015 0)), (59, .i ys), (60, .i (zz.1 : Int))], (Rota_frH23 r hs zz.2.1 m zz.2.2.1 zz.2.2.2.1 zz.2.2.2.2)⟩) (fun zz => (zz.1 ≤ ys.toNat) ∧ (zz.1 < ys.toNat → startE zz.2.1 r (y + (zz.1 : Int)) = 0) ∧ (zz.2.1.holes.length ≤ 60) ∧ (zz.2.2.2.2.length = zz.1) ∧ (rotL r m hs y (ys.toNat - zz.1) zz.2.1 zz.1 zz.2.2.2.2 = rotL r m hs y ys.toNat t 0 [])) (fun zz => ys.toNat - zz.1) (0, t, t, y, []) ⟨(by (try dsimp only); first | omega | rfl | assumption | (simp; done)), (by (try dsimp only); intro _; simpa using hz0), (by (try dsimp only); first | omega | rfl | assumption | (simp; done)), (by (try dsimp only); rfl), (by (try dsimp only); rfl)⟩
            (Ent.trans (Ent.nilSlot 12 70008 57 1 (LstL 2 eS ([])) rfl (by omega) (by kernel_rfl)) (enr [(2005, 70008), (2001, 1), (2002, 10230)] ⟨rfl, rfl, rfl, rfl, rfl, rfl, rfl, rfl, trivial⟩ (cro rfl (cro rfl (cbl rfl rfl (cbl rfl rfl (cbl rfl rfl (cro rfl (cbr rfl rfl (cro rfl (conts_cons rfl (le_vec (by first | rfl | omega | assumption | (rfl) | (rw [hVV] <;> rfl) | (rw [hV, hVV] <;> rfl)) el_rfl) trivial))))))))))) fun zz hp => ?_
        obtain ⟨i, tt, t2, y2, pl⟩ := zz
        obtain ⟨hiL, hst, hlt, hpl, hq⟩ := hp
        dsimp only at hiL hst hlt hpl hq
        show AW _ E _ _ ⟨92, [1, 2, 3], [(2, .i y), (4, .ls 3), (6, .l (.ref 1006 0)), (9, .l (.ref 1009 0)), (12, .ls 2005), (15, .l (.ref 1015 0)), (59, .i ys), (60, .i (i : Int))], (Rota_frH23 r hs tt m t2 y2 pl)⟩
        apply aw_seq
        refine awr []
         ⟨92, [1, 2, 3], [(2, .i y), (4, .ls 3), (6, .l (.ref 1006 0)), (9, .l (.ref 1009 0)), (12, .ls 2005), (15, .l (.ref 1015 0)), (59, .i ys), (60, .i (i : Int)), (61, .b (decide ((i : Int) < ys)))], (Rota_frH23 r hs tt m t2 y2 pl)⟩
         [] trivial ?_
        apply aw_seq
        refine aw_cond (b := decide ((i : Int) < ys)) rfl (fun h9 => ?_) (fun h9 => ?_)
        ·
         have h9p : (i : Int) < ys := dtr h9
         apply aw_skip
         apply aw_seq
         apply aw_block
         apply aw_seq
         refine awr []
          ⟨92, [1, 2, 3], [(2, .i y), (4, .ls 3), (6, .l (.ref 1006 0)), (9, .l (.ref 1009 0)), (12, .ls 2005), (15, .l (.ref 1015 0)), (16, .i (i : Int)), (59, .i ys), (60, .i (i : Int))], (Rota_frH23 r hs tt m t2 y2 pl)⟩
          [] trivial ?_
         apply aw_seq
         have hst2 := hst (by omega)
         have hxo := open_ok hst2
         have hrs3 : (openV t2 r y2).r.sizes.length ≤ 1000000 := hr
         have hy3 := (startE_0.1 hst2).2.2
         refine awr [(5, .call [2002, 2003, 2, 2001] (.l (.ref 10680 0)) [(10680, some (Rota_frK24 tt t2 r y2 y i))])]
          ⟨92, [1, 2, 3], [(2, .i y), (4, .ls 3), (6, .l (.ref 1006 0)), (9, .l (.ref 1009 0)), (12, .ls 2005), (15, .l (.ref 1015 0)), (16, .i (i : Int)), (59, .i ys), (60, .i (i : Int))], (Rota_frH26 r hs tt m pl t2 y2 y i)⟩
          [-9223372036854775808 ≤ (y + (i : Int)) ∧ (y + (i : Int)) < 9223372036854775808, CallOK Try.prog 79 [.l (.ref 2002 0), (Rota_frA25 tt), .i (y + (i : Int))] [2002, 2003, 2, 2001] [some (Rota_frK20 t2 r y2), some (Rota_frK21 t2), some (Rota_frK10 r), some (Rota_frK19 tt)] (.l (.ref 10680 0)) [(10680, some (Rota_frK24 tt t2 r y2 y i))]] (al2 (by omega) (al1 (cfr (in_fr (openV t2 r y2) tt (y + (i : Int)) (by first | omega | (simp; done) | assumption) (by first | omega | (simp; done) | assumption) (by first | assumption | exact hst2)) [(0, 2002), (3, 2001), (1, 2003), (2, 2), (5, 10680)] (dem_cons rfl (le_rblk rfl) (dem_cons rfl (le_ro (by first | omega | rfl | assumption) el_rfl) (dem_cons rfl (le_ro (by first | omega | rfl | assumption) el_rfl) (dem_cons rfl (le_ro rfl el_rfl) dem_nil))))))) ?_
         apply aw_seq
         refine aw_ent (T := ⟨92, [1, 2, 3], [(2, .i y), (4, .ls 3), (6, .l (.ref 1006 0)), (9, .l (.ref 1009 0)), (12, .ls 2005), (15, .l (.ref 1015 0)), (16, .i (i : Int)), (59, .i ys), (60, .i (i : Int))], (Rota_frH28 r hs tt m pl y i)⟩)
             (enr [] ⟨rfl, rfl, rfl, rfl, rfl, rfl, rfl, rfl, rfl, trivial⟩ (cro rfl (cro rfl (cbl rfl rfl (cbl rfl rfl (cbl rfl rfl (cro rfl (cve rfl (cbl rfl (by exact (cells_cons (cell_i (by first | rfl | omega | assumption | (rfl) | (rw [hVV] <;> rfl) | (rw [hV, hVV] <;> rfl))) (cells_cons (cell_i (by first | rfl | omega | assumption | (rfl) | (rw [hVV] <;> rfl) | (rw [hV, hVV] <;> rfl))) (cells_cons (cell_i (by first | rfl | omega | assumption | (rfl) | (rw [hVV] <;> rfl) | (rw [hV, hVV] <;> rfl))) (cells_cons (cell_i (by first | rfl | omega | assumption | (rfl) | (rw [hVV] <;> rfl) | (rw [hV, hVV] <;> rfl))) (cells_cons (cell_i (by first | rfl | omega | assumption | (rfl) | (rw [hVV] <;> rfl) | (rw [hV, hVV] <;> rfl))) (cells_cons (cell_i (by first | rfl | omega | assumption | (rfl) | (rw [hVV] <;> rfl) | (rw [hV, hVV] <;> rfl))) (cells_cons rfl (cells_cons (cell_i (by first | rfl | omega | assumption | (rfl) | (rw [hVV] <;> rfl) | (rw [hV, hVV] <;> rfl))) (cells_cons (cell_i (by first | rfl | omega | assumption | (rfl) | (rw [hVV] <;> rfl) | (rw [hV, hVV] <;> rfl))) (cells_cons (cell_i (by first | rfl | omega | assumption | (rfl) | (rw [hVV] <;> rfl) | (rw [hV, hVV] <;> rfl))) (cells_cons (cell_i (by first | rfl | omega | assumption | (rfl) | (rw [hVV] <;> rfl) | (rw [hV, hVV] <;> rfl))) (cells_cons (cell_i (by first | rfl | omega | assumption | (rfl) | (rw [hVV] <;> rfl) | (rw [hV, hVV] <;> rfl))) (cells_cons (cell_i (by first | rfl | omega | assumption | (rfl) | (rw [hVV] <;> rfl) | (rw [hV, hVV] <;> rfl))) (cells_cons (cell_i (by first | rfl | omega | assumption | (rfl) | (rw [hVV] <;> rfl) | (rw [hV, hVV] <;> rfl))) (cells_cons (cell_i (by first | rfl | omega | assumption | (rfl) | (rw [hVV] <;> rfl) | (rw [hV, hVV] <;> rfl))) (cells_cons (cell_i (by first | rfl | omega | assumption | (rfl) | (rw [hVV] <;> rfl) | (rw [hV, hVV] <;> rfl))) (cells_cons rfl (cells_cons (cell_i (by first | rfl | omega | assumption | (rfl) | (rw [hVV] <;> rfl) | (rw [hV, hVV] <;> rfl))) (cells_cons (cell_i (by first | rfl | omega | assumption | (rfl) | (rw [hVV] <;> rfl) | (rw [hV, hVV] <;> rfl))) (cells_cons (cell_i (by first | rfl | omega | assumption | (rfl) | (rw [hVV] <;> rfl) | (rw [hV, hVV] <;> rfl))) (cells_cons (cell_i (by first | rfl | omega | assumption | (rfl) | (rw [hVV] <;> rfl) | (rw [hV, hVV] <;> rfl))) (cells_cons (cell_i (by first | rfl | omega | assumption | (rfl) | (rw [hVV] <;> rfl) | (rw [hV, hVV] <;> rfl))) (cells_cons (cell_i (by first | rfl | omega | assumption | (rfl) | (rw [hVV] <;> rfl) | (rw [hV, hVV] <;> rfl))) (cells_cons (cell_i (by first | rfl | omega | assumption | (rfl) | (rw [hVV] <;> rfl) | (rw [hV, hVV] <;> rfl))) (cells_cons (cell_i (by first | rfl | omega | assumption | (rfl) | (rw [hVV] <;> rfl) | (rw [hV, hVV] <;> rfl))) (cells_cons (cell_i (by first | rfl | omega | assumption | (rfl) | (rw [hVV] <;> rfl) | (rw [hV, hVV] <;> rfl))) (cells_cons (cell_i (by first | rfl | omega | assumption | (rfl) | (rw [hVV] <;> rfl) | (rw [hV, hVV] <;> rfl))) (cells_cons (cell_i (by first | rfl | omega | assumption | (rfl) | (rw [hVV] <;> rfl) | (rw [hV, hVV] <;> rfl))) (cells_cons (cell_i (by first | rfl | omega | assumption | (rfl) | (rw [hVV] <;> rfl) | (rw [hV, hVV] <;> rfl))) (cells_cons (cell_i (by first | rfl | omega | assumption | (rfl) | (rw [hVV] <;> rfl) | (rw [hV, hVV] <;> rfl))) (cells_cons (cell_i (by first | rfl | omega | assumption | (rfl) | (rw [hVV] <;> rfl) | (rw [hV, hVV] <;> rfl))) (cells_cons (cell_i (by first | rfl | omega | assumption | (rfl) | (rw [hVV] <;> rfl) | (rw [hV, hVV] <;> rfl))) rfl))))))))))))))))))))))))))))))))) trivial))))))))) ?_
         refine awr [(0, .new 1017)]
          ⟨92, [1, 2, 3], [(2, .i y), (4, .ls 3), (6, .l (.ref 1006 0)), (9, .l (.ref 1009 0)), (12, .ls 2005), (15, .l (.ref 1015 0)), (16, .i (i : Int)), (17, .l (.ref 1017 0)), (59, .i ys), (60, .i (i : Int))], (Rota_frH29 r hs tt m pl y i)⟩
          [] trivial ?_
         apply aw_seq
         apply aw_seq
         refine aw_ent (T := ⟨92, [1, 2, 3], [(2, .i y), (4, .ls 3), (6, .l (.ref 1006 0)), (9, .l (.ref 1009 0)), (12, .ls 2005), (15, .l (.ref 1015 0)), (16, .i (i : Int)), (17, .l (.ref 1017 0)), (59, .i ys), (60, .i (i : Int))], (Rota_frH31 r hs tt m pl y i)⟩)
             (Ent.trans (Ent.nilCell 1017 70009 72 2 57 [.v (.slice none 0 0)] 0 (Lst eS ([] : List Spt)) rfl rfl (by omega) (by kernel_rfl) (by kernel_rfl)) (enr [(7001, 70009)] ⟨rfl, rfl, rfl, rfl, rfl, rfl, rfl, rfl, rfl, rfl, trivial⟩ (cro rfl (cro rfl (cbl rfl rfl (cbl rfl rfl (cbl rfl rfl (cbl rfl rfl (cro rfl (cve rfl (cbl rfl rfl (conts_cons rfl (le_vec (by first | rfl | omega | assumption | (rfl) | (rw [hVV] <;> rfl) | (rw [hV, hVV] <;> rfl)) el_rfl) trivial)))))))))))) ?_
         refine awr [(2, .call [3, 1015, 10680, 2001, 2, 1009, 1017, 7001] (.b (hs.any (rotB (openV tt r (y + (i : Int))) m))) [(1017, some (.blk 57 [.ls 10710])), (7001, none), (10710, some (Rota_frK32 tt r y i m hs))])]
          ⟨92, [1, 2, 3], [(2, .i y), (4, .ls 3), (6, .l (.ref 1006 0)), (9, .l (.ref 1009 0)), (12, .ls 2005), (15, .l (.ref 1015 0)), (16, .i (i : Int)), (17, .l (.ref 1017 0)), (59, .i ys), (60, .i (i : Int)), (72, .b (!(hs.any (rotB (openV tt r (y + (i : Int))) m))))], (Rota_frH33 r hs tt m pl y i)⟩
          [CallOK Try.prog 80 [.ls 3, .l (.fnc (.func 81) [1015, 1009, 1017])] [3, 1015, 10680, 2001, 2, 1009, 1017, 7001] [some (.ro 1 hs.length (Lst eI hs)), some (.blk 116 [.ref 10680 0]), some (Rota_frK27 tt r y i), some (Rota_frK19 tt), some (Rota_frK10 r), some (.blk 3 [.i m]), some (.blk 57 [.ls 7001]), some Rota_frK30] (.b (hs.any (rotB (openV tt r (y + (i : Int))) m))) [(1017, some (.blk 57 [.ls 10710])), (7001, none), (10710, some (Rota_frK32 tt r y i m hs))]] (al1 (cfr (rota_any (openV tt r (y + (i : Int))) m hs (by assumption) (by omega) (by first | assumption | exact hhB) (by omega)) [(0, 3), (1, 1015), (2, 1009), (3, 1017), (4, 10680), (5, 2001), (6, 2), (7, 7001), (8, 10710)] (dem_cons rfl (le_ro rfl el_rfl) (dem_cons rfl (le_blk_r rfl) (dem_cons rfl (le_blk_r rfl) (dem_cons rfl (le_ro (by first | omega | rfl | assumption) el_rfl) (dem_cons rfl (le_ro (by first | omega | rfl | assumption) el_rfl) (dem_cons rfl (le_blk_r rfl) (dem_cons rfl (le_blk rfl) (dem_cons rfl (le_vec rfl el_rfl) dem_nil)))))))))) ?_
         refine aw_cond (b := (!(hs.any (rotB (openV tt r (y + (i : Int))) m)))) rfl (fun h10 => ?_) (fun h10 => ?_)
         ·
          apply aw_seq
          have hVV : rotL r m hs y ys.toNat t 0 [] = ([], (i : Int), 7) := by rw [← hq, show ys.toNat - i = (ys.toNat - (i + 1)) + 1 by omega]; exact rotL_n (by simpa using (by assumption : (!(hs.any (rotB _ m))) = true))
          refine awr []
           ⟨92, [1, 2, 3], [(12, .l (.v (.slice none 0 0))), (13, .i (i : Int)), (14, .i 7)], []⟩
           [] trivial ?_
          exact aw_ret (ret_then (ret_block (ret_then (ret_then (ret_block (ret_then ⟨.inr rfl, eoks ⟨92, [1, 2, 3], [(12, .ls 9), (13, .i ((rotR t r y m hs ys).2.1)), (14, .i ((rotR t r y m hs ys).2.2))], [(9, some (Rota_frK14 t r y m hs ys))]⟩
              (Ent.trans (Ent.nilSlot 12 70010 57 1 (LstL 2 eS ((rotR t r y m hs ys).1)) rfl (by omega) (by kernel_rfl)) (enr [(9, 70010)] ⟨rfl, (slot_i rfl (by first | rfl | omega | assumption | (rw [hVV] <;> rfl) | (rw [hV, hVV] <;> rfl))), (slot_i rfl (by first | rfl | omega | assumption | (rw [hVV] <;> rfl) | (rw [hV, hVV] <;> rfl))), trivial⟩ (conts_cons rfl (le_vec (by first | rfl | omega | assumption | (rw [hVV] <;> rfl) | (rw [hV, hVV] <;> rfl)) el_rfl) trivial))) (wrs_none (wrs_none (wrs_none (wrs_cons rfl trivial wrs_nil))))⟩))))))
         ·
          apply aw_skip
          apply aw_seq
          refine awr []
           ⟨92, [1, 2, 3], [(2, .i y), (4, .ls 3), (6, .l (.ref 1006 0)), (9, .l (.ref 1009 0)), (12, .ls 2005), (15, .l (.ref 1015 0)), (16, .i (i : Int)), (17, .l (.ref 1017 0)), (59, .i ys), (60, .i (i : Int))], (Rota_frH33 r hs tt m pl y i)⟩
           [] trivial ?_
          apply aw_seq
          apply aw_seq
          obtain ⟨hfB, hfl, hfk⟩ := found_B hxo hm20.1 hhB (by simpa using (by assumption : (!(hs.any (rotB _ m))) = false))
          have hsl2 := spotsB_iff.1 hfB
          refine awr [(5, .call [2001, 10710] (.tup [.agg [.i ((drillV tt (y + (i : Int)) (foundL (openV tt r (y + (i : Int))) m hs)).year), .i ((drillV tt (y + (i : Int)) (foundL (openV tt r (y + (i : Int))) m hs)).glo), .i ((drillV tt (y + (i : Int)) (foundL (openV tt r (y + (i : Int))) m hs)).ghi), .i ((drillV tt (y + (i : Int)) (foundL (openV tt r (y + (i : Int))) m hs)).wlo), .i ((drillV tt (y + (i : Int)) (foundL (openV tt r (y + (i : Int))) m hs)).whi), .i ((drillV tt (y + (i : Int)) (foundL (openV tt r (y + (i : Int))) m hs)).health), .ls 10800], .one (.v (.bool (drillB tt (y + (i : Int)) (foundL (openV tt r (y + (i : Int))) m hs))))]) [(10800, some (Rota_frK34 tt y i r m hs))])]
           ⟨92, [1, 2, 3], [(2, .i y), (4, .ls 3), (6, .l (.ref 1006 0)), (9, .l (.ref 1009 0)), (12, .ls 2005), (15, .l (.ref 1015 0)), (16, .i (i : Int)), (17, .l (.ref 1017 0)), (18, .b (drillB tt (y + (i : Int)) (foundL (openV tt r (y + (i : Int))) m hs))), (59, .i ys), (60, .i (i : Int))], (Rota_frH36 r hs tt y i m pl)⟩
           [-9223372036854775808 ≤ (y + (i : Int)) ∧ (y + (i : Int)) < 9223372036854775808, CallOK Try.prog 77 [(Rota_frA25 tt), .i (y + (i : Int)), .ls 10710] [2001, 10710] [some (Rota_frK19 tt), some (Rota_frK32 tt r y i m hs)] (.tup [.agg [.i ((drillV tt (y + (i : Int)) (foundL (openV tt r (y + (i : Int))) m hs)).year), .i ((drillV tt (y + (i : Int)) (foundL (openV tt r (y + (i : Int))) m hs)).glo), .i ((drillV tt (y + (i : Int)) (foundL (openV tt r (y + (i : Int))) m hs)).ghi), .i ((drillV tt (y + (i : Int)) (foundL (openV tt r (y + (i : Int))) m hs)).wlo), .i ((drillV tt (y + (i : Int)) (foundL (openV tt r (y + (i : Int))) m hs)).whi), .i ((drillV tt (y + (i : Int)) (foundL (openV tt r (y + (i : Int))) m hs)).health), .ls 10800], .one (.v (.bool (drillB tt (y + (i : Int)) (foundL (openV tt r (y + (i : Int))) m hs))))]) [(10800, some (Rota_frK34 tt y i r m hs))]] (al2 (by omega) (al1 (cfr (drill_fr tt (y + (i : Int)) (foundL (openV tt r (y + (i : Int))) m hs) (by first | omega | (have := (girthE_0.1 (by assumption)).1.len; omega)) (by omega)) [(1, 2001), (3, 10710), (9, 10800)] (dem_cons rfl (le_ro rfl el_rfl) (dem_cons rfl (le_vec_ro rfl el_rfl) dem_nil))))) ?_
          apply aw_seq
          refine awr []
           ⟨92, [1, 2, 3], [(2, .i y), (4, .ls 3), (6, .l (.ref 1006 0)), (9, .l (.ref 1009 0)), (12, .ls 2005), (15, .l (.ref 1015 0)), (16, .i (i : Int)), (17, .l (.ref 1017 0)), (59, .i ys), (60, .i (i : Int)), (84, .b (!(drillB tt (y + (i : Int)) (foundL (openV tt r (y + (i : Int))) m hs))))], (Rota_frH36 r hs tt y i m pl)⟩
           [] trivial ?_
          refine aw_cond (b := (!(drillB tt (y + (i : Int)) (foundL (openV tt r (y + (i : Int))) m hs)))) rfl (fun h11 => ?_) (fun h11 => ?_)
          ·
           apply aw_seq
           have hVV : rotL r m hs y ys.toNat t 0 [] = ([], (i : Int), 8) := by rw [← hq, show ys.toNat - i = (ys.toNat - (i + 1)) + 1 by omega]; exact rotL_f (by simpa using (by assumption : (!(hs.any (rotB _ m))) = false)) (by simpa using (by assumption : (!(drillB _ _ _)) = true))
           refine awr []
            ⟨92, [1, 2, 3], [(12, .l (.v (.slice none 0 0))), (13, .i (i : Int)), (14, .i 8)], []⟩
            [] trivial ?_
           exact aw_ret (ret_then (ret_block (ret_then (ret_then (ret_block (ret_then ⟨.inr rfl, eoks ⟨92, [1, 2, 3], [(12, .ls 9), (13, .i ((rotR t r y m hs ys).2.1)), (14, .i ((rotR t r y m hs ys).2.2))], [(9, some (Rota_frK14 t r y m hs ys))]⟩
               (Ent.trans (Ent.nilSlot 12 70011 57 1 (LstL 2 eS ((rotR t r y m hs ys).1)) rfl (by omega) (by kernel_rfl)) (enr [(9, 70011)] ⟨rfl, (slot_i rfl (by first | rfl | omega | assumption | (rw [hVV] <;> rfl) | (rw [hV, hVV] <;> rfl))), (slot_i rfl (by first | rfl | omega | assumption | (rw [hVV] <;> rfl) | (rw [hV, hVV] <;> rfl))), trivial⟩ (conts_cons rfl (le_vec (by first | rfl | omega | assumption | (rw [hVV] <;> rfl) | (rw [hV, hVV] <;> rfl)) el_rfl) trivial))) (wrs_none (wrs_none (wrs_none (wrs_cons rfl trivial wrs_nil))))⟩))))))
          ·
           apply aw_skip
           refine awr [(2, .act [10710] (.ls 1088) [(10710, none), (1088, some (Rota_frK37 tt r y i m hs))]), (3, .lst 1089 (pl.length + 1) (LstL 2 eS (pl ++ ([(foundL (openV tt r (y + (i : Int))) m hs)]))))]
            ⟨92, [1, 2, 3], [(2, .i y), (4, .ls 3), (6, .l (.ref 1006 0)), (9, .l (.ref 1009 0)), (12, .ls 1089), (15, .l (.ref 1015 0)), (59, .i ys), (60, .i (i : Int))], (Rota_frH39 r hs tt y i m pl)⟩
            [ActOK Try.prog (.buildSlice 102 1 #[(0, (.tmp 87))]) 102 [.ls 10710] [10710] [some (Rota_frK32 tt r y i m hs)] (.ls 1088) [(10710, none), (1088, some (Rota_frK37 tt r y i m hs))], pl.length + 1 ≤ 1000000000000, (pl.length + 1) * 24 ≤ 140737488355328, AppOk 1 pl.length 1 (LstL 2 eS pl) (LstL 2 eS ([(foundL (openV tt r (y + (i : Int))) m hs)])) (pl.length + 1) (LstL 2 eS (pl ++ ([(foundL (openV tt r (y + (i : Int))) m hs)])))] (al2 (act_oneV (by kernel_rfl) (by kernel_rfl) (fun _ => rfl) rfl (by first | rfl | omega) rfl) (al2 (by omega) (al2 (by omega) (al1 (app_listL (by first | omega | rfl | assumption) (by first | omega | rfl | assumption)))))) ?_
           refine awr [(0, .num (((i + 1) : Nat) : Int))]
            ⟨92, [1, 2, 3], [(2, .i y), (4, .ls 3), (6, .l (.ref 1006 0)), (9, .l (.ref 1009 0)), (12, .ls 1089), (15, .l (.ref 1015 0)), (59, .i ys), (60, .i (((i + 1) : Nat) : Int))], (Rota_frH39 r hs tt y i m pl)⟩
            [((i : Int) + 1) = (((i + 1) : Nat) : Int), -9223372036854775808 ≤ (((i + 1) : Nat) : Int) ∧ (((i + 1) : Nat) : Int) < 9223372036854775808] (al2 (by omega) (al1 (by omega))) ?_
           exact ⟨((i + 1), (drillV tt (y + (i : Int)) (foundL (openV tt r (y + (i : Int))) m hs)), tt, (y + (i : Int)), (pl ++ [(foundL (openV tt r (y + (i : Int))) m hs)])), ⟨(by (try dsimp only); first | omega | rfl | assumption | (simp; done)), (by (try dsimp only); intro h1; exact (by have q := drill_start hst2 hfB (by simpa using (by assumption : (!(drillB _ _ _)) = false)) (by omega); rw [show y + (((i + 1) : Nat) : Int) = y + (i : Int) + 1 by omega]; exact q)), (by (try dsimp only); exact drill_len (by simpa using (by assumption : (!(drillB _ _ _)) = false))), (by (try dsimp only); (rw [List.length_append, hpl]; rfl)), (by (try dsimp only); rw [← hq, show ys.toNat - i = (ys.toNat - (i + 1)) + 1 by omega]; exact (rotL_s (by simpa using (by assumption : (!(hs.any (rotB _ m))) = false)) (by simpa using (by assumption : (!(drillB _ _ _)) = false))).symm)⟩, (show ys.toNat - (i + 1) < ys.toNat - i by first | omega | rfl | assumption),
               (enr [(2005, 1089), (2001, 10800), (2002, 10680), (2003, 2001)] ⟨rfl, rfl, rfl, rfl, rfl, rfl, rfl, rfl, trivial⟩ (cro rfl (cro rfl (cbl rfl rfl (cbl rfl rfl (cbl rfl rfl (cvr rfl (cbr rfl rfl (cro rfl (conts_cons rfl (le_vec (by first | rfl | omega | assumption | (rfl) | ((simp; done)) | (rw [hVV] <;> rfl) | (rw [hV, hVV] <;> rfl)) el_rfl) trivial))))))))))⟩
        ·
         have h9p : ys ≤ (i : Int) := dlt h9
         refine aw_exit (exit_then (exit_then (exit_in ?_)))
         apply aw_seq
         have hVV : rotL r m hs y ys.toNat t 0 [] = (pl, 0, 0) := by rw [← hq, show ys.toNat - i = 0 by omega]; rfl
         refine awr []
          ⟨92, [1, 2, 3], [(12, .ls 2005), (13, .i 0), (14, .i 0)], [(2005, some (Rota_frK22 pl))]⟩
          [] trivial ?_
         exact aw_ret ⟨.inr rfl, eoks ⟨92, [1, 2, 3], [(12, .ls 9), (13, .i ((rotR t r y m hs ys).2.1)), (14, .i ((rotR t r y m hs ys).2.2))], [(9, some (Rota_frK14 t r y m hs ys))]⟩
             (enr [(9, 2005)] ⟨rfl, (slot_i rfl (by first | rfl | omega | assumption | (rw [hVV] <;> rfl) | (rw [hV, hVV] <;> rfl))), (slot_i rfl (by first | rfl | omega | assumption | (rw [hVV] <;> rfl) | (rw [hV, hVV] <;> rfl))), trivial⟩ (conts_cons rfl (le_vec (by first | rfl | omega | assumption | (rw [hVV] <;> rfl) | (rw [hV, hVV] <;> rfl)) (lstL_eq (by first | rfl | omega | assumption | (rw [hVV] <;> rfl) | (rw [hV, hVV] <;> rfl)))) trivial)) (wrs_none (wrs_none (wrs_none (wrs_cons rfl trivial wrs_nil))))⟩
 ·
  have hz0 : startE t r y ≠ 0 := deq h1
  refine aw_ent (T := ⟨92, [1, 2, 3], [(2, .i y), (4, .ls 3), (5, .i ys), (6, .l (.ref 1006 0)), (7, .l (.ref 1007 0)), (9, .l (.ref 1009 0)), (12, .l (.v (.slice none 0 0)))], (Rota_frH11 t r hs m)⟩)
      (enr [] ⟨rfl, rfl, rfl, rfl, rfl, rfl, rfl, trivial⟩ (cvr rfl (cvr rfl (cvr rfl (cbl rfl rfl (cbl rfl rfl (cbl rfl rfl trivial))))))) ?_
  refine awr [(3, .call [1, 2] (.tup [.one (.v (.pointer none)), .one (.i (startE t r y))]) []), (7, .new 1015)]
   ⟨92, [1, 2, 3], [(2, .i y), (4, .ls 3), (5, .i ys), (6, .l (.ref 1006 0)), (9, .l (.ref 1009 0)), (12, .l (.v (.slice none 0 0))), (14, .i (startE t r y)), (15, .l (.ref 1015 0))], (Rota_frH40 t hs m)⟩
   [CallOK Try.prog 61 [(Rota_frA1 t), (Rota_frA2 r), .i y] [1, 2] [some (Rota_frK9 t), some (Rota_frK10 r)] (.tup [.one (.v (.pointer none)), .one (.i (startE t r y))]) []] (al1 (cfr (open_bad_fr t r y (by first | omega | (simp; done) | assumption) (by first | omega | (simp; done) | assumption) (deq h1)) [(1, 1), (2, 2)] (dem_cons rfl (le_ro rfl el_rfl) (dem_cons rfl (le_ro rfl el_rfl) dem_nil)))) ?_
  apply aw_seq
  apply aw_block
  apply aw_seq
  refine awr []
   ⟨92, [1, 2, 3], [(2, .i y), (4, .ls 3), (5, .i ys), (6, .l (.ref 1006 0)), (9, .l (.ref 1009 0)), (12, .l (.v (.slice none 0 0))), (14, .i (startE t r y)), (15, .l (.ref 1015 0)), (26, .b (decide ((startE t r y) ≠ 0)))], (Rota_frH40 t hs m)⟩
   [] trivial ?_
  have h12 : (decide ((startE t r y) ≠ 0)) = true := by simp_all
  refine aw_cond (b := decide ((startE t r y) ≠ 0)) rfl (fun _ => ?_) (fun h => Bool.noConfusion (h12.symm.trans h))
  apply aw_seq
  have hVV := rotR_1 (m := m) (hs := hs) (ys := ys) hz0
  refine awr []
   ⟨92, [1, 2, 3], [(12, .l (.v (.slice none 0 0))), (13, .i 0), (14, .i (startE t r y))], []⟩
   [] trivial ?_
  exact aw_ret (ret_block (ret_then ⟨.inr rfl, eoks ⟨92, [1, 2, 3], [(12, .ls 9), (13, .i ((rotR t r y m hs ys).2.1)), (14, .i ((rotR t r y m hs ys).2.2))], [(9, some (Rota_frK14 t r y m hs ys))]⟩
      (Ent.trans (Ent.nilSlot 12 70012 57 1 (LstL 2 eS ((rotR t r y m hs ys).1)) rfl (by omega) (by kernel_rfl)) (enr [(9, 70012)] ⟨rfl, (slot_i rfl (by first | rfl | omega | assumption | (rw [hVV] <;> rfl) | (rw [hV, hVV] <;> rfl))), (slot_i rfl (by first | rfl | omega | assumption | (rw [hVV] <;> rfl) | (rw [hV, hVV] <;> rfl))), trivial⟩ (conts_cons rfl (le_vec (by first | rfl | omega | assumption | (rw [hVV] <;> rfl) | (rw [hV, hVV] <;> rfl)) el_rfl) trivial))) (wrs_none (wrs_none (wrs_none (wrs_cons rfl trivial wrs_nil))))⟩))
end Go.Proofs.Ytbpblhmigijkaaa
