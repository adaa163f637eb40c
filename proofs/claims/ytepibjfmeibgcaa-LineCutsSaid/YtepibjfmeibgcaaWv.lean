/- What line.Plan returns where nothing is wrong. -/
import Derived.Test.YtepibjfmeibgcaaWt
import Derived.Test.YtepibjfmeibgcaaWu
import Derived.Deep.RegionLaw
namespace Go.Proofs.Ytepibjfmeibgcaa
open Go.RowKit Go.Shelf
open Go.Maps (Keyed)
set_option linter.unusedVariables false
set_option maxHeartbeats 800000 in
set_option maxRecDepth 100000 in
theorem plan_need (n : Net) (A B D : Option Addr) (c lf cb cd lo hi : Nat) (need : Int) (l1 v1 l2 v2 : List Int) (bores : List Bor) (m : Nat) (w : World) (hR : RdO w lo hi D bores) (hhi : hi ≤ w.heap.size) (he : bores.length ≤ 6) (h0 : 0 < bores.length) (hb : boresB bores = true) (hneed : inB 0 10000 need = false)
    (h : ∀ o, Calls Try.prog 57 #[.agg #[.int .i64 n.pump, .slice A n.pipes.length c], .slice B lf cb, .slice none 0 0] (w.alloc o) fun e w' => BothR (w.alloc o).heap.size e w' m l1 v1 l2 v2 0 ∧ Below (w.alloc o).heap.size (w.alloc o) w') :
    Calls Try.prog 16 #[.agg #[.int .i64 n.pump, .slice A n.pipes.length c], .slice B lf cb, .slice D bores.length cd, .int .i64 need] w fun e w' => PlanR w.heap.size e w' [] 0 3 ∧ Below w.heap.size w w' := by
  have H := Lib.hid h
  have HN := Lib.hid hneed
  have hb2 := Lib.hid hb
  have h1 : ((bores.length : Int) == 0) = false := by simp; exact fun h => by simp [h] at h0
  clear h hneed hb
  go_enter Try.func16, Try.ntmps16
  go_wp2_with (first
      | (go_at_call 57; refine (H.out _).mono ?_; rintro e w1 ⟨⟨A1, A2, A3, A4, rfl, a1, a2, a3, a4⟩, hb⟩; have hB1 := Below.step (B := w.heap.size) (a := w) (by repeat (first | exact Below.refl _ _ | exact (Below.refl _ _) | assumption | (refine Below.setCell ?_ (by first | omega | (simp; done) | (simp; omega) | (simp [World.setCell]; done) | (simp [World.setCell]; omega)) _) | (refine Below.alloc ?_ (by first | omega | (simp; done) | (simp; omega) | (simp [World.setCell]; done) | (simp [World.setCell]; omega)) _) | (refine Below.drewN_ ?_ _) | (refine Below.drew ?_))) hb (by first | omega | (simp; done) | (simp; omega) | (simp [World.setCell]; done) | (simp [World.setCell]; omega)); have hz1 := hb.size; simp only [World.size_alloc] at hz1; obtain ⟨la0, la1, la2, la3, la4, la5⟩ := lt6 (show w.heap.size < w1.heap.size by omega))
      | (go_at_call 58; refine (containsB_ D cd lo hi bores _ (((hR.below hB1 hhi).alloc (by omega) _).alloc (by simp; omega) _) (by simp; omega) (by unfold maxLen; omega)).mono ?_; rintro e w2 ⟨rfl, hb2'⟩; rw [hb2.out]; have hB2 := Below.step (B := w.heap.size) (a := w) (by repeat (first | exact Below.refl _ _ | exact (Below.refl _ _) | assumption | (refine Below.setCell ?_ (by first | omega | (simp; done) | (simp; omega) | (simp [World.setCell]; done) | (simp [World.setCell]; omega)) _) | (refine Below.alloc ?_ (by first | omega | (simp; done) | (simp; omega) | (simp [World.setCell]; done) | (simp [World.setCell]; omega)) _) | (refine Below.drewN_ ?_ _) | (refine Below.drew ?_))) hb2' (by first | omega | (simp; done) | (simp; omega) | (simp [World.setCell]; done) | (simp [World.setCell]; omega)); have hz2 := hb2'.size; simp only [World.size_alloc] at hz2)
      | (go_at_call 61; refine (within_one 0 10000 need _ _ _ (by go_simp) (by go_simp)).mono ?_; rintro e w' ⟨rfl, o1, o2, rfl⟩; rw [HN.out]))
  go_ret3
  exact ⟨planR_nil _ _, (by repeat (first | exact Below.refl _ _ | exact (Below.refl _ _) | assumption | (refine Below.setCell ?_ (by first | omega | (simp; done) | (simp; omega) | (simp [World.setCell]; done) | (simp [World.setCell]; omega)) _) | (refine Below.alloc ?_ (by first | omega | (simp; done) | (simp; omega) | (simp [World.setCell]; done) | (simp [World.setCell]; omega)) _) | (refine Below.drewN_ ?_ _) | (refine Below.drew ?_)))⟩
theorem infoRow : (Try.prog.info? 31).map (fun i => (i.zero, i.size, i.bytes)) = some (some (.slice none 0 0), 1, 24) := by kernel_rfl
theorem grown_setrow {W V : World} {r : Nat} (h : W.grownBy V (some r)) {p : Addr} (hp : p.block = r) (u : Value) : W.grownBy (V.setCell p u) (some r) :=
  ⟨h.os, h.tape, h.output, by have := h.size; simpa [World.setCell] using this, fun k hk hr => (Below.heap_setCell _ _ _ _ (fun e => hr (by rw [e, hp]))).trans (h.block k hk hr)⟩
theorem BlkI.grow {w w' : World} {g : Nat} {xs : List Int} {r : Option Nat} (h : BlkI w g xs) (hg : w.grownBy w' r) (hne : some g ≠ r) : BlkI w' g xs := by
  have hl := h.lt
  obtain ⟨cur, h, ht⟩ := h
  exact ⟨cur, (hg.block _ hl hne).trans h, ht⟩
theorem map_I_flat (xs : List Int) : xs.map I = xs.flatMap encI := by
  induction xs with
  | nil => rfl
  | cons x xs ih => rw [List.map_cons, ih]; rfl
/-- The choices read from the pump on: the vacuums and the bores. -/
def plF (rec : Nat → Int → Cho) : List Pipe → List Int → List Int → List Int × List Int
  | [], vs, bs => (vs, bs)
  | p :: ps, vs, bs => plF rec ps (vs ++ [(rec vs.length (vs.getD p.parent.toNat 0)).vac]) (bs ++ [(rec vs.length (vs.getD p.parent.toNat 0)).index])
theorem plF_snoc (rec : Nat → Int → Cho) (p : Pipe) : ∀ (ps : List Pipe) (vs bs : List Int), plF rec (ps ++ [p]) vs bs =
    ((plF rec ps vs bs).1 ++ [(rec (plF rec ps vs bs).1.length ((plF rec ps vs bs).1.getD p.parent.toNat 0)).vac], (plF rec ps vs bs).2 ++ [(rec (plF rec ps vs bs).1.length ((plF rec ps vs bs).1.getD p.parent.toNat 0)).index]) := by
  intro ps
  induction ps with
  | nil => intro vs bs; rfl
  | cons q ps ih => intro vs bs; simp only [List.cons_append, plF]; exact ih _ _
theorem plF_len (rec : Nat → Int → Cho) : ∀ (ps : List Pipe) (vs bs : List Int), (plF rec ps vs bs).1.length = vs.length + ps.length ∧ (plF rec ps vs bs).2.length = bs.length + ps.length := by
  intro ps
  induction ps with
  | nil => intro vs bs; exact ⟨rfl, rfl⟩
  | cons q ps ih => intro vs bs; simp only [plF, ih, List.length_append, List.length_cons, List.length_nil]; omega
def planL (ps : List Pipe) (loads : List Int) (bores : List Bor) (need pump : Int) : List Int := (plF (atL ps loads bores need) (ps.drop 1) [pump] []).2
/-- What Plan comes to where nothing is wrong. -/
def planF (ps : List Pipe) (loads : List Int) (bores : List Bor) (need pump : Int) : List Int × Int × Int :=
  if (allF (atL ps loads bores need) pump (kids ps 0) 0).2 then (planL ps loads bores need pump, (allF (atL ps loads bores need) pump (kids ps 0) 0).1, 0) else ([], 0, 7)
/-- The nodes before m whose parent is a node. -/
def kidsTo (ps : List Pipe) (m q : Nat) : List Int := ((List.range m).filter fun (j : Nat) => decide (0 < j ∧ par ps j = q)).map Int.ofNat
theorem kidsTo_all (ps : List Pipe) (q : Nat) : kidsTo ps ps.length q = (kids ps q).map Int.ofNat := rfl
theorem kidsTo_one (ps : List Pipe) : kidsTo ps 1 = fun _ => [] := by funext q; simp [kidsTo, List.range_succ]
theorem kidsTo_succ (ps : List Pipe) (k p : Nat) (hp : par ps ((k + 1 : Nat) : Int) = (p : Int)) : kidsTo ps (k + 1 + 1) = fun i => if i = p then kidsTo ps (k + 1) p ++ [((k : Int) + 1)] else kidsTo ps (k + 1) i := by
  funext q
  unfold kidsTo
  rw [List.range_succ, List.filter_append, List.map_append]
  by_cases h : q = p
  · subst h
    rw [if_pos rfl]
    simp [List.filter_cons]
    rw [if_pos (by simpa using hp)]
    simp
  · rw [if_neg h]
    have : ¬ par ps ((k + 1 : Nat) : Int) = (q : Int) := by rw [hp]; omega
    simp [List.filter_cons]
    simp at this
    simp [this]
theorem kidsTo_len (ps : List Pipe) (m q : Nat) : (kidsTo ps m q).length ≤ m := by
  unfold kidsTo
  have := List.length_filter_le (fun (j : Nat) => decide (0 < j ∧ par ps j = q)) (List.range m)
  rw [List.length_range] at this
  rw [List.length_map]; exact this
set_option maxHeartbeats 2000000 in
set_option maxRecDepth 100000 in
theorem plan_main (n : Net) (A B D : Option Addr) (c lf cb cd lo hi lop hip : Nat) (need : Int) (l1 v1 l2 v2 : List Int) (bores : List Bor) (w : World) (hP : RdP w lop hip A n.pipes) (hhp : hip ≤ w.heap.size) (hpc : n.pipes.length ≤ c) (hR : RdO w lo hi D bores) (hhi : hi ≤ w.heap.size) (h0 : 0 < bores.length) (hn1 : 1 ≤ n.pipes.length) (hpump : 0 ≤ n.pump ∧ n.pump ≤ 10000)
    (hok : PlOk n.pipes l2 bores need n.pump)
    (h : ∀ o, Calls Try.prog 57 #[.agg #[.int .i64 n.pump, .slice A n.pipes.length c], .slice B lf cb, .slice none 0 0] (w.alloc o) fun e w' => BothR (w.alloc o).heap.size e w' n.pipes.length l1 v1 l2 v2 0 ∧ Below (w.alloc o).heap.size (w.alloc o) w') :
    Calls Try.prog 16 #[.agg #[.int .i64 n.pump, .slice A n.pipes.length c], .slice B lf cb, .slice D bores.length cd, .int .i64 need] w fun e w' => PlanR w.heap.size e w' (planF n.pipes l2 bores need n.pump).1 (planF n.pipes l2 bores need n.pump).2.1 (planF n.pipes l2 bores need n.pump).2.2 ∧ Below w.heap.size w w' := by
  have H := Lib.hid h
  have HN := Lib.hid (show inB 0 10000 need = true from inB_mk hok.need)
  have hb2 := Lib.hid hok.b
  have he := hok.bn
  have h1 : ((bores.length : Int) == 0) = false := by simp; exact fun h => by simp [h] at h0
  clear h
  go_enter Try.func16, Try.ntmps16
  go_upto_region 10 with (first
      | (go_at_call 57; refine (H.out _).mono ?_; rintro e w1 ⟨⟨A1, A2, A3, A4, rfl, a1, a2, a3, a4⟩, hb⟩; have hB1 := Below.step (B := w.heap.size) (a := w) (by repeat (first | exact Below.refl _ _ | exact (Below.refl _ _) | assumption | (refine Below.setCell ?_ (by first | omega | (simp; done) | (simp; omega) | (simp [World.setCell]; done) | (simp [World.setCell]; omega)) _) | (refine Below.alloc ?_ (by first | omega | (simp; done) | (simp; omega) | (simp [World.setCell]; done) | (simp [World.setCell]; omega)) _) | (refine Below.drewN_ ?_ _) | (refine Below.drew ?_))) hb (by first | omega | (simp; done) | (simp; omega) | (simp [World.setCell]; done) | (simp [World.setCell]; omega)); have hz1 := hb.size; simp only [World.size_alloc] at hz1; obtain ⟨la0, la1, la2, la3, la4, la5⟩ := lt6 (show w.heap.size < w1.heap.size by omega))
      | (go_at_call 58; refine (containsB_ D cd lo hi bores _ (((hR.below hB1 hhi).alloc (by omega) _).alloc (by simp; omega) _) (by simp; omega) (by unfold maxLen; omega)).mono ?_; rintro e w2 ⟨rfl, hb2'⟩; rw [hb2.out]; have hB2 := Below.step (B := w.heap.size) (a := w) (by repeat (first | exact Below.refl _ _ | exact (Below.refl _ _) | assumption | (refine Below.setCell ?_ (by first | omega | (simp; done) | (simp; omega) | (simp [World.setCell]; done) | (simp [World.setCell]; omega)) _) | (refine Below.alloc ?_ (by first | omega | (simp; done) | (simp; omega) | (simp [World.setCell]; done) | (simp [World.setCell]; omega)) _) | (refine Below.drewN_ ?_ _) | (refine Below.drew ?_))) hb2' (by first | omega | (simp; done) | (simp; omega) | (simp [World.setCell]; done) | (simp [World.setCell]; omega)); have hz2 := hb2'.size; simp only [World.size_alloc] at hz2)
      | (go_at_call 61; refine (within_one 0 10000 need _ _ _ (by go_simp) (by go_simp)).mono ?_; rintro e w' ⟨rfl, o1, o2, rfl⟩; rw [HN.out]))
  have hE1 : Below w1.heap.size w1 (((w2.alloc (.cells #[.int .i64 need] 3)).alloc o1).alloc o2) := (((((((Below.refl _ w1).alloc (Nat.le_refl _) _).alloc (by simp) _).trans (hb2'.mono (by simp; omega))).alloc (by omega) _).alloc (by simp; omega) _).alloc (by simp; omega) _)
  have hNet : Blk (((w2.alloc (.cells #[.int .i64 need] 3)).alloc o1).alloc o2) w.heap.size 24 #[.int .i64 n.pump, .slice A n.pipes.length c] := (((Blk.new w _ _).below hb (by simp)).below hE1 (by omega))
  have hM3 : Blk (((w2.alloc (.cells #[.int .i64 need] 3)).alloc o1).alloc o2) (w1.heap.size + 1) 103 #[.slice A3 n.pipes.length n.pipes.length, .slice A4 n.pipes.length n.pipes.length] := ((((blk_new' (w1.alloc _) _ _ _ (by simp)).below hb2' (by simp)).alloc _).alloc _).alloc _
  have hl2 := a3.below hE1 (Nat.le_refl _)
  have hEB : Below w.heap.size w (((w2.alloc (.cells #[.int .i64 need] 3)).alloc o1).alloc o2) := hB1.trans (hE1.mono (by omega))
  have hES : w1.heap.size + 1 < (((w2.alloc (.cells #[.int .i64 need] 3)).alloc o1).alloc o2).heap.size := by simp; omega
  clear a1 a2 a3 a4 hb2' hB2 hE1 hb hz2 la0 la1 la2 la3 la4 la5
  generalize ((w2.alloc (.cells #[.int .i64 need] 3)).alloc o1).alloc o2 = V0 at *
  have n0 := hNet.cell 0; have nf0 := hNet.frozen 0; have n1 := hNet.cell 1; have nf1 := hNet.frozen 1; simp at n0 n1
  have s0 := hM3.cell 0; have sf0 := hM3.frozen 0; have s1 := hM3.cell 1; have sf1 := hM3.frozen 1; simp at s0 s1
  obtain ⟨i0, ei0, ez0, ez1, ez2⟩ := info_parts infoRow
  have hmk := run_make_cell (P := Try.prog) Try.underlying112 ei0 ez0 ez1 (by omega) rfl n.pipes.length (by have := hok.n; omega)
  have hmm := @run_makeMap Try.prog
  clear ei0 ez0 ez1 ez2
  have hnl := hNet.lt
  go_cut [13] from 49 to 61 (fun v13 wx => ∃ bc bm bx : Nat, v13 = .pointer (some ⟨bx, 0, none⟩) ∧ Blk wx bx 115 #[.int .i64 n.pump, .slice A n.pipes.length c, .slice A3 n.pipes.length n.pipes.length, .slice (some ⟨bc, 0, none⟩) n.pipes.length n.pipes.length, .slice D bores.length cd, .int .i64 need, .map (some bm)] ∧
      Blk wx bc 31 (List.replicate n.pipes.length (.slice none 0 0)).toArray ∧ PlT n.pipes l2 bores need wx bm ∧ bc ≠ bm ∧ bx ≠ bm ∧ bc ≠ bx ∧ V0.heap.size ≤ bc ∧ V0.heap.size ≤ bm ∧ V0.heap.size ≤ bx ∧ Below V0.heap.size V0 wx)
  case first =>
    go_region_held3 (fun w' => w'.cell? ⟨w.heap.size, 0, none⟩ = some (.int .i64 n.pump) ∧ w'.cell? ⟨w.heap.size, 1, none⟩ = some (.slice A n.pipes.length c) ∧ w'.cell? ⟨w1.heap.size + 1, 0, none⟩ = some (.slice A3 n.pipes.length n.pipes.length)) (first | exact ⟨n0, n1, s0⟩ | exact ⟨(Below.cell (B := V0.heap.size) (w := V0) (by repeat (first | exact Below.refl _ _ | exact (Below.refl _ _) | assumption | (refine Below.setCell ?_ (by first | omega | (simp; done) | (simp; omega) | (simp [World.setCell]; done) | (simp [World.setCell]; omega)) _) | (refine Below.alloc ?_ (by first | omega | (simp; done) | (simp; omega) | (simp [World.setCell]; done) | (simp [World.setCell]; omega)) _) | (refine Below.drewN_ ?_ _) | (refine Below.drew ?_))) (by omega)).trans n0, (Below.cell (B := V0.heap.size) (w := V0) (by repeat (first | exact Below.refl _ _ | exact (Below.refl _ _) | assumption | (refine Below.setCell ?_ (by first | omega | (simp; done) | (simp; omega) | (simp [World.setCell]; done) | (simp [World.setCell]; omega)) _) | (refine Below.alloc ?_ (by first | omega | (simp; done) | (simp; omega) | (simp [World.setCell]; done) | (simp [World.setCell]; omega)) _) | (refine Below.drewN_ ?_ _) | (refine Below.drew ?_))) (by omega)).trans n1, (Below.cell (B := V0.heap.size) (w := V0) (by repeat (first | exact Below.refl _ _ | exact (Below.refl _ _) | assumption | (refine Below.setCell ?_ (by first | omega | (simp; done) | (simp; omega) | (simp [World.setCell]; done) | (simp [World.setCell]; omega)) _) | (refine Below.alloc ?_ (by first | omega | (simp; done) | (simp; omega) | (simp [World.setCell]; done) | (simp [World.setCell]; omega)) _) | (refine Below.drewN_ ?_ _) | (refine Below.drew ?_))) (by omega)).trans s0⟩) (fail)
    all_goals (go_wp2_with fail; go_meet)
    all_goals rw [← List.toArray_replicate]
    all_goals first
      | exact ⟨V0.heap.size, V0.heap.size + 1, V0.heap.size + 1 + 1, rfl, (by repeat (first | (with_reducible refine Blk.drew ?_) | ((with_reducible refine blk_new' _ _ _ _ ?_); (simp; done)) | (with_reducible refine Blk.alloc ?_ _))), (by repeat (first | (with_reducible refine Blk.drew ?_) | ((with_reducible refine blk_new' _ _ _ _ ?_); (simp; done)) | (with_reducible refine Blk.alloc ?_ _))), ((tab_new' _ _ _ _ _ (by simp)).alloc _).drew, by omega, by omega, by omega, by omega, by omega, by omega, (by repeat (first | exact Below.refl _ _ | exact (Below.refl _ _) | assumption | (refine Below.setCell ?_ (by first | omega | (simp; done) | (simp; omega) | (simp [World.setCell]; done) | (simp [World.setCell]; omega)) _) | (refine Below.alloc ?_ (by first | omega | (simp; done) | (simp; omega) | (simp [World.setCell]; done) | (simp [World.setCell]; omega)) _) | (refine Below.drewN_ ?_ _) | (refine Below.drew ?_)))⟩
      | exact ⟨V0.heap.size + 1, V0.heap.size, V0.heap.size + 1 + 1, rfl, (by repeat (first | (with_reducible refine Blk.drew ?_) | ((with_reducible refine blk_new' _ _ _ _ ?_); (simp; done)) | (with_reducible refine Blk.alloc ?_ _))), (by repeat (first | (with_reducible refine Blk.drew ?_) | ((with_reducible refine blk_new' _ _ _ _ ?_); (simp; done)) | (with_reducible refine Blk.alloc ?_ _))), (((tab_new' _ _ _ _ _ rfl).alloc _).alloc _).drew, by omega, by omega, by omega, by omega, by omega, by omega, (by repeat (first | exact Below.refl _ _ | exact (Below.refl _ _) | assumption | (refine Below.setCell ?_ (by first | omega | (simp; done) | (simp; omega) | (simp [World.setCell]; done) | (simp [World.setCell]; omega)) _) | (refine Below.alloc ?_ (by first | omega | (simp; done) | (simp; omega) | (simp [World.setCell]; done) | (simp [World.setCell]; omega)) _) | (refine Below.drewN_ ?_ _) | (refine Below.drew ?_)))⟩
  case rest =>
    obtain ⟨bc, bm, bx, rfl, hX, hC, hT, e1, e2, e3, z1, z2, z3, hBc⟩ := hcut
    have hp1 := (hP.below hEB hhp).below hBc (by have := hEB.size; omega)
    have hNetc := hNet.below hBc hnl
    clear n0 n1 s0 s1 nf0 nf1 sf0 sf1
    have n0 := hNetc.cell 0; have nf0 := hNetc.frozen 0; have n1 := hNetc.cell 1; have nf1 := hNetc.frozen 1; simp at n0 n1
    have hnc := hNetc.lt
    have hmx := hX.lt
    have hmc := hC.lt
    have hmt := hT.lt
    have HR0 : KR 31 3 wc.heap.size wc bc n.pipes.length (fun _ => []) := KR.new hC
    have hpl := hok.n
    obtain ⟨i5, ei5, ey0, ey1, ey2⟩ := info_parts infoPipe
    have ei5' := ei5
    have ey1' := ey1
    obtain ⟨A5, hA5, hsl⟩ := run_from1 (P := Try.prog) Try.underlying22 ei5 A n.pipes.length c hn1
    rw [ey1] at hA5
    have hR5 := hp1.from1 hpc hA5
    obtain ⟨i3, ei3, ez0, ez1, ez2⟩ := info_parts infoInt
    clear hA5 ei5 ey0 ey1 ey2
    go_wp2_with fail
    go_loopw [66] (fun i wr => ∃ k : Nat, k ≤ n.pipes.length - 1 ∧ i = .int .i64 k ∧ KR 31 3 wc.heap.size wr bc n.pipes.length (kidsTo n.pipes (k + 1)) ∧ wc.grownBy wr (some bc)) (fun i _ => n.pipes.length - 1 - (intOf i).toNat)
    case atStart => exact ⟨0, by omega, rfl, by rw [kidsTo_one]; exact HR0, World.grownBy.refl _ _⟩
    case round =>
      obtain ⟨k, hk, rfl, hKR, hg⟩ := hrel
      have hzz := hg.size
      by_cases hlt : k < n.pipes.length - 1
      · have hlt2 : k + 1 < n.pipes.length := by omega
        have hlt3 : (k : Int) < ((n.pipes.length - 1 : Nat) : Int) := by omega
        have hK := Kp.grown (N := wc.heap.size) (bm := bc) (W0 := wc) ⟨Nat.le_refl _, fun _ _ _ => rfl⟩ hg
        have hX1 := hK.blk hX hmx (by omega)
        obtain ⟨b, off, rfl, _, hbb, c0, c1, c2, c3, c4⟩ := RdP.at_ (hK.rd hR5 ⟨by have := hEB.size; have := hBc.size; omega, .inl (by have := hEB.size; omega)⟩) (show k < (n.pipes.drop 1).length by rw [List.length_drop]; omega)
        rw [show (n.pipes.drop 1)[k]'(by rw [List.length_drop]; omega) = n.pipes[k + 1] by rw [List.getElem_drop]; congr 1; omega] at c0 c1 c2 c3 c4
        obtain ⟨q, hq, hqk⟩ := hid_par (ps := n.pipes) (x := k + 1) (p := n.pipes[k + 1]) (pAt_eq hlt2) hok.t (by omega) hlt2
        have hpar : par n.pipes ((k + 1 : Nat) : Int) = (q : Int) := by rw [← hq, ← pAt_eq hlt2]; unfold par pAt; rw [Int.toNat_natCast]
        have hstep := Lib.hid (kidsTo_succ n.pipes k q hpar)
        rw [hq] at c0
        obtain ⟨v, hv, hrow⟩ := hKR.at_ (show q < n.pipes.length by omega)
        have hfz := hKR.frozen q
        have hlen := kidsTo_len n.pipes (k + 1) q
        clear hq hpar
        generalize n.pipes[k + 1] = pp at *
        have hq3 : (q : Int) < (n.pipes.length : Int) := by omega
        have x3 := hX1.cell 3
        simp at x3
        have hnb := hKR.lt
        have hvx : v.ownBlock ≠ some bx := fun e => by have := (owns_lt hrow e).1; omega
        have hvb : v.ownBlock ≠ some bc ∧ v.ownBlock ≠ some wr.heap.size := ⟨fun e => by have := (owns_lt hrow e).1; omega, fun e => by have := (owns_lt hrow e).2; omega⟩
        obtain ⟨lb0, lb1, lb2, lb3, lb4, lb5⟩ := lt6 (show bc < wr.heap.size by omega)
        have hlx : bx < wr.heap.size := by omega
        obtain ⟨lx0, lx1, lx2, lx3, lx4, lx5⟩ := lt6 (show bx < wr.heap.size by omega)
        go_wp2_with fail
        have u3 : (wr.alloc (.cells #[.int .i64 (q : Int), .int .i64 pp.length, .int .i64 pp.bore, .int .i64 pp.drop, .int .i64 pp.taps] 54)).cell? ⟨bx, 3, none⟩ = _ := (World.cell?_alloc_lt _ _ _ hlx).trans x3
        have uv : (wr.alloc (.cells #[.int .i64 (q : Int), .int .i64 pp.length, .int .i64 pp.bore, .int .i64 pp.drop, .int .i64 pp.taps] 54)).cell? ⟨bc, q, none⟩ = _ := (World.cell?_alloc_lt _ _ _ hnb).trans hv
        have uf : (wr.alloc (.cells #[.int .i64 (q : Int), .int .i64 pp.length, .int .i64 pp.bore, .int .i64 pp.drop, .int .i64 pp.taps] 54)).frozen? ⟨bc, q, none⟩ = false := (World.frozen?_of_block (a := ⟨bc, q, none⟩) (Below.heap_alloc _ _ _ hnb)).trans hfz
        have up : (wr.alloc (.cells #[.int .i64 (q : Int), .int .i64 pp.length, .int .i64 pp.bore, .int .i64 pp.drop, .int .i64 pp.taps] 54)).cell? ⟨wr.heap.size, 0, none⟩ = some (.int .i64 (q : Int)) := (Blk.new wr 54 #[.int .i64 (q : Int), .int .i64 pp.length, .int .i64 pp.bore, .int .i64 pp.drop, .int .i64 pp.taps]).cell 0
        have urow := hrow.alloc (.cells #[.int .i64 (q : Int), .int .i64 pp.length, .int .i64 pp.bore, .int .i64 pp.drop, .int .i64 pp.taps] 54)
        have uKR := hKR.grown (World.grownBy_alloc wr (.cells #[.int .i64 (q : Int), .int .i64 pp.length, .int .i64 pp.bore, .int .i64 pp.drop, .int .i64 pp.taps] 54) none)
        have ug := grown_alloc hg (.cells #[.int .i64 (q : Int), .int .i64 pp.length, .int .i64 pp.bore, .int .i64 pp.drop, .int .i64 pp.taps] 54)
        have un : wr.heap.size < (wr.alloc (.cells #[.int .i64 (q : Int), .int .i64 pp.length, .int .i64 pp.bore, .int .i64 pp.drop, .int .i64 pp.taps] 54)).heap.size := by simp
        have ux : bx < (wr.alloc (.cells #[.int .i64 (q : Int), .int .i64 pp.length, .int .i64 pp.bore, .int .i64 pp.drop, .int .i64 pp.taps] 54)).heap.size := by simp; omega
        generalize wr.alloc (.cells #[.int .i64 (q : Int), .int .i64 pp.length, .int .i64 pp.bore, .int .i64 pp.drop, .int .i64 pp.taps] 54) = U at *
        generalize wr.heap.size = nb at *
        clear lb0 lb1 lb2 lb3 lb4 lb5 lx0 lx1 lx2 lx3 lx4 lx5 x3 hv hfz hrow hX1 hKR c1 c2 c3 c4 c0
        have hub := uKR.lt
        obtain ⟨lb0, lb1, lb2, lb3, lb4, lb5⟩ := lt6 (show bc < U.heap.size by omega)
        obtain ⟨lx0, lx1, lx2, lx3, lx4, lx5⟩ := lt6 (show bx < U.heap.size by omega)
        obtain ⟨ln0, ln1, ln2, ln3, ln4, ln5⟩ := lt6 (show nb < U.heap.size by omega)
        have HW := Lib.hid (show IntKind.i64.wrap ((k : Int) + 1) = (k : Int) + 1 from IntWalk.i64_in _ (by omega))
        (refine wp_region_ht 18 (fun V => V.cell? ⟨bx, 3, none⟩ = some (.slice (some ⟨bc, 0, none⟩) n.pipes.length n.pipes.length) ∧ V.cell? ⟨nb, 0, none⟩ = some (.int .i64 (q : Int)) ∧ V.cell? ⟨bc, q, none⟩ = some v) (by kernel_rfl) (by kernel_rfl) (⟨u3, up, uv⟩) (fun hHeld => ?_); simp only [List.take_succ_cons, List.take_zero, List.drop_succ_cons, List.drop_zero, List.length_cons, List.length_nil, Nat.reduceAdd])
        (refine wpAnyH_take (i := 0) (oi := _) (v := _) rfl (by kernel_rfl) (by kernel_rfl) (by kernel_rfl) (fun _ _ _ h => h) (Or.inl ⟨by rfl, by ((intro w hSw; (try dsimp only at hSw)); first | (go_simp; done) | (go_simp; with_reducible rfl))⟩) (by assumption) ?_; (try simp only [Act.put]); (try simp only [List.setIfInBounds_toArray]); (try simp only [List.set_cons_succ]); (try simp only [List.set_cons_zero])); (refine wpAnyH_take (i := 1) (oi := _) (v := _) rfl (by kernel_rfl) (by kernel_rfl) (by kernel_rfl) (fun _ _ _ h => h) (Or.inl ⟨by rfl, by ((intro w hSw; (try dsimp only at hSw)); first | (go_simp; done) | (go_simp; with_reducible rfl))⟩) (by assumption) ?_; (try simp only [Act.put]); (try simp only [List.setIfInBounds_toArray]); (try simp only [List.set_cons_succ]); (try simp only [List.set_cons_zero])); (refine wpAnyH_take (i := 2) (oi := _) (v := _) rfl (by kernel_rfl) (by kernel_rfl) (by kernel_rfl) (fun _ _ _ h => h) (Or.inl ⟨by rfl, by ((intro w hSw; (try dsimp only at hSw)); first | (go_simp; done) | (go_simp; with_reducible rfl))⟩) (by assumption) ?_; (try simp only [Act.put]); (try simp only [List.setIfInBounds_toArray]); (try simp only [List.set_cons_succ]); (try simp only [List.set_cons_zero])); (refine wpAnyH_take (i := 3) (oi := _) (v := _) rfl (by kernel_rfl) (by kernel_rfl) (by kernel_rfl) (fun _ _ _ h => h) (Or.inl ⟨by rfl, by ((intro w hSw; (try dsimp only at hSw)); first | (go_simp; done) | (go_simp; with_reducible rfl))⟩) (by assumption) ?_; (try simp only [Act.put]); (try simp only [List.setIfInBounds_toArray]); (try simp only [List.set_cons_succ]); (try simp only [List.set_cons_zero])); (refine wpAnyH_take (i := 4) (oi := _) (v := _) rfl (by kernel_rfl) (by kernel_rfl) (by kernel_rfl) (fun _ _ _ h => h) (Or.inl ⟨by rfl, by ((intro w hSw; (try dsimp only at hSw)); first | (go_simp; done) | (go_simp; with_reducible rfl))⟩) (by assumption) ?_; (try simp only [Act.put]); (try simp only [List.setIfInBounds_toArray]); (try simp only [List.set_cons_succ]); (try simp only [List.set_cons_zero])); (refine wpAnyH_take (i := 5) (oi := _) (v := _) rfl (by kernel_rfl) (by kernel_rfl) (by kernel_rfl) (fun _ _ _ h => h) (Or.inl ⟨by rfl, by ((intro w hSw; (try dsimp only at hSw)); first | (go_simp; done) | (go_simp; with_reducible rfl))⟩) (by assumption) ?_; (try simp only [Act.put]); (try simp only [List.setIfInBounds_toArray]); (try simp only [List.set_cons_succ]); (try simp only [List.set_cons_zero])); (refine wpAnyH_take (i := 6) (oi := _) (v := _) rfl (by kernel_rfl) (by kernel_rfl) (by kernel_rfl) (fun _ _ _ h => h) (Or.inl ⟨by rfl, by ((intro w hSw; (try dsimp only at hSw)); first | (go_simp; done) | (go_simp; with_reducible rfl))⟩) (by assumption) ?_; (try simp only [Act.put]); (try simp only [List.setIfInBounds_toArray]); (try simp only [List.set_cons_succ]); (try simp only [List.set_cons_zero])); (refine wpAnyH_take (i := 7) (oi := _) (v := _) rfl (by kernel_rfl) (by kernel_rfl) (by kernel_rfl) (fun _ _ _ h => h) (Or.inl ⟨by rfl, by ((intro w hSw; (try dsimp only at hSw)); first | (go_simp; done) | (go_simp; with_reducible rfl))⟩) (by assumption) ?_; (try simp only [Act.put]); (try simp only [List.setIfInBounds_toArray]); (try simp only [List.set_cons_succ]); (try simp only [List.set_cons_zero])); (refine wpAnyH_take (i := 8) (oi := _) (v := _) rfl (by kernel_rfl) (by kernel_rfl) (by kernel_rfl) (fun _ _ _ h => h) (Or.inl ⟨by rfl, by ((intro w hSw; (try dsimp only at hSw)); first | (go_simp; done) | (go_simp; with_reducible rfl))⟩) (by assumption) ?_; (try simp only [Act.put]); (try simp only [List.setIfInBounds_toArray]); (try simp only [List.set_cons_succ]); (try simp only [List.set_cons_zero])); (refine wpAnyH_take (i := 9) (oi := _) (v := _) rfl (by kernel_rfl) (by kernel_rfl) (by kernel_rfl) (fun _ _ _ h => h) (Or.inl ⟨by rfl, by ((intro w hSw; (try dsimp only at hSw)); first | (go_simp; done) | (go_simp; with_reducible rfl))⟩) (by assumption) ?_; (try simp only [Act.put]); (try simp only [List.setIfInBounds_toArray]); (try simp only [List.set_cons_succ]); (try simp only [List.set_cons_zero])); (refine wpAnyH_take (i := 10) (oi := _) (v := _) rfl (by kernel_rfl) (by kernel_rfl) (by kernel_rfl) (fun _ _ _ h => h) (Or.inl ⟨by rfl, by ((intro w hSw; (try dsimp only at hSw)); first | (go_simp; done) | (go_simp; with_reducible rfl))⟩) (by assumption) ?_; (try simp only [Act.put]); (try simp only [List.setIfInBounds_toArray]); (try simp only [List.set_cons_succ]); (try simp only [List.set_cons_zero])); (refine wpAnyH_take (i := 11) (oi := _) (v := _) rfl (by kernel_rfl) (by kernel_rfl) (by kernel_rfl) (fun _ _ _ h => h) (Or.inl ⟨by rfl, by ((intro w hSw; (try dsimp only at hSw)); first | (go_simp; done) | (go_simp; with_reducible rfl))⟩) (by assumption) ?_; (try simp only [Act.put]); (try simp only [List.setIfInBounds_toArray]); (try simp only [List.set_cons_succ]); (try simp only [List.set_cons_zero])); (refine wpAnyH_take (i := 12) (oi := _) (v := _) rfl (by kernel_rfl) (by kernel_rfl) (by kernel_rfl) (fun _ _ _ h => h) (Or.inl ⟨by rfl, by ((intro w hSw; (try dsimp only at hSw)); first | (go_simp; done) | (go_simp; with_reducible rfl))⟩) (by assumption) ?_; (try simp only [Act.put]); (try simp only [List.setIfInBounds_toArray]); (try simp only [List.set_cons_succ]); (try simp only [List.set_cons_zero])); (refine wpAnyH_take (i := 13) (oi := _) (v := _) rfl (by kernel_rfl) (by kernel_rfl) (by kernel_rfl) (fun _ _ _ h => h) (Or.inl ⟨by rfl, by ((intro w hSw; (try dsimp only at hSw)); first | (go_simp; done) | (go_simp; with_reducible rfl))⟩) (by assumption) ?_; (try simp only [Act.put]); (try simp only [List.setIfInBounds_toArray]); (try simp only [List.set_cons_succ]); (try simp only [List.set_cons_zero])); (refine wpAnyH_take (i := 14) (oi := _) (v := _) rfl (by kernel_rfl) (by kernel_rfl) (by kernel_rfl) (fun _ _ _ h => h) (Or.inl ⟨by rfl, by ((intro w hSw; (try dsimp only at hSw)); first | (go_simp; done) | (go_simp; with_reducible rfl))⟩) (by assumption) ?_; (try simp only [Act.put]); (try simp only [List.setIfInBounds_toArray]); (try simp only [List.set_cons_succ]); (try simp only [List.set_cons_zero])); (refine wpAnyH_take (i := 15) (oi := _) (v := _) rfl (by kernel_rfl) (by kernel_rfl) (by kernel_rfl) (fun _ _ _ h => h) (Or.inl ⟨by rfl, by ((intro w hSw; (try dsimp only at hSw)); first | (go_simp; done) | (go_simp; with_reducible rfl))⟩) (by assumption) ?_; (try simp only [Act.put]); (try simp only [List.setIfInBounds_toArray]); (try simp only [List.set_cons_succ]); (try simp only [List.set_cons_zero]))
        (refine wpAnyH_ready (rs := [16]) (by kernel_rfl) (by simp) ?_; refine AllReadyH.cons (o := _) rfl (fun K hK => ?_) AllReadyH.nil; (go_simp); refine hK.out _ _ (⟨(World.cell?_of_block (w := U) (a := ⟨bx, 3, none⟩) (Below.heap_alloc U _ bx ux)).trans u3, (World.cell?_of_block (w := U) (a := ⟨nb, 0, none⟩) (Below.heap_alloc U _ nb un)).trans up, (World.cell?_of_block (w := U) (a := ⟨bc, q, none⟩) (Below.heap_alloc U _ bc hub)).trans uv⟩) (fun hHeld => ?_); clear hK K; (try simp only [Act.put]); (try simp only [List.setIfInBounds_toArray]); (try simp only [List.set_cons_succ]); (try simp only [List.set_cons_zero]))
        (refine wpAnyH_ready (rs := [17]) (by kernel_rfl) (by simp) ?_; refine AllReadyH.cons (o := _) rfl (fun K hK => ?_) AllReadyH.nil; (refine step_append_cell rfl (.tmp 84) (.tmp 87) _ rfl wc.heap.size 3 i3 _ 8 Try.underlying31 ei3 ez0 ez1 ez2 rfl v _ _ rfl (ownsRow_drew (urow.alloc _)) U.heap.size _ (.int .i64 ((k : Int) + 1)) rfl (by simp; exact HW.out) rfl (by unfold maxLen; omega) (by omega) (by simp; omega) ?_; intro v' w' ho hgr hat; obtain ⟨vb, vc, rfl, hvc⟩ := ownsRow_val ho; have hwf : w'.frozen? ⟨bc, q, none⟩ = false := (hgr.frozen_far ⟨bc, q, none⟩ (by first | omega | (simp; done) | (simp; omega) | (simp [World.setCell]; omega)) (Ne.symm hvb.1)).trans ((World.frozen?_of_block (w := U) (a := ⟨bc, q, none⟩) (Below.heap_alloc U _ bc hub)).trans uf); have hwc : w'.cell? ⟨bc, q, none⟩ = some v := (hgr.cell_far ⟨bc, q, none⟩ (by first | omega | (simp; done) | (simp; omega) | (simp [World.setCell]; omega)) (Ne.symm hvb.1)).trans ((World.cell?_of_block (w := U) (a := ⟨bc, q, none⟩) (Below.heap_alloc U _ bc hub)).trans uv); have hwp : w'.cell? ⟨nb, 0, none⟩ = some (.int .i64 (q : Int)) := (hgr.cell_far ⟨nb, 0, none⟩ (by first | omega | (simp; done) | (simp; omega) | (simp [World.setCell]; omega)) (Ne.symm hvb.2)).trans ((World.cell?_of_block (w := U) (a := ⟨nb, 0, none⟩) (Below.heap_alloc U _ nb un)).trans up); have hwx : w'.cell? ⟨bx, 3, none⟩ = _ := (hgr.cell_far ⟨bx, 3, none⟩ (by first | omega | (simp; done) | (simp; omega) | (simp [World.setCell]; omega)) (Ne.symm hvx)).trans ((World.cell?_of_block (w := U) (a := ⟨bx, 3, none⟩) (Below.heap_alloc U _ bx ux)).trans u3)); refine hK.out _ _ (⟨hwx, hwp, hwc⟩) (fun hHeld => ?_); clear hK K; (try simp only [Act.put]); (try simp only [List.setIfInBounds_toArray]); (try simp only [List.set_cons_succ]); (try simp only [List.set_cons_zero]))
        refine wpAnyH_done (by kernel_rfl) ?_ _
        have hgs : k + 1 + 1 ≤ n.pipes.length := hlt2
        have hend := (uKR.grown (grown_drew (World.grownBy_alloc U (.cells #[.int .i64 (IntKind.i64.wrap ((k : Int) + 1))] 3) none))).push hmc (show q < n.pipes.length by omega) ((World.cell?_of_block (w := U) (a := ⟨bc, q, none⟩) (Below.heap_alloc U _ bc hub)).trans uv) ho hgr hat
        have hgw : wc.grownBy (w'.setCell ⟨bc, q, none⟩ (.slice vb ((kidsTo n.pipes (k + 1) q).length + 1) vc)) (some bc) :=
          grown_setrow ((ug.andThen (grown_drew (World.grownBy_alloc U (.cells #[.int .i64 (IntKind.i64.wrap ((k : Int) + 1))] 3) none)) (by simp)).andThen hgr (fun j e => .inl (owns_lt urow e).1)) rfl _
        rw [← hstep.out] at hend
        show wpList _ _ _ _ _ _
        go_wp2_with fail
        exact ⟨⟨k + 1, by omega, by go_num, hend, hgw⟩, by simp [intOf]; omega⟩
      · obtain rfl : k = n.pipes.length - 1 := by omega
        obtain ⟨wo, rfl⟩ : ∃ wo : World, wo = wr := ⟨_, rfl⟩
        have hK := Kp.grown (N := wc.heap.size) (bm := bc) (W0 := wc) ⟨Nat.le_refl _, fun _ _ _ => rfl⟩ hg
        have hX1 := hK.blk hX hmx (by omega)
        have hw1 := hEB.size
        have hw2 := hBc.size
        have hfp : Far wc.heap.size bc lop hip := ⟨by omega, .inl (by omega)⟩
        have hpr := hK.rd hp1 hfp
        have hlr := hK.rd (hl2.below hBc (by omega)) ⟨by omega, .inl (by omega)⟩
        have hfb : Far wc.heap.size bc lo hi := ⟨by omega, .inl (by omega)⟩
        have hbr := hK.rd ((hR.below hEB hhi).below hBc (by omega)) hfb
        have hTr : PlT n.pipes l2 bores need wo bm := hT.kept hg (by simp; omega)
        have hll := hok.ll
        have hkk : n.pipes.length - 1 + 1 = n.pipes.length := by omega
        rw [hkk] at hKR
        have hNr := hK.blk hNetc hnc (by omega)
        have hS : PlS wo.heap.size bm wo n.pipes l2 bores need n.pump bx bc A A3 D c n.pipes.length cd := by
          refine ⟨by rw [hll]; exact hX1, by omega, e2, ⟨lop, hip, hpr, by omega, .inl (by omega)⟩, ⟨_, _, hlr, by omega, .inl (by omega)⟩, ⟨lo, hi, hbr, by omega, .inl (by omega)⟩, fun i hi => ?_, by omega, e1⟩
          obtain ⟨v, hv, hrow⟩ := hKR.at_ hi
          rw [map_I_flat] at hrow
          obtain ⟨A', c2, rfl, hcc, hrd⟩ := ownsRow_rd encI_len (by decide) hrow rfl
          refine ⟨A', c2, wc.heap.size, wo.heap.size, ?_, hrd, Nat.le_refl _, .inr hmt⟩
          rw [hv, kidsTo_all, List.length_map]
        have hrec := plan_rec wo.heap.size bm wo n.pipes l2 bores need n.pump bx bc A A3 D c n.pipes.length cd hS hok
        have hall := Lib.hid ((hrec n.pipes.length 0 (by omega) (by omega)).1 n.pump hpump.1 hpump.2)
        have hat := Lib.hid (fun (node : Nat) (h0 : 0 < node) (h1 : node < n.pipes.length) => (hrec n.pipes.length node h1 (by omega)).2 h0)
        clear hrec hX1 hK hKR n0 n1 nf0 nf1 hll hkk hS
        have n0 := hNr.cell 0; have nf0 := hNr.frozen 0; have n1 := hNr.cell 1; have nf1 := hNr.frozen 1; simp at n0 n1
        have hpf := Lib.hid (show planF n.pipes l2 bores need n.pump = if (allF (atL n.pipes l2 bores need) n.pump (kids n.pipes 0) 0).2 then (planL n.pipes l2 bores need n.pump, (allF (atL n.pipes l2 bores need) n.pump (kids n.pipes 0) 0).1, 0) else ([], 0, 7) from rfl)
        have hBr : Below w.heap.size w wo := hEB.trans ((hBc.trans ⟨hg.os, hg.tape, hg.output, hg.size, fun k hk => hg.block k (by omega) (by simp; omega)⟩).mono hw1)
        go_wp2_with fail
        refine (hall.out wo ⟨Nat.le_refl _, fun _ _ _ => rfl⟩ hTr).mono ?_
        obtain ⟨rc, rb, hr⟩ : ∃ rc rb, allF (atL n.pipes l2 bores need) n.pump (kids n.pipes 0) 0 = (rc, rb) := ⟨_, _, rfl⟩
        rw [hr] at hpf ⊢
        clear hr
        rintro e w3 ⟨rfl, hT3, hg3⟩
        have hN3 : Blk w3 _ _ _ := (hg3.block _ hNr.lt (by simp; omega)).trans hNr
        have hz3 := hg3.size
        have hBw : Below w.heap.size w w3 := hBr.trans ⟨hg3.os, hg3.tape, hg3.output, hg3.size, fun k hk => hg3.block k (by omega) (by simp; omega)⟩
        clear n0 n1 nf0 nf1
        have n0 := hN3.cell 0; have nf0 := hN3.frozen 0; have n1 := hN3.cell 1; have nf1 := hN3.frozen 1; simp at n0 n1
        have hn3 := hN3.lt
        cases rb
        · go_wp2_with fail
          go_ret3
          have := hpf.out
          simp at this
          rw [this]
          exact ⟨planR_nil _ _, hBw⟩
        · have hmk := run_make_ints (P := Try.prog) Try.underlying31 ei3 ez0 ez1 ez2 n.pipes.length (by omega)
          have h00 : (Array.replicate n.pipes.length (I 0))[0]? = some (I 0) := by rw [Array.getElem?_replicate]; rw [if_pos (by omega)]
          go_wp2_with fail
          have hrowi : Blk (w3.alloc (.cells ((Array.replicate n.pipes.length (I 0)).setIfInBounds 0 (.int .i64 n.pump)) 3)) w3.heap.size 3 ((row n.pipes.length 0 [n.pump]).map I).toArray := by
            have e : ((row n.pipes.length 0 [n.pump]).map I).toArray = (Array.replicate n.pipes.length (I 0)).setIfInBounds 0 (.int .i64 n.pump) := by
              have := row_set (n := n.pipes.length) (d := (0 : Int)) (x := n.pump) (l := []) (by simp; omega)
              rw [row_nil] at this
              simp only [List.length_nil, List.nil_append] at this
              rw [← this]
              apply Array.ext'
              simp
            rw [e]; exact Blk.new _ _ _
          have hT4 := hT3.alloc (.cells ((Array.replicate n.pipes.length (I 0)).setIfInBounds 0 (.int .i64 n.pump)) 3)
          have hg4 := grown_alloc hg3 (.cells ((Array.replicate n.pipes.length (I 0)).setIfInBounds 0 (.int .i64 n.pump)) 3)
          have hz4 : (w3.alloc (.cells ((Array.replicate n.pipes.length (I 0)).setIfInBounds 0 (.int .i64 n.pump)) 3)).heap.size = w3.heap.size + 1 := by simp
          generalize w3.alloc (.cells ((Array.replicate n.pipes.length (I 0)).setIfInBounds 0 (.int .i64 n.pump)) 3) = w4 at *
          generalize hgv : w3.heap.size = gv at *
          have HZ4 := Lib.hid hz4
          clear hz4 hgv h00 hmk
          go_loopw [8, 112] (fun v8 i wr => ∃ (k : Nat) (vs bs : List Int), k ≤ n.pipes.length - 1 ∧ i = .int .i64 k ∧ Hid (plF (atL n.pipes l2 bores need) ((n.pipes.drop 1).take k) [n.pump] [] = (vs, bs)) ∧ (∀ x ∈ vs, 0 ≤ x ∧ x ≤ 10000) ∧ BlkI wr gv (row n.pipes.length 0 vs) ∧ wr.ownsRow (gv + 1) 3 1 v8 k (bs.map I) ∧ PlT n.pipes l2 bores need wr bm ∧ wo.grownBy wr (some bm) ∧ gv + 1 ≤ wr.heap.size) (fun _ i _ => n.pipes.length - 1 - (intOf i).toNat)
          case atStart =>
            exact ⟨0, [n.pump], [], by omega, rfl, Lib.hid (by simp [plF]), by simp; exact hpump, BlkI.of hrowi, ⟨rfl, .inl ⟨rfl, rfl⟩⟩, hT4, hg4, by have := HZ4.out; omega⟩
          case round =>
            obtain ⟨k, vs, bs, hk, rfl, hpl2, hvb, hV, hrow, hTq, hgq, hzq⟩ := hrel
            by_cases hlt : k < n.pipes.length - 1
            · have hlt2 : k + 1 < n.pipes.length := by omega
              have hlt3 : (k : Int) < ((n.pipes.length - 1 : Nat) : Int) := by omega
              have hKr := Kp.grown (N := wc.heap.size) (bm := bc) (W0 := wc) ⟨Nat.le_refl _, fun _ _ _ => rfl⟩ hg
              have hKq := Kp.grown (N := wo.heap.size) (bm := bm) (W0 := wo) ⟨Nat.le_refl _, fun _ _ _ => rfl⟩ hgq
              obtain ⟨b, off, rfl, _, hbb, c0, c1, c2, c3, c4⟩ := RdP.at_ (hKq.rd (hKr.rd hR5 hfp) ⟨by omega, .inl (by omega)⟩) (show k < (n.pipes.drop 1).length by rw [List.length_drop]; omega)
              rw [show (n.pipes.drop 1)[k]'(by rw [List.length_drop]; omega) = n.pipes[k + 1] by rw [List.getElem_drop]; congr 1; omega] at c0 c1 c2 c3 c4
              obtain ⟨q, hq, hqk⟩ := hid_par (ps := n.pipes) (x := k + 1) (p := n.pipes[k + 1]) (pAt_eq hlt2) hok.t (by omega) hlt2
              have hlv := plF_len (atL n.pipes l2 bores need) ((n.pipes.drop 1).take k) [n.pump] []
              rw [hpl2.out] at hlv
              simp only [List.length_cons, List.length_nil, List.length_take, List.length_drop] at hlv
              obtain ⟨hlv1, hlv2⟩ := hlv
              have hvq : vs[q]? = some (vs.getD q 0) := by rw [List.getD_eq_getElem?_getD, List.getElem?_eq_getElem (by omega)]; rfl
              have hvq2 := hvb _ (List.mem_of_getElem? hvq)
              have hcv := hV.at_ (i := q) (x := vs.getD q 0) (by rw [row_get (by omega)]; exact hvq)
              have hst := plF_snoc (atL n.pipes l2 bores need) n.pipes[k + 1] ((n.pipes.drop 1).take k) [n.pump] []
              rw [hpl2.out] at hst
              simp only [hq, Int.toNat_natCast] at hst
              rw [show vs.length = k + 1 by omega] at hst
              have hst2 : (n.pipes.drop 1).take k ++ [n.pipes[k + 1]] = (n.pipes.drop 1).take (k + 1) := by
                rw [List.take_succ_eq_append_getElem (show k < (n.pipes.drop 1).length by rw [List.length_drop]; omega)]
                congr 2
                rw [List.getElem_drop]; congr 1; omega
              rw [hst2] at hst
              have hcall := hat.out (k + 1) (by omega) hlt2 (vs.getD q 0) hvq2.1 hvq2.2
              have hbd := atL_bd hok (show 0 < k + 1 by omega) hlt2 hvq2.1 hvq2.2
              rw [hq] at c0
              clear hq hst2 hpl2
              generalize vs.getD q 0 = vq at *
              unfold AtR at hcall
              have e1k : ((k + 1 : Nat) : Int) = (k : Int) + 1 := by omega
              simp only [keyV, e1k] at hcall
              clear e1k
              generalize atL n.pipes l2 bores need (k + 1) vq = cc at *
              have HST := Lib.hid hst
              have HCALL := Lib.hid hcall
              clear hst hcall hvq
              generalize n.pipes[k + 1] = pp at *
              have hq3 : (q : Int) < (n.pipes.length : Int) := by omega
              have hgvl := hV.lt
              obtain ⟨lg0, lg1, lg2, lg3, lg4, lg5⟩ := lt6 (show gv < wr.heap.size by omega)
              go_wp2_with fail
              refine (HCALL.out _ (hKq.grown (World.grownBy_alloc _ _ _)) (hTq.alloc _)).mono ?_
              rintro e w5 ⟨rfl, hT5, hg5⟩
              have hz5 := hg5.size
              simp only [World.size_alloc] at hz5
              go_wp2_with fail
              have hgva : gv ≠ bm := by omega
              have uV := (((hV.alloc (.cells #[.int .i64 (q : Int), .int .i64 pp.length, .int .i64 pp.bore, .int .i64 pp.drop, .int .i64 pp.taps] 54)).grow hg5 (by simp; exact hgva)).alloc (.cells #[.int .i64 cc.index, .int .i64 cc.cost, .int .i64 cc.vac] 118))
              have urow := (((hrow.alloc (.cells #[.int .i64 (q : Int), .int .i64 pp.length, .int .i64 pp.bore, .int .i64 pp.drop, .int .i64 pp.taps] 54)).kept hg5 (.inr (fun e => by have := (owns_lt hrow e).1; omega))).alloc (.cells #[.int .i64 cc.index, .int .i64 cc.cost, .int .i64 cc.vac] 118))
              have uT := hT5.alloc (.cells #[.int .i64 cc.index, .int .i64 cc.cost, .int .i64 cc.vac] 118)
              have ug := grown_alloc ((grown_alloc hgq (.cells #[.int .i64 (q : Int), .int .i64 pp.length, .int .i64 pp.bore, .int .i64 pp.drop, .int .i64 pp.taps] 54)).trans hg5) (.cells #[.int .i64 cc.index, .int .i64 cc.cost, .int .i64 cc.vac] 118)
              have u0 : (w5.alloc (.cells #[.int .i64 cc.index, .int .i64 cc.cost, .int .i64 cc.vac] 118)).cell? ⟨w5.heap.size, 0, none⟩ = some (.int .i64 cc.index) := (Blk.new w5 118 #[.int .i64 cc.index, .int .i64 cc.cost, .int .i64 cc.vac]).cell 0
              have u2 : (w5.alloc (.cells #[.int .i64 cc.index, .int .i64 cc.cost, .int .i64 cc.vac] 118)).cell? ⟨w5.heap.size, 2, none⟩ = some (.int .i64 cc.vac) := (Blk.new w5 118 #[.int .i64 cc.index, .int .i64 cc.cost, .int .i64 cc.vac]).cell 2
              have un : w5.heap.size < (w5.alloc (.cells #[.int .i64 cc.index, .int .i64 cc.cost, .int .i64 cc.vac] 118)).heap.size := by simp
              have hvn : u8.ownBlock ≠ some w5.heap.size := fun e => by have := (owns_lt hrow e).2; omega
              have hvg : u8.ownBlock ≠ some gv := fun e => by have := (owns_lt hrow e).1; omega
              have hvm : u8.ownBlock ≠ some bm := fun e => by have := (owns_lt hrow e).1; omega
              have hnb : gv + 1 ≤ w5.heap.size := by omega
              generalize w5.alloc (.cells #[.int .i64 cc.index, .int .i64 cc.cost, .int .i64 cc.vac] 118) = U at *
              generalize w5.heap.size = nb at *
              clear lg0 lg1 lg2 lg3 lg4 lg5 c0 c1 c2 c3 c4 hcv hV hrow hTq hgq hT5 hKq
              have hlr1 : ((row n.pipes.length 0 vs))[k + 1]? = some 0 := by have := row_next (n := n.pipes.length) (d := (0 : Int)) (l := vs) (by omega); rw [hlv1] at this; rw [show 1 + min k (n.pipes.length - 1) = k + 1 by omega] at this; exact this
              obtain ⟨ln0, ln1, ln2, ln3, ln4, ln5⟩ := lt6 (show nb < U.heap.size by omega)
              (refine wp_region_ht 11 (fun V => V.cell? ⟨nb, 0, none⟩ = some (.int .i64 cc.index) ∧ V.cell? ⟨nb, 2, none⟩ = some (.int .i64 cc.vac)) (by kernel_rfl) (by kernel_rfl) (⟨u0, u2⟩) (fun hHeld => ?_); simp only [List.take_succ_cons, List.take_zero, List.drop_succ_cons, List.drop_zero, List.length_cons, List.length_nil, Nat.reduceAdd])
              (refine wpAnyH_take (i := 0) (oi := _) (v := _) rfl (by kernel_rfl) (by kernel_rfl) (by kernel_rfl) (fun _ _ _ h => h) (Or.inl ⟨by rfl, by ((intro w hSw; (try dsimp only at hSw)); first | (go_simp; done) | (go_simp; with_reducible rfl))⟩) (by assumption) ?_; (try simp only [Act.put]); (try simp only [List.setIfInBounds_toArray]); (try simp only [List.set_cons_succ]); (try simp only [List.set_cons_zero])); (refine wpAnyH_take (i := 1) (oi := _) (v := _) rfl (by kernel_rfl) (by kernel_rfl) (by kernel_rfl) (fun _ _ _ h => h) (Or.inl ⟨by rfl, by ((intro w hSw; (try dsimp only at hSw)); first | (go_simp; done) | (go_simp; with_reducible rfl))⟩) (by assumption) ?_; (try simp only [Act.put]); (try simp only [List.setIfInBounds_toArray]); (try simp only [List.set_cons_succ]); (try simp only [List.set_cons_zero])); (refine wpAnyH_take (i := 2) (oi := _) (v := _) rfl (by kernel_rfl) (by kernel_rfl) (by kernel_rfl) (fun _ _ _ h => h) (Or.inl ⟨by rfl, by ((intro w hSw; (try dsimp only at hSw)); first | (go_simp; done) | (go_simp; with_reducible rfl))⟩) (by assumption) ?_; (try simp only [Act.put]); (try simp only [List.setIfInBounds_toArray]); (try simp only [List.set_cons_succ]); (try simp only [List.set_cons_zero])); (refine wpAnyH_take (i := 3) (oi := _) (v := _) rfl (by kernel_rfl) (by kernel_rfl) (by kernel_rfl) (fun _ _ _ h => h) (Or.inl ⟨by rfl, by ((intro w hSw; (try dsimp only at hSw)); first | (go_simp; done) | (go_simp; with_reducible rfl))⟩) (by assumption) ?_; (try simp only [Act.put]); (try simp only [List.setIfInBounds_toArray]); (try simp only [List.set_cons_succ]); (try simp only [List.set_cons_zero])); (refine wpAnyH_take (i := 4) (oi := _) (v := _) rfl (by kernel_rfl) (by kernel_rfl) (by kernel_rfl) (fun _ _ _ h => h) (Or.inl ⟨by rfl, by ((intro w hSw; (try dsimp only at hSw)); first | (go_simp; done) | (go_simp; with_reducible rfl))⟩) (by assumption) ?_; (try simp only [Act.put]); (try simp only [List.setIfInBounds_toArray]); (try simp only [List.set_cons_succ]); (try simp only [List.set_cons_zero])); (refine wpAnyH_take (i := 5) (oi := _) (v := _) rfl (by kernel_rfl) (by kernel_rfl) (by kernel_rfl) (fun _ _ _ h => h) (Or.inl ⟨by rfl, by ((intro w hSw; (try dsimp only at hSw)); first | (go_simp; done) | (go_simp; with_reducible rfl))⟩) (by assumption) ?_; (try simp only [Act.put]); (try simp only [List.setIfInBounds_toArray]); (try simp only [List.set_cons_succ]); (try simp only [List.set_cons_zero]))
              (refine wpAnyH_take (i := 8) (oi := _) (v := _) rfl (by kernel_rfl) (by kernel_rfl) (by kernel_rfl) (fun _ _ _ h => h) (Or.inl ⟨by rfl, by ((intro w hSw; (try dsimp only at hSw)); first | (go_simp; done) | (go_simp; with_reducible rfl))⟩) (by assumption) ?_; (try simp only [Act.put]); (try simp only [List.setIfInBounds_toArray]); (try simp only [List.set_cons_succ]); (try simp only [List.set_cons_zero])); (refine wpAnyH_take (i := 9) (oi := _) (v := _) rfl (by kernel_rfl) (by kernel_rfl) (by kernel_rfl) (fun _ _ _ h => h) (Or.inl ⟨by rfl, by ((intro w hSw; (try dsimp only at hSw)); first | (go_simp; done) | (go_simp; with_reducible rfl))⟩) (by assumption) ?_; (try simp only [Act.put]); (try simp only [List.setIfInBounds_toArray]); (try simp only [List.set_cons_succ]); (try simp only [List.set_cons_zero]))
              (refine wpAnyH_ready (rs := [6]) (by kernel_rfl) (by simp) ?_; refine AllReadyH.cons (o := _) rfl (fun K hK => ?_) AllReadyH.nil; (go_simp); refine hK.out _ _ (⟨(World.cell?_of_block (w := U) (a := ⟨nb, 0, none⟩) (Below.heap_alloc U _ nb un)).trans u0, (World.cell?_of_block (w := U) (a := ⟨nb, 2, none⟩) (Below.heap_alloc U _ nb un)).trans u2⟩) (fun hHeld => ?_); clear hK K; (try simp only [Act.put]); (try simp only [List.setIfInBounds_toArray]); (try simp only [List.set_cons_succ]); (try simp only [List.set_cons_zero]))
              (refine wpAnyH_ready (rs := [7]) (by kernel_rfl) (by simp) ?_; refine AllReadyH.cons (o := _) rfl (fun K hK => ?_) AllReadyH.nil; (refine step_append_cell rfl (.tmp 130) (.tmp 133) _ rfl (gv + 1) 3 i3 _ 8 Try.underlying31 ei3 ez0 ez1 ez2 rfl u8 _ _ rfl (ownsRow_drew (urow.alloc _)) U.heap.size _ (.int .i64 cc.index) rfl (by simp) rfl (by unfold maxLen; omega) (by omega) (by simp; omega) ?_; intro v' w' ho hgr hat'; have hwg : BlkI w' gv (row n.pipes.length 0 vs) := ((uV.alloc (.cells #[.int .i64 cc.index] 3)).drew).grow hgr (Ne.symm hvg); have hw0 : w'.cell? ⟨nb, 0, none⟩ = some (.int .i64 cc.index) := (hgr.cell_far ⟨nb, 0, none⟩ (by first | omega | (simp; done) | (simp; omega) | (simp [World.setCell]; omega)) (Ne.symm hvn)).trans ((World.cell?_of_block (w := U) (a := ⟨nb, 0, none⟩) (Below.heap_alloc U _ nb un)).trans u0); have hw2' : w'.cell? ⟨nb, 2, none⟩ = some (.int .i64 cc.vac) := (hgr.cell_far ⟨nb, 2, none⟩ (by first | omega | (simp; done) | (simp; omega) | (simp [World.setCell]; omega)) (Ne.symm hvn)).trans ((World.cell?_of_block (w := U) (a := ⟨nb, 2, none⟩) (Below.heap_alloc U _ nb un)).trans u2)); refine hK.out _ _ (⟨hw0, hw2'⟩) (fun hHeld => ?_); clear hK K; (try simp only [Act.put]); (try simp only [List.setIfInBounds_toArray]); (try simp only [List.set_cons_succ]); (try simp only [List.set_cons_zero]))
              (refine wpAnyH_ready (rs := [10]) (by kernel_rfl) (by simp) ?_; refine AllReadyH.cons (o := _) rfl (fun K hK => ?_) AllReadyH.nil; (go_simp); refine hK.out _ _ (⟨hw0, hw2'⟩) (fun hHeld => ?_); clear hK K; (try simp only [Act.put]); (try simp only [List.setIfInBounds_toArray]); (try simp only [List.set_cons_succ]); (try simp only [List.set_cons_zero]))
              refine wpAnyH_done (by kernel_rfl) ?_ _
              show wpList _ _ _ _ _ _
              have hfz := hwg.frozen (k + 1)
              have hcg := hwg.at_ hlr1
              go_wp2_with fail
              have hzr : U.heap.size + 1 ≤ w'.heap.size := by have h1 := hgr.size; have h2 : (U.alloc (.cells #[.int .i64 cc.index] 3)).heap.size = U.heap.size + 1 := World.size_alloc _ _; exact h2 ▸ h1
              have hrw := row_set (n := n.pipes.length) (d := (0 : Int)) (x := cc.vac) (l := vs) (by omega)
              rw [show vs.length = k + 1 by omega] at hrw
              have hset := hwg.set_ (k + 1) cc.vac
              rw [hrw] at hset
              refine ⟨⟨k + 1, vs ++ [cc.vac], bs ++ [cc.index], by omega, by go_num, HST, fun x hx => ?_, hset, ?_, ?_, ?_, ?_⟩, by simp [intOf]; omega⟩
              · rw [List.mem_append] at hx
                rcases hx with hx | hx
                · exact hvb x hx
                · simp only [List.mem_singleton] at hx; subst hx; exact ⟨hbd.2.2.2.2.1, hbd.2.2.2.2.2⟩
              · have := ownsRow_setCell_below ho (a := ⟨gv, k + 1, none⟩) (by simp) (.int .i64 cc.vac)
                simpa using this
              · exact (((uT.alloc (.cells #[.int .i64 cc.index] 3)).drew.kept hgr (Ne.symm hvm))).setCell (a := ⟨gv, k + 1, none⟩) (by simp; omega) _
              · exact grown_set ((ug.andThen (grown_drew (World.grownBy_alloc U (.cells #[.int .i64 cc.index] 3) none)) (by simp)).andThen hgr (fun j e => .inl (by have := (owns_lt urow e).1; omega))) (by simp; omega) _
              · simp [World.setCell]; omega
            · obtain rfl : k = n.pipes.length - 1 := by omega
              go_wp2_with fail
              go_ret3
              have h8 := hpf.out
              simp only [if_true] at h8
              have h9 := hpl2.out
              rw [List.take_of_length_le (by simp)] at h9
              have h10 := plF_len (atL n.pipes l2 bores need) (n.pipes.drop 1) [n.pump] []
              rw [h9] at h10
              rw [h8]
              simp only [planL, h9]
              refine ⟨⟨_, rfl, ?_⟩, ?_⟩
              · rw [h10.2]; simp; exact ownsRow_base' hrow (by omega)
              · exact hBr.trans ⟨hgq.os, hgq.tape, hgq.output, hgq.size, fun k hk => hgq.block k (by omega) (by simp; omega)⟩
end Go.Proofs.Ytepibjfmeibgcaa
