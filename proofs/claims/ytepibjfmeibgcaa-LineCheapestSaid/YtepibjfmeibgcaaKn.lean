/- What the law's own examples return. -/
import Derived.Test.YtepibjfmeibgcaaGo
import Derived.Test.YtepibjfmeibgcaaWv
namespace Go.Proofs.Ytepibjfmeibgcaa
open Go.RowKit Go.Shelf
def bushN : Net := ⟨8000, bushP⟩
theorem bush_ok : netB bushN = true := by decide +kernel
theorem k_way : wayL bushP 4 = [4, 3, 1, 0] := by decide +kernel
theorem k_bet : betL bushP 2 4 = 900 := by decide +kernel
theorem k_cl : climbsL bushP = [0, 0, 30, 0, 0] := by decide +kernel
theorem k_ld : pairL (loadsL bushP (lowF bushF) []) (loadsL bushP (highF bushF) []) = [⟨11000, 12000⟩, ⟨11000, 12000⟩, ⟨5000, 6000⟩, ⟨6000, 6000⟩, ⟨2000, 2000⟩] := by decide +kernel
theorem k_vc : pairL (vacsL 8000 bushP (highF bushF) [3]) (vacsL 8000 bushP (lowF bushF) [3]) = [⟨8000, 8000⟩, ⟨7998, 7998⟩, ⟨7694, 7694⟩, ⟨0, 0⟩, ⟨0, 0⟩] := by decide +kernel
theorem k_pl : planF bushP (loadsL bushP (highF bushF) []) [⟨8, 2⟩, ⟨20, 9⟩] 7000 8000 = ([0, 0, 0, 0], 3800, 0) := by decide +kernel
theorem bush_pl : PlOk bushN.pipes (loadsL bushN.pipes (highF bushF) []) [⟨8, 2⟩, ⟨20, 9⟩] 7000 bushN.pump where
  t := netB_tree bush_ok
  n := by decide
  ll := by decide +kernel
  l := fun j => getD_rng (B := 60000000000) (by decide) (by decide +kernel) j
  p := fun j h0 hj => by rw [pAt_eq hj]; exact pipeB_ok (netB_pipe bush_ok hj h0)
  b := by decide +kernel
  bn := by decide
  need := by decide
theorem RetR.rd {base : Nat} {e : Ending} {w' : World} {xs : List Rng} {err : Int} (h : RetR base e w' xs err) : ∃ A c, e = .returned (.tuple #[.slice A xs.length c, .int .i64 err]) ∧ xs.length ≤ c ∧ RdR w' base w'.heap.size A xs := by
  obtain ⟨v, rfl, ho⟩ := h
  obtain ⟨A, c, rfl, hc, hr⟩ := ownsRow_rd encR_len (by decide) ho rfl
  exact ⟨A, c, rfl, hc, hr⟩
theorem PlanR.rd {base : Nat} {e : Ending} {w' : World} {xs : List Int} {cost err : Int} (h : PlanR base e w' xs cost err) : ∃ A c, e = .returned (.tuple #[.slice A xs.length c, .int .i64 cost, .int .i64 err]) ∧ xs.length ≤ c ∧ RdI w' base w'.heap.size A xs := by
  obtain ⟨v, rfl, ho⟩ := h
  rw [map_I_flat] at ho
  obtain ⟨A, c, rfl, hc, hr⟩ := ownsRow_rd encI_len (by decide) ho rfl
  exact ⟨A, c, rfl, hc, hr⟩
theorem eql_rng (p q : Rng) (W : World) : (binOp .eql 52 (aggR p) (aggR q)).run Try.prog W = .ok (.bool (decide (p = q))) W := by
  obtain ⟨a1, a2⟩ := p
  obtain ⟨b1, b2⟩ := q
  unfold aggR
  by_cases h1 : a1 = b1 <;> by_cases h2 : a2 = b2 <;> go_simp <;> simp [h1, h2]
set_option maxHeartbeats 2000000 in
set_option maxRecDepth 100000 in
theorem known_ (w : World) : Calls Try.prog 15 #[] w fun e w' => e = .returned (.bool true) ∧ Below w.heap.size w w' := by
  go_enter Try.func15, Try.ntmps15
  go_wp2_with fail
  refine (bush_ _).mono ?_
  rintro e w1 ⟨⟨A, B, rfl, hP, hF⟩, hb⟩
  have hz1 := hb.size
  go_wp2_with fail
  have hz := hb.size
  have hN := Blk.new w1 24 #[.int .i64 8000, .slice A 5 5]
  have hP1 := hP.alloc (Nat.le_refl _) (.cells #[.int .i64 8000, .slice A 5 5] 24)
  have hF1 := hF.alloc (Nat.le_refl _) (.cells #[.int .i64 8000, .slice A 5 5] 24)
  have hBw : Below w.heap.size w (w1.alloc (.cells #[.int .i64 8000, .slice A 5 5] 24)) := (by repeat (first | exact Below.refl _ _ | exact (hb) | assumption | (refine Below.setCell ?_ (by first | omega | (simp; done) | (simp; omega) | (simp [World.setCell]; done) | (simp [World.setCell]; omega)) _) | (refine Below.alloc ?_ (by first | omega | (simp; done) | (simp; omega) | (simp [World.setCell]; done) | (simp [World.setCell]; omega)) _) | (refine Below.drewN_ ?_ _) | (refine Below.drew ?_)))
  have hzz : (w1.alloc (.cells #[.int .i64 8000, .slice A 5 5] 24)).heap.size = w1.heap.size + 1 := by simp
  generalize w1.alloc (.cells #[.int .i64 8000, .slice A 5 5] 24) = W at *
  generalize w1.heap.size = nb at *
  have HZ := Lib.hid hzz
  clear hzz hb hz1
  have hlN := hN.lt
  have n0 := hN.cell 0; have nf0 := hN.frozen 0; have n1 := hN.cell 1; have nf1 := hN.frozen 1; simp at n0 n1
  refine (Way_ok bushN 4 A 5 _ w.heap.size nb hP1 (by omega) (by decide) bush_ok (by decide +kernel)).mono ?_
  rintro e V ⟨⟨A1, c1, rfl, hc1, r1⟩, hb⟩
  rw [show wayL bushN.pipes 4 = _ from k_way] at r1 hc1 ⊢
  have hzV := hb.size
  have hN := hN.below hb hlN
  have hP1 := hP1.below hb (by omega)
  have hF1 := hF1.below hb (by omega)
  have hBw := hBw.trans (hb.mono (by omega))
  have hlN := hN.lt
  clear n0 n1 nf0 nf1
  have n0 := hN.cell 0; have nf0 := hN.frozen 0; have n1 := hN.cell 1; have nf1 := hN.frozen 1; simp at n0 n1
  clear hb
  obtain ⟨W, rfl⟩ : ∃ W' : World, W' = V := ⟨_, rfl⟩
  go_wp2_with fail
  refine (Between_ok bushN 2 4 A 5 _ w.heap.size nb hP1 (by omega) (by decide) bush_ok (by decide +kernel)).mono ?_
  rintro e V ⟨rfl, hb⟩
  rw [show betL bushN.pipes 2 4 = 900 from k_bet]
  have hzV := hb.size
  have r1 := r1.below hb (Nat.le_refl _)
  have hN := hN.below hb hlN
  have hP1 := hP1.below hb (by omega)
  have hF1 := hF1.below hb (by omega)
  have hBw := hBw.trans (hb.mono (by omega))
  have hlN := hN.lt
  clear n0 n1 nf0 nf1
  have n0 := hN.cell 0; have nf0 := hN.frozen 0; have n1 := hN.cell 1; have nf1 := hN.frozen 1; simp at n0 n1
  have r1 := r1.mono (Nat.le_refl _) hzV
  clear hb
  obtain ⟨W, rfl⟩ : ∃ W' : World, W' = V := ⟨_, rfl⟩
  go_wp2_with fail
  refine (Climbs_ok bushN A 5 _ w.heap.size nb hP1 (by omega) (by decide) bush_ok).mono ?_
  rintro e V ⟨⟨A3, c3, rfl, hc3, r3⟩, hb⟩
  rw [show climbsL bushN.pipes = _ from k_cl] at r3 hc3 ⊢
  have hzV := hb.size
  have r1 := r1.below hb (Nat.le_refl _)
  have hN := hN.below hb hlN
  have hP1 := hP1.below hb (by omega)
  have hF1 := hF1.below hb (by omega)
  have hBw := hBw.trans (hb.mono (by omega))
  have hlN := hN.lt
  clear n0 n1 nf0 nf1
  have n0 := hN.cell 0; have nf0 := hN.frozen 0; have n1 := hN.cell 1; have nf1 := hN.frozen 1; simp at n0 n1
  have r1 := r1.mono (Nat.le_refl _) hzV
  clear hb
  obtain ⟨W, rfl⟩ : ∃ W' : World, W' = V := ⟨_, rfl⟩
  go_wp2_with fail
  refine (Loads_ok bushN A B none 5 5 0 bushF [] _ w.heap.size nb w.heap.size nb 0 0 hP1 (by omega) (by decide) hF1 (by omega) (by decide) Rd.nil (Nat.zero_le _) (by decide) (by decide) bush_ok (by decide +kernel) rfl (by decide +kernel)).mono ?_
  rintro e V ⟨hr, hb⟩
  obtain ⟨A4, c4, rfl, hc4, r4⟩ := RetR.rd hr
  clear hr
  rw [show pairL (loadsL bushN.pipes (lowF bushF) []) (loadsL bushN.pipes (highF bushF) []) = _ from k_ld] at r4 hc4 ⊢
  have hzV := hb.size
  have r1 := r1.below hb (Nat.le_refl _)
  have r3 := r3.below hb (Nat.le_refl _)
  have hN := hN.below hb hlN
  have hP1 := hP1.below hb (by omega)
  have hF1 := hF1.below hb (by omega)
  have hBw := hBw.trans (hb.mono (by omega))
  have hlN := hN.lt
  clear n0 n1 nf0 nf1
  have n0 := hN.cell 0; have nf0 := hN.frozen 0; have n1 := hN.cell 1; have nf1 := hN.frozen 1; simp at n0 n1
  have r1 := r1.mono (Nat.le_refl _) hzV
  have r3 := r3.mono (Nat.le_refl _) hzV
  clear hb
  obtain ⟨W, rfl⟩ : ∃ W' : World, W' = V := ⟨_, rfl⟩
  go_wp2_with fail
  have hv0 : (W.alloc (.cells #[.int .i64 3] 3)).cell? ⟨W.heap.size, 0, none⟩ = some (.int .i64 3) := (Blk.new W 3 #[.int .i64 3]).cell 0
  refine (Vacuum_ok bushN A B (some ⟨W.heap.size, 0, none⟩) 5 5 1 bushF [3] _ w.heap.size nb w.heap.size nb 0 _ (hP1.alloc (by omega) _) (by simp; omega) (by decide) (hF1.alloc (by omega) _) (by simp; omega) (by decide) (rd_one hv0 (by simp)) (Nat.le_refl _) (by decide) (by decide) bush_ok (by decide +kernel) rfl (by decide +kernel)).mono ?_
  rintro e V ⟨hr, hb⟩
  obtain ⟨A5, c5, rfl, hc5, r5⟩ := RetR.rd hr
  clear hr
  rw [show pairL (vacsL bushN.pump bushN.pipes (highF bushF) [3]) (vacsL bushN.pump bushN.pipes (lowF bushF) [3]) = _ from k_vc] at r5 hc5 ⊢
  have hb : Below W.heap.size W V := ((Below.refl W.heap.size W).alloc (Nat.le_refl _) _).trans (hb.mono (by simp))
  have hzV := hb.size
  have r1 := r1.below hb (Nat.le_refl _)
  have r3 := r3.below hb (Nat.le_refl _)
  have r4 := r4.below hb (Nat.le_refl _)
  have hN := hN.below hb hlN
  have hP1 := hP1.below hb (by omega)
  have hF1 := hF1.below hb (by omega)
  have hBw := hBw.trans (hb.mono (by omega))
  have hlN := hN.lt
  clear n0 n1 nf0 nf1
  have n0 := hN.cell 0; have nf0 := hN.frozen 0; have n1 := hN.cell 1; have nf1 := hN.frozen 1; simp at n0 n1
  have r1 := r1.mono (Nat.le_refl _) hzV
  have r3 := r3.mono (Nat.le_refl _) hzV
  have r4 := r4.mono (Nat.le_refl _) hzV
  clear hb
  obtain ⟨W, rfl⟩ : ∃ W' : World, W' = V := ⟨_, rfl⟩
  go_wp2_with fail
  have hq0 := Blk.new W 38 #[.int .i64 8, .int .i64 2, .int .i64 20, .int .i64 9]
  have hq : RdO (W.alloc (.cells #[.int .i64 8, .int .i64 2, .int .i64 20, .int .i64 9] 38)) W.heap.size (W.heap.size + 1) (some ⟨W.heap.size, 0, none⟩) [⟨8, 2⟩, ⟨20, 9⟩] := by
    have h := Rd.of_blk (enc := encO) (size := 2) hq0 [(⟨8, 2⟩ : Bor), ⟨20, 9⟩] W.heap.size (Nat.le_refl _) (by
      intro i x hx j u hu
      match i, hx with
      | 0, hx | 1, hx =>
        obtain rfl := Option.some.inj hx
        match j, hu with
        | 0, hu | 1, hu => exact hu)
    simpa using h
  refine (plan_main bushN A B (some ⟨W.heap.size, 0, none⟩) 5 5 5 2 W.heap.size (W.heap.size + 1) w.heap.size nb 7000 _ _ _ _ [⟨8, 2⟩, ⟨20, 9⟩] _ (hP1.alloc (by omega) _) (by simp; omega) (by decide) hq (by simp) (by simp) (by decide) (by decide) bush_pl (fun o => both_ok bushN A B none 5 5 0 bushF [] _ w.heap.size nb w.heap.size nb 0 0 ((hP1.alloc (by omega) _).alloc (by simp; omega) o) (by simp; omega) (by decide) ((hF1.alloc (by omega) _).alloc (by simp; omega) o) (by simp; omega) (by decide) Rd.nil (Nat.zero_le _) (by decide) (by decide) bush_ok (by decide +kernel) rfl (by decide +kernel))).mono ?_
  rintro e V ⟨hr, hb⟩
  obtain ⟨A6, c6, rfl, hc6, r6⟩ := PlanR.rd hr
  clear hr
  rw [show planF bushN.pipes (loadsL bushN.pipes (highF bushF) []) [⟨8, 2⟩, ⟨20, 9⟩] 7000 bushN.pump = _ from k_pl] at r6 hc6 ⊢
  have hb : Below W.heap.size W V := ((Below.refl W.heap.size W).alloc (Nat.le_refl _) _).trans (hb.mono (by simp))
  have hzV := hb.size
  have r1 := r1.below hb (Nat.le_refl _)
  have r3 := r3.below hb (Nat.le_refl _)
  have r4 := r4.below hb (Nat.le_refl _)
  have r5 := r5.below hb (Nat.le_refl _)
  have hN := hN.below hb hlN
  have hP1 := hP1.below hb (by omega)
  have hF1 := hF1.below hb (by omega)
  have hBw := hBw.trans (hb.mono (by omega))
  have hlN := hN.lt
  clear n0 n1 nf0 nf1
  have n0 := hN.cell 0; have nf0 := hN.frozen 0; have n1 := hN.cell 1; have nf1 := hN.frozen 1; simp at n0 n1
  have r1 := r1.mono (Nat.le_refl _) hzV
  have r3 := r3.mono (Nat.le_refl _) hzV
  have r4 := r4.mono (Nat.le_refl _) hzV
  have r5 := r5.mono (Nat.le_refl _) hzV
  clear hb
  obtain ⟨W, rfl⟩ : ∃ W' : World, W' = V := ⟨_, rfl⟩
  obtain ⟨b1, o1, rfl, _, _, q1⟩ := RdI.at_ (k := 1) r1 (by decide)
  obtain ⟨b3, o3, rfl, _, _, q3⟩ := RdI.at_ (k := 2) r3 (by decide)
  obtain ⟨b4, o4, rfl, _, _, q4⟩ := Rd.at_ (k := 0) r4 (by decide)
  obtain ⟨b5, o5, rfl, _, _, q5⟩ := Rd.at_ (k := 2) r5 (by decide)
  obtain ⟨b5', o5', h5, _, _, q5'⟩ := Rd.at_ (k := 4) r5 (by decide)
  cases h5
  obtain ⟨b6, o6, rfl, _, _, q6⟩ := RdI.at_ (k := 0) r6 (by decide)
  have q40 := q4 0 _ rfl
  have q41 := q4 1 _ rfl
  have q50 := q5 0 _ rfl
  have q51 := q5 1 _ rfl
  have q52 := q5' 0 _ rfl
  have q53 := q5' 1 _ rfl
  clear q4 q5 q5'
  simp at q1 q3 q40 q41 q50 q51 q52 q53 q6
  go_wp2_with fail
  go_ret
  exact ⟨rfl, hBw⟩
end Go.Proofs.Ytepibjfmeibgcaa
