/- The law of flows, walked. -/
import Derived.Test.YtepibjfmeibgcaaLw
import Derived.Test.YtepibjfmeibgcaaRx
namespace Go.Proofs.Ytepibjfmeibgcaa
open Go.RowKit
set_option linter.unusedVariables false
/-- The value of Frosts. -/
abbrev frostV (C : Option Addr) (m cz : Nat) (p : Pipe) (fl : Int) : Value := .agg #[.slice C m cz, .int .i64 p.parent, .int .i64 p.length, .int .i64 p.bore, .int .i64 p.drop, .int .i64 p.taps, .int .i64 fl]
theorem same_refl (A B : Option Addr) (c cb lo hi l2 h2 m1 m2 : Nat) (a : List Rng) (w : World) (hA : RdR w lo hi A a) (hhi : hi ≤ w.heap.size) (hB : RdR w l2 h2 B a) (hh2 : h2 ≤ w.heap.size) (ha : a.length ≤ maxLen) (e1 : m1 = a.length) (e2 : m2 = a.length) :
    Calls Try.prog 37 #[.slice A m1 c, .slice B m2 cb] w fun e w' => e = .returned (.bool true) ∧ Below w.heap.size w w' := by
  subst e1
  subst e2
  exact (same_ A B c cb lo hi l2 h2 a a w hA hhi hB hh2 ha ha).mono fun e w' h => ⟨by rw [h.1]; simp, h.2⟩
theorem netB_ok {n : Net} (h : netB n = true) : (0 ≤ n.pump ∧ n.pump ≤ 10000) ∧ ∀ j, 0 < j → j < n.pipes.length → PipeOk (pAt n.pipes j) := by
  refine ⟨?_, fun j h0 hj => by rw [pAt_eq hj]; exact pipeB_ok (netB_pipe h hj h0)⟩
  unfold netB at h
  simp only [Bool.and_eq_true] at h
  exact inB_true h.1.1.2
set_option maxHeartbeats 4000000 in
set_option maxRecDepth 100000 in
theorem LineFlows_ (n : Net) (rs : List Rng) (zs : List Int) (p : Pipe) (fl : Int) (A B C : Option Addr) (c cb cz : Nat) (w : World) (hR : RdP w 0 w.heap.size A n.pipes) (hc : n.pipes.length ≤ c) (hm : c ≤ maxLen)
    (hF : RdR w 0 w.heap.size B rs) (hcb : rs.length ≤ cb) (hmb : cb ≤ maxLen) (hZ : RdI w 0 w.heap.size C zs) (hcz : zs.length ≤ cz) (hmz : cz ≤ maxLen) :
    Calls Try.prog 7 #[.agg #[.int .i64 n.pump, .slice A n.pipes.length c], .slice B rs.length cb, frostV C zs.length cz p fl] w fun e w' => e = .returned (.bool true) ∧ Below w.heap.size w w' := by
  have hn : n.pipes.length ≤ maxLen := Nat.le_trans hc hm
  have hnb : rs.length ≤ maxLen := Nat.le_trans hcb hmb
  have hnz : zs.length ≤ maxLen := Nat.le_trans hcz hmz
  have hm9 : maxLen ≤ 9223372036854775807 := by unfold maxLen; omega
  go_enter Try.func7, Try.ntmps7
  go_wp2_with fail
  go_region
  have hB : Below w.heap.size w (((w.alloc (.cells #[.int .i64 n.pump, .slice A n.pipes.length c] 24)).alloc (.cells #[.slice C zs.length cz, .int .i64 p.parent, .int .i64 p.length, .int .i64 p.bore, .int .i64 p.drop, .int .i64 p.taps, .int .i64 fl] 63)).alloc (.cells #[.int .i64 p.parent, .int .i64 p.length, .int .i64 p.bore, .int .i64 p.drop, .int .i64 p.taps] 54)).drew := (by repeat (first | exact Below.refl _ _ | exact (Below.refl _ _) | assumption | (refine Below.setCell ?_ (by first | omega | (simp; done) | (simp; omega) | (simp [World.setCell]; done) | (simp [World.setCell]; omega)) _) | (refine Below.alloc ?_ (by first | omega | (simp; done) | (simp; omega) | (simp [World.setCell]; done) | (simp [World.setCell]; omega)) _) | (refine Below.drewN_ ?_ _) | (refine Below.drew ?_)))
  have hN : Blk (((w.alloc (.cells #[.int .i64 n.pump, .slice A n.pipes.length c] 24)).alloc (.cells #[.slice C zs.length cz, .int .i64 p.parent, .int .i64 p.length, .int .i64 p.bore, .int .i64 p.drop, .int .i64 p.taps, .int .i64 fl] 63)).alloc (.cells #[.int .i64 p.parent, .int .i64 p.length, .int .i64 p.bore, .int .i64 p.drop, .int .i64 p.taps] 54)).drew w.heap.size 24 #[.int .i64 n.pump, .slice A n.pipes.length c] := (((Blk.new w _ _).alloc _).alloc _).drew
  have hX : Blk (((w.alloc (.cells #[.int .i64 n.pump, .slice A n.pipes.length c] 24)).alloc (.cells #[.slice C zs.length cz, .int .i64 p.parent, .int .i64 p.length, .int .i64 p.bore, .int .i64 p.drop, .int .i64 p.taps, .int .i64 fl] 63)).alloc (.cells #[.int .i64 p.parent, .int .i64 p.length, .int .i64 p.bore, .int .i64 p.drop, .int .i64 p.taps] 54)).drew (w.heap.size + 1) 63 #[.slice C zs.length cz, .int .i64 p.parent, .int .i64 p.length, .int .i64 p.bore, .int .i64 p.drop, .int .i64 p.taps, .int .i64 fl] := ((blk_new' (w.alloc (.cells #[.int .i64 n.pump, .slice A n.pipes.length c] 24)) (w.heap.size + 1) _ _ (by simp)).alloc _).drew
  have hP : Blk (((w.alloc (.cells #[.int .i64 n.pump, .slice A n.pipes.length c] 24)).alloc (.cells #[.slice C zs.length cz, .int .i64 p.parent, .int .i64 p.length, .int .i64 p.bore, .int .i64 p.drop, .int .i64 p.taps, .int .i64 fl] 63)).alloc (.cells #[.int .i64 p.parent, .int .i64 p.length, .int .i64 p.bore, .int .i64 p.drop, .int .i64 p.taps] 54)).drew (w.heap.size + 1 + 1) 54 #[.int .i64 p.parent, .int .i64 p.length, .int .i64 p.bore, .int .i64 p.drop, .int .i64 p.taps] := (blk_new' ((w.alloc (.cells #[.int .i64 n.pump, .slice A n.pipes.length c] 24)).alloc (.cells #[.slice C zs.length cz, .int .i64 p.parent, .int .i64 p.length, .int .i64 p.bore, .int .i64 p.drop, .int .i64 p.taps, .int .i64 fl] 63)) (w.heap.size + 1 + 1) _ _ (by simp)).drew
  generalize (((w.alloc (.cells #[.int .i64 n.pump, .slice A n.pipes.length c] 24)).alloc (.cells #[.slice C zs.length cz, .int .i64 p.parent, .int .i64 p.length, .int .i64 p.bore, .int .i64 p.drop, .int .i64 p.taps, .int .i64 fl] 63)).alloc (.cells #[.int .i64 p.parent, .int .i64 p.length, .int .i64 p.bore, .int .i64 p.drop, .int .i64 p.taps] 54)).drew = V at *
  replace hR := hR.below hB (Nat.le_refl _)
  replace hF := hF.below hB (Nat.le_refl _)
  replace hZ := hZ.below hB (Nat.le_refl _)
  have n0 := hN.cell 0; have nf0 := hN.frozen 0; have n1 := hN.cell 1; have nf1 := hN.frozen 1; simp at n0 n1
  have x0 := hX.cell 0; have xf0 := hX.frozen 0; have x1 := hX.cell 1; have xf1 := hX.frozen 1; have x2 := hX.cell 2; have xf2 := hX.frozen 2; have x3 := hX.cell 3; have xf3 := hX.frozen 3; have x4 := hX.cell 4; have xf4 := hX.frozen 4; have x5 := hX.cell 5; have xf5 := hX.frozen 5; have x6 := hX.cell 6; have xf6 := hX.frozen 6; simp at x0 x1 x2 x3 x4 x5 x6
  have t0 := hP.cell 0; have tf0 := hP.frozen 0; have t1 := hP.cell 1; have tf1 := hP.frozen 1; have t2 := hP.cell 2; have tf2 := hP.frozen 2; have t3 := hP.cell 3; have tf3 := hP.frozen 3; have t4 := hP.cell 4; have tf4 := hP.frozen 4; simp at t0 t1 t2 t3 t4
  have nl := hN.lt
  have xl := hX.lt
  have tl := hP.lt
  go_wp2_with fail
  refine (great_ n.pump A B C n.pipes.length rs.length zs.length c cb cz _ hn hnb hnz).mono ?_
  rintro e V1 ⟨rfl, hb⟩
  have hsz := hb.size; replace hN := hN.below hb hN.lt; replace hX := hX.below hb hX.lt; replace hP := hP.below hb hP.lt; replace hR := hR.below hb (by first | exact Nat.le_refl _ | omega); replace hF := hF.below hb (by first | exact Nat.le_refl _ | omega); replace hZ := hZ.below hb (by first | exact Nat.le_refl _ | omega); replace hB := hB.trans (hb.mono (by first | exact hB.size | omega)); clear n0 nf0 n1 nf1; have n0 := hN.cell 0; have nf0 := hN.frozen 0; have n1 := hN.cell 1; have nf1 := hN.frozen 1; simp at n0 n1; replace nl := hN.lt; clear x0 xf0 x1 xf1 x2 xf2 x3 xf3 x4 xf4 x5 xf5 x6 xf6; have x0 := hX.cell 0; have xf0 := hX.frozen 0; have x1 := hX.cell 1; have xf1 := hX.frozen 1; have x2 := hX.cell 2; have xf2 := hX.frozen 2; have x3 := hX.cell 3; have xf3 := hX.frozen 3; have x4 := hX.cell 4; have xf4 := hX.frozen 4; have x5 := hX.cell 5; have xf5 := hX.frozen 5; have x6 := hX.cell 6; have xf6 := hX.frozen 6; simp at x0 x1 x2 x3 x4 x5 x6; replace xl := hX.lt; clear t0 tf0 t1 tf1 t2 tf2 t3 tf3 t4 tf4; have t0 := hP.cell 0; have tf0 := hP.frozen 0; have t1 := hP.cell 1; have tf1 := hP.frozen 1; have t2 := hP.cell 2; have tf2 := hP.frozen 2; have t3 := hP.cell 3; have tf3 := hP.frozen 3; have t4 := hP.cell 4; have tf4 := hP.frozen 4; simp at t0 t1 t2 t3 t4; replace tl := hP.lt; clear hb
  cases hg : greatB n.pipes.length rs.length zs.length with
  | true =>
    go_wp2_with fail
    refine (known_ _).mono ?_
    rintro e w2 ⟨rfl, hb2⟩
    go_wp2_with fail
    go_ret
    exact ⟨rfl, hB.trans (hb2.mono hB.size)⟩

  | false =>
    have hle : n.pipes.length ≤ 70 ∧ rs.length ≤ 70 ∧ zs.length ≤ 70 := by unfold greatB at hg; simp at hg; omega
    obtain ⟨hl1, hl2, hl3⟩ := hle
    clear hg
    go_wp2_with fail
    refine (ownC n.pump A c 0 w.heap.size n.pipes _ hR (by omega) (by omega)).mono ?_
    rintro e V2 ⟨⟨B2, c2, rfl, hc2, hI⟩, hb⟩
    have hsz := hb.size; replace hN := hN.below hb hN.lt; replace hX := hX.below hb hX.lt; replace hP := hP.below hb hP.lt; replace hR := hR.below hb (by first | exact Nat.le_refl _ | omega); replace hF := hF.below hb (by first | exact Nat.le_refl _ | omega); replace hZ := hZ.below hb (by first | exact Nat.le_refl _ | omega); replace hB := hB.trans (hb.mono (by first | exact hB.size | omega)); clear n0 nf0 n1 nf1; have n0 := hN.cell 0; have nf0 := hN.frozen 0; have n1 := hN.cell 1; have nf1 := hN.frozen 1; simp at n0 n1; replace nl := hN.lt; clear x0 xf0 x1 xf1 x2 xf2 x3 xf3 x4 xf4 x5 xf5 x6 xf6; have x0 := hX.cell 0; have xf0 := hX.frozen 0; have x1 := hX.cell 1; have xf1 := hX.frozen 1; have x2 := hX.cell 2; have xf2 := hX.frozen 2; have x3 := hX.cell 3; have xf3 := hX.frozen 3; have x4 := hX.cell 4; have xf4 := hX.frozen 4; have x5 := hX.cell 5; have xf5 := hX.frozen 5; have x6 := hX.cell 6; have xf6 := hX.frozen 6; simp at x0 x1 x2 x3 x4 x5 x6; replace xl := hX.lt; clear t0 tf0 t1 tf1 t2 tf2 t3 tf3 t4 tf4; have t0 := hP.cell 0; have tf0 := hP.frozen 0; have t1 := hP.cell 1; have tf1 := hP.frozen 1; have t2 := hP.cell 2; have tf2 := hP.frozen 2; have t3 := hP.cell 3; have tf3 := hP.frozen 3; have t4 := hP.cell 4; have tf4 := hP.frozen 4; simp at t0 t1 t2 t3 t4; replace tl := hP.lt; clear hb
    go_wp2_with fail
    refine (rangesC B cb 0 w.heap.size rs _ hF (by omega) (by omega)).mono ?_
    rintro e V3 ⟨⟨B3, c3, rfl, hc3, hJ⟩, hb⟩
    have hsz := hb.size; replace hN := hN.below hb hN.lt; replace hX := hX.below hb hX.lt; replace hP := hP.below hb hP.lt; replace hR := hR.below hb (by first | exact Nat.le_refl _ | omega); replace hF := hF.below hb (by first | exact Nat.le_refl _ | omega); replace hZ := hZ.below hb (by first | exact Nat.le_refl _ | omega); replace hI := hI.below hb (by first | exact Nat.le_refl _ | omega); replace hB := hB.trans (hb.mono (by first | exact hB.size | omega)); clear n0 nf0 n1 nf1; have n0 := hN.cell 0; have nf0 := hN.frozen 0; have n1 := hN.cell 1; have nf1 := hN.frozen 1; simp at n0 n1; replace nl := hN.lt; clear x0 xf0 x1 xf1 x2 xf2 x3 xf3 x4 xf4 x5 xf5 x6 xf6; have x0 := hX.cell 0; have xf0 := hX.frozen 0; have x1 := hX.cell 1; have xf1 := hX.frozen 1; have x2 := hX.cell 2; have xf2 := hX.frozen 2; have x3 := hX.cell 3; have xf3 := hX.frozen 3; have x4 := hX.cell 4; have xf4 := hX.frozen 4; have x5 := hX.cell 5; have xf5 := hX.frozen 5; have x6 := hX.cell 6; have xf6 := hX.frozen 6; simp at x0 x1 x2 x3 x4 x5 x6; replace xl := hX.lt; clear t0 tf0 t1 tf1 t2 tf2 t3 tf3 t4 tf4; have t0 := hP.cell 0; have tf0 := hP.frozen 0; have t1 := hP.cell 1; have tf1 := hP.frozen 1; have t2 := hP.cell 2; have tf2 := hP.frozen 2; have t3 := hP.cell 3; have tf3 := hP.frozen 3; have t4 := hP.cell 4; have tf4 := hP.frozen 4; simp at t0 t1 t2 t3 t4; replace tl := hP.lt; clear hb
    go_wp2_with fail
    refine (numbersC C cz 0 w.heap.size zs _ hZ (by omega) (by omega)).mono ?_
    rintro e V4 ⟨⟨B4, c4, rfl, hc4, hK⟩, hb⟩
    have hsz := hb.size; replace hN := hN.below hb hN.lt; replace hX := hX.below hb hX.lt; replace hP := hP.below hb hP.lt; replace hR := hR.below hb (by first | exact Nat.le_refl _ | omega); replace hF := hF.below hb (by first | exact Nat.le_refl _ | omega); replace hZ := hZ.below hb (by first | exact Nat.le_refl _ | omega); replace hI := hI.below hb (by first | exact Nat.le_refl _ | omega); replace hJ := hJ.below hb (by first | exact Nat.le_refl _ | omega); replace hB := hB.trans (hb.mono (by first | exact hB.size | omega)); clear n0 nf0 n1 nf1; have n0 := hN.cell 0; have nf0 := hN.frozen 0; have n1 := hN.cell 1; have nf1 := hN.frozen 1; simp at n0 n1; replace nl := hN.lt; clear x0 xf0 x1 xf1 x2 xf2 x3 xf3 x4 xf4 x5 xf5 x6 xf6; have x0 := hX.cell 0; have xf0 := hX.frozen 0; have x1 := hX.cell 1; have xf1 := hX.frozen 1; have x2 := hX.cell 2; have xf2 := hX.frozen 2; have x3 := hX.cell 3; have xf3 := hX.frozen 3; have x4 := hX.cell 4; have xf4 := hX.frozen 4; have x5 := hX.cell 5; have xf5 := hX.frozen 5; have x6 := hX.cell 6; have xf6 := hX.frozen 6; simp at x0 x1 x2 x3 x4 x5 x6; replace xl := hX.lt; clear t0 tf0 t1 tf1 t2 tf2 t3 tf3 t4 tf4; have t0 := hP.cell 0; have tf0 := hP.frozen 0; have t1 := hP.cell 1; have tf1 := hP.frozen 1; have t2 := hP.cell 2; have tf2 := hP.frozen 2; have t3 := hP.cell 3; have tf3 := hP.frozen 3; have t4 := hP.cell 4; have tf4 := hP.frozen 4; simp at t0 t1 t2 t3 t4; replace tl := hP.lt; clear hb
    have hz4 := hB.size
    go_wp2_with fail
    have hM := Blk.new V4 24 #[.int .i64 n.pump, .slice B2 n.pipes.length c2]
    have hb : Below V4.heap.size V4 (V4.alloc (.cells #[.int .i64 n.pump, .slice B2 n.pipes.length c2] 24)) := (Below.refl _ _).alloc (Nat.le_refl _) _
    generalize V4.alloc (.cells #[.int .i64 n.pump, .slice B2 n.pipes.length c2] 24) = V at *
    have hsz := hb.size; replace hN := hN.below hb hN.lt; replace hX := hX.below hb hX.lt; replace hP := hP.below hb hP.lt; replace hR := hR.below hb (by first | exact Nat.le_refl _ | omega); replace hF := hF.below hb (by first | exact Nat.le_refl _ | omega); replace hZ := hZ.below hb (by first | exact Nat.le_refl _ | omega); replace hI := hI.below hb (by first | exact Nat.le_refl _ | omega); replace hJ := hJ.below hb (by first | exact Nat.le_refl _ | omega); replace hK := hK.below hb (by first | exact Nat.le_refl _ | omega); replace hB := hB.trans (hb.mono (by first | exact hB.size | omega)); clear n0 nf0 n1 nf1; have n0 := hN.cell 0; have nf0 := hN.frozen 0; have n1 := hN.cell 1; have nf1 := hN.frozen 1; simp at n0 n1; replace nl := hN.lt; clear x0 xf0 x1 xf1 x2 xf2 x3 xf3 x4 xf4 x5 xf5 x6 xf6; have x0 := hX.cell 0; have xf0 := hX.frozen 0; have x1 := hX.cell 1; have xf1 := hX.frozen 1; have x2 := hX.cell 2; have xf2 := hX.frozen 2; have x3 := hX.cell 3; have xf3 := hX.frozen 3; have x4 := hX.cell 4; have xf4 := hX.frozen 4; have x5 := hX.cell 5; have xf5 := hX.frozen 5; have x6 := hX.cell 6; have xf6 := hX.frozen 6; simp at x0 x1 x2 x3 x4 x5 x6; replace xl := hX.lt; clear t0 tf0 t1 tf1 t2 tf2 t3 tf3 t4 tf4; have t0 := hP.cell 0; have tf0 := hP.frozen 0; have t1 := hP.cell 1; have tf1 := hP.frozen 1; have t2 := hP.cell 2; have tf2 := hP.frozen 2; have t3 := hP.cell 3; have tf3 := hP.frozen 3; have t4 := hP.cell 4; have tf4 := hP.frozen 4; simp at t0 t1 t2 t3 t4; replace tl := hP.lt; clear hb
    have m0 := hM.cell 0; have mf0 := hM.frozen 0; have m1 := hM.cell 1; have mf1 := hM.frozen 1; simp at m0 m1
    have ml := hM.lt
    have hm4 : V1.heap.size ≤ V2.heap.size ∧ V2.heap.size ≤ V3.heap.size ∧ V3.heap.size ≤ V4.heap.size := by omega
    go_wp2_with fail
    refine (LoadsC n B2 c2 _ V1.heap.size V2.heap.size hI (by omega) hc2 hn B3 B4 c3 c4 rs zs V2.heap.size V3.heap.size V3.heap.size V4.heap.size hJ (by omega) hnb hK (by omega) hc4 hnz).mono ?_
    rintro e V5 ⟨⟨v1, rfl, ho⟩, hb⟩
    obtain ⟨L1, k1, rfl, hk1, hW⟩ := ownsRow_rd encR_len (by decide) ho rfl
    clear ho
    have hsz := hb.size; replace hN := hN.below hb hN.lt; replace hX := hX.below hb hX.lt; replace hP := hP.below hb hP.lt; replace hM := hM.below hb hM.lt; replace hR := hR.below hb (by first | exact Nat.le_refl _ | omega); replace hF := hF.below hb (by first | exact Nat.le_refl _ | omega); replace hZ := hZ.below hb (by first | exact Nat.le_refl _ | omega); replace hI := hI.below hb (by first | exact Nat.le_refl _ | omega); replace hJ := hJ.below hb (by first | exact Nat.le_refl _ | omega); replace hK := hK.below hb (by first | exact Nat.le_refl _ | omega); replace hB := hB.trans (hb.mono (by first | exact hB.size | omega)); clear n0 nf0 n1 nf1; have n0 := hN.cell 0; have nf0 := hN.frozen 0; have n1 := hN.cell 1; have nf1 := hN.frozen 1; simp at n0 n1; replace nl := hN.lt; clear x0 xf0 x1 xf1 x2 xf2 x3 xf3 x4 xf4 x5 xf5 x6 xf6; have x0 := hX.cell 0; have xf0 := hX.frozen 0; have x1 := hX.cell 1; have xf1 := hX.frozen 1; have x2 := hX.cell 2; have xf2 := hX.frozen 2; have x3 := hX.cell 3; have xf3 := hX.frozen 3; have x4 := hX.cell 4; have xf4 := hX.frozen 4; have x5 := hX.cell 5; have xf5 := hX.frozen 5; have x6 := hX.cell 6; have xf6 := hX.frozen 6; simp at x0 x1 x2 x3 x4 x5 x6; replace xl := hX.lt; clear t0 tf0 t1 tf1 t2 tf2 t3 tf3 t4 tf4; have t0 := hP.cell 0; have tf0 := hP.frozen 0; have t1 := hP.cell 1; have tf1 := hP.frozen 1; have t2 := hP.cell 2; have tf2 := hP.frozen 2; have t3 := hP.cell 3; have tf3 := hP.frozen 3; have t4 := hP.cell 4; have tf4 := hP.frozen 4; simp at t0 t1 t2 t3 t4; replace tl := hP.lt; clear m0 mf0 m1 mf1; have m0 := hM.cell 0; have mf0 := hM.frozen 0; have m1 := hM.cell 1; have mf1 := hM.frozen 1; simp at m0 m1; replace ml := hM.lt; clear hb
    go_wp2_with fail
    refine (VacuumC n B2 c2 _ V1.heap.size V2.heap.size hI (by omega) hc2 hn B3 B4 c3 c4 rs zs V2.heap.size V3.heap.size V3.heap.size V4.heap.size hJ (by omega) hnb hK (by omega) hc4 hnz).mono ?_
    rintro e V6 ⟨⟨v2, rfl, ho⟩, hb⟩
    obtain ⟨L2, k2, rfl, hk2, hH⟩ := ownsRow_rd encR_len (by decide) ho rfl
    clear ho
    have hsz := hb.size; replace hN := hN.below hb hN.lt; replace hX := hX.below hb hX.lt; replace hP := hP.below hb hP.lt; replace hM := hM.below hb hM.lt; replace hR := hR.below hb (by first | exact Nat.le_refl _ | omega); replace hF := hF.below hb (by first | exact Nat.le_refl _ | omega); replace hZ := hZ.below hb (by first | exact Nat.le_refl _ | omega); replace hI := hI.below hb (by first | exact Nat.le_refl _ | omega); replace hJ := hJ.below hb (by first | exact Nat.le_refl _ | omega); replace hK := hK.below hb (by first | exact Nat.le_refl _ | omega); replace hW := hW.below hb (by first | exact Nat.le_refl _ | omega); replace hB := hB.trans (hb.mono (by first | exact hB.size | omega)); clear n0 nf0 n1 nf1; have n0 := hN.cell 0; have nf0 := hN.frozen 0; have n1 := hN.cell 1; have nf1 := hN.frozen 1; simp at n0 n1; replace nl := hN.lt; clear x0 xf0 x1 xf1 x2 xf2 x3 xf3 x4 xf4 x5 xf5 x6 xf6; have x0 := hX.cell 0; have xf0 := hX.frozen 0; have x1 := hX.cell 1; have xf1 := hX.frozen 1; have x2 := hX.cell 2; have xf2 := hX.frozen 2; have x3 := hX.cell 3; have xf3 := hX.frozen 3; have x4 := hX.cell 4; have xf4 := hX.frozen 4; have x5 := hX.cell 5; have xf5 := hX.frozen 5; have x6 := hX.cell 6; have xf6 := hX.frozen 6; simp at x0 x1 x2 x3 x4 x5 x6; replace xl := hX.lt; clear t0 tf0 t1 tf1 t2 tf2 t3 tf3 t4 tf4; have t0 := hP.cell 0; have tf0 := hP.frozen 0; have t1 := hP.cell 1; have tf1 := hP.frozen 1; have t2 := hP.cell 2; have tf2 := hP.frozen 2; have t3 := hP.cell 3; have tf3 := hP.frozen 3; have t4 := hP.cell 4; have tf4 := hP.frozen 4; simp at t0 t1 t2 t3 t4; replace tl := hP.lt; clear m0 mf0 m1 mf1; have m0 := hM.cell 0; have mf0 := hM.frozen 0; have m1 := hM.cell 1; have mf1 := hM.frozen 1; simp at m0 m1; replace ml := hM.lt; clear hb
    go_wp2_with fail
    refine (Loss_ p fl _).mono ?_
    rintro e V7 ⟨hlr, hb⟩
    unfold LossR at hlr
    have hlx := hlr
    clear hlr
    obtain ⟨z1, z2, hz, hlr⟩ : ∃ z1 z2 : Int, Hid (z1 = (if pipeB p 60 then (if inB 0 60000000000 fl then lossZ p fl else 0) else 0) ∧ z2 = (if pipeB p 60 then (if inB 0 60000000000 fl then 0 else 3) else 2)) ∧ e = .returned (.tuple #[.int .i64 z1, .int .i64 z2]) := ⟨_, _, Lib.hid ⟨rfl, rfl⟩, hlx⟩
    subst hlr
    clear hlx
    have hsz := hb.size; replace hN := hN.below hb hN.lt; replace hX := hX.below hb hX.lt; replace hP := hP.below hb hP.lt; replace hM := hM.below hb hM.lt; replace hR := hR.below hb (by first | exact Nat.le_refl _ | omega); replace hF := hF.below hb (by first | exact Nat.le_refl _ | omega); replace hZ := hZ.below hb (by first | exact Nat.le_refl _ | omega); replace hI := hI.below hb (by first | exact Nat.le_refl _ | omega); replace hJ := hJ.below hb (by first | exact Nat.le_refl _ | omega); replace hK := hK.below hb (by first | exact Nat.le_refl _ | omega); replace hW := hW.below hb (by first | exact Nat.le_refl _ | omega); replace hH := hH.below hb (by first | exact Nat.le_refl _ | omega); replace hB := hB.trans (hb.mono (by first | exact hB.size | omega)); clear n0 nf0 n1 nf1; have n0 := hN.cell 0; have nf0 := hN.frozen 0; have n1 := hN.cell 1; have nf1 := hN.frozen 1; simp at n0 n1; replace nl := hN.lt; clear x0 xf0 x1 xf1 x2 xf2 x3 xf3 x4 xf4 x5 xf5 x6 xf6; have x0 := hX.cell 0; have xf0 := hX.frozen 0; have x1 := hX.cell 1; have xf1 := hX.frozen 1; have x2 := hX.cell 2; have xf2 := hX.frozen 2; have x3 := hX.cell 3; have xf3 := hX.frozen 3; have x4 := hX.cell 4; have xf4 := hX.frozen 4; have x5 := hX.cell 5; have xf5 := hX.frozen 5; have x6 := hX.cell 6; have xf6 := hX.frozen 6; simp at x0 x1 x2 x3 x4 x5 x6; replace xl := hX.lt; clear t0 tf0 t1 tf1 t2 tf2 t3 tf3 t4 tf4; have t0 := hP.cell 0; have tf0 := hP.frozen 0; have t1 := hP.cell 1; have tf1 := hP.frozen 1; have t2 := hP.cell 2; have tf2 := hP.frozen 2; have t3 := hP.cell 3; have tf3 := hP.frozen 3; have t4 := hP.cell 4; have tf4 := hP.frozen 4; simp at t0 t1 t2 t3 t4; replace tl := hP.lt; clear m0 mf0 m1 mf1; have m0 := hM.cell 0; have mf0 := hM.frozen 0; have m1 := hM.cell 1; have mf1 := hM.frozen 1; simp at m0 m1; replace ml := hM.lt; clear hb
    go_wp2_with fail
    refine (alike_ B2 A c2 c V1.heap.size V2.heap.size 0 w.heap.size n n _ hI (by omega) hR (by omega) hn hn).mono ?_
    rintro e U1 ⟨rfl, hb⟩
    rw [alikeB_refl]
    have hsz := hb.size; replace hN := hN.below hb hN.lt; replace hX := hX.below hb hX.lt; replace hP := hP.below hb hP.lt; replace hR := hR.below hb (by first | exact Nat.le_refl _ | omega); replace hF := hF.below hb (by first | exact Nat.le_refl _ | omega); replace hZ := hZ.below hb (by first | exact Nat.le_refl _ | omega); replace hJ := hJ.below hb (by first | exact Nat.le_refl _ | omega); replace hK := hK.below hb (by first | exact Nat.le_refl _ | omega); replace hW := hW.below hb (by first | exact Nat.le_refl _ | omega); replace hH := hH.below hb (by first | exact Nat.le_refl _ | omega); replace hB := hB.trans (hb.mono (by first | exact hB.size | omega)); clear n0 nf0 n1 nf1; have n0 := hN.cell 0; have nf0 := hN.frozen 0; have n1 := hN.cell 1; have nf1 := hN.frozen 1; simp at n0 n1; replace nl := hN.lt; clear x0 xf0 x1 xf1 x2 xf2 x3 xf3 x4 xf4 x5 xf5 x6 xf6; have x0 := hX.cell 0; have xf0 := hX.frozen 0; have x1 := hX.cell 1; have xf1 := hX.frozen 1; have x2 := hX.cell 2; have xf2 := hX.frozen 2; have x3 := hX.cell 3; have xf3 := hX.frozen 3; have x4 := hX.cell 4; have xf4 := hX.frozen 4; have x5 := hX.cell 5; have xf5 := hX.frozen 5; have x6 := hX.cell 6; have xf6 := hX.frozen 6; simp at x0 x1 x2 x3 x4 x5 x6; replace xl := hX.lt; clear t0 tf0 t1 tf1 t2 tf2 t3 tf3 t4 tf4; have t0 := hP.cell 0; have tf0 := hP.frozen 0; have t1 := hP.cell 1; have tf1 := hP.frozen 1; have t2 := hP.cell 2; have tf2 := hP.frozen 2; have t3 := hP.cell 3; have tf3 := hP.frozen 3; have t4 := hP.cell 4; have tf4 := hP.frozen 4; simp at t0 t1 t2 t3 t4; replace tl := hP.lt; clear hb
    go_wp2_with fail
    refine (same_refl B3 B c3 cb V2.heap.size V3.heap.size 0 w.heap.size _ _ rs _ hJ (by omega) hF (by omega) hnb rfl rfl).mono ?_
    rintro e U2 ⟨rfl, hb⟩
    have hsz := hb.size; replace hN := hN.below hb hN.lt; replace hX := hX.below hb hX.lt; replace hP := hP.below hb hP.lt; replace hR := hR.below hb (by first | exact Nat.le_refl _ | omega); replace hF := hF.below hb (by first | exact Nat.le_refl _ | omega); replace hZ := hZ.below hb (by first | exact Nat.le_refl _ | omega); replace hK := hK.below hb (by first | exact Nat.le_refl _ | omega); replace hW := hW.below hb (by first | exact Nat.le_refl _ | omega); replace hH := hH.below hb (by first | exact Nat.le_refl _ | omega); replace hB := hB.trans (hb.mono (by first | exact hB.size | omega)); clear n0 nf0 n1 nf1; have n0 := hN.cell 0; have nf0 := hN.frozen 0; have n1 := hN.cell 1; have nf1 := hN.frozen 1; simp at n0 n1; replace nl := hN.lt; clear x0 xf0 x1 xf1 x2 xf2 x3 xf3 x4 xf4 x5 xf5 x6 xf6; have x0 := hX.cell 0; have xf0 := hX.frozen 0; have x1 := hX.cell 1; have xf1 := hX.frozen 1; have x2 := hX.cell 2; have xf2 := hX.frozen 2; have x3 := hX.cell 3; have xf3 := hX.frozen 3; have x4 := hX.cell 4; have xf4 := hX.frozen 4; have x5 := hX.cell 5; have xf5 := hX.frozen 5; have x6 := hX.cell 6; have xf6 := hX.frozen 6; simp at x0 x1 x2 x3 x4 x5 x6; replace xl := hX.lt; clear t0 tf0 t1 tf1 t2 tf2 t3 tf3 t4 tf4; have t0 := hP.cell 0; have tf0 := hP.frozen 0; have t1 := hP.cell 1; have tf1 := hP.frozen 1; have t2 := hP.cell 2; have tf2 := hP.frozen 2; have t3 := hP.cell 3; have tf3 := hP.frozen 3; have t4 := hP.cell 4; have tf4 := hP.frozen 4; simp at t0 t1 t2 t3 t4; replace tl := hP.lt; clear hb
    go_wp2_with fail
    refine (equal_refl B4 C c4 cz V3.heap.size V4.heap.size 0 w.heap.size _ zs _ hK (by omega) hZ (by omega) hnz rfl).mono ?_
    rintro e U3 ⟨rfl, hb⟩
    have hsz := hb.size; replace hN := hN.below hb hN.lt; replace hX := hX.below hb hX.lt; replace hP := hP.below hb hP.lt; replace hR := hR.below hb (by first | exact Nat.le_refl _ | omega); replace hF := hF.below hb (by first | exact Nat.le_refl _ | omega); replace hZ := hZ.below hb (by first | exact Nat.le_refl _ | omega); replace hW := hW.below hb (by first | exact Nat.le_refl _ | omega); replace hH := hH.below hb (by first | exact Nat.le_refl _ | omega); replace hB := hB.trans (hb.mono (by first | exact hB.size | omega)); clear n0 nf0 n1 nf1; have n0 := hN.cell 0; have nf0 := hN.frozen 0; have n1 := hN.cell 1; have nf1 := hN.frozen 1; simp at n0 n1; replace nl := hN.lt; clear x0 xf0 x1 xf1 x2 xf2 x3 xf3 x4 xf4 x5 xf5 x6 xf6; have x0 := hX.cell 0; have xf0 := hX.frozen 0; have x1 := hX.cell 1; have xf1 := hX.frozen 1; have x2 := hX.cell 2; have xf2 := hX.frozen 2; have x3 := hX.cell 3; have xf3 := hX.frozen 3; have x4 := hX.cell 4; have xf4 := hX.frozen 4; have x5 := hX.cell 5; have xf5 := hX.frozen 5; have x6 := hX.cell 6; have xf6 := hX.frozen 6; simp at x0 x1 x2 x3 x4 x5 x6; replace xl := hX.lt; clear t0 tf0 t1 tf1 t2 tf2 t3 tf3 t4 tf4; have t0 := hP.cell 0; have tf0 := hP.frozen 0; have t1 := hP.cell 1; have tf1 := hP.frozen 1; have t2 := hP.cell 2; have tf2 := hP.frozen 2; have t3 := hP.cell 3; have tf3 := hP.frozen 3; have t4 := hP.cell 4; have tf4 := hP.frozen 4; simp at t0 t1 t2 t3 t4; replace tl := hP.lt; clear hb
    clear hI hJ hK hM m0 m1 mf0 mf1
    go_wp2_with fail
    refine (refPipe_ p 61 _ (by omega) (by omega)).mono ?_
    rintro e U4 ⟨rfl, hb⟩
    rw [show (61 : Int) - 1 = 60 from rfl]
    have hsz := hb.size; replace hN := hN.below hb hN.lt; replace hX := hX.below hb hX.lt; replace hP := hP.below hb hP.lt; replace hR := hR.below hb (by first | exact Nat.le_refl _ | omega); replace hF := hF.below hb (by first | exact Nat.le_refl _ | omega); replace hZ := hZ.below hb (by first | exact Nat.le_refl _ | omega); replace hW := hW.below hb (by first | exact Nat.le_refl _ | omega); replace hH := hH.below hb (by first | exact Nat.le_refl _ | omega); replace hB := hB.trans (hb.mono (by first | exact hB.size | omega)); clear n0 nf0 n1 nf1; have n0 := hN.cell 0; have nf0 := hN.frozen 0; have n1 := hN.cell 1; have nf1 := hN.frozen 1; simp at n0 n1; replace nl := hN.lt; clear x0 xf0 x1 xf1 x2 xf2 x3 xf3 x4 xf4 x5 xf5 x6 xf6; have x0 := hX.cell 0; have xf0 := hX.frozen 0; have x1 := hX.cell 1; have xf1 := hX.frozen 1; have x2 := hX.cell 2; have xf2 := hX.frozen 2; have x3 := hX.cell 3; have xf3 := hX.frozen 3; have x4 := hX.cell 4; have xf4 := hX.frozen 4; have x5 := hX.cell 5; have xf5 := hX.frozen 5; have x6 := hX.cell 6; have xf6 := hX.frozen 6; simp at x0 x1 x2 x3 x4 x5 x6; replace xl := hX.lt; clear t0 tf0 t1 tf1 t2 tf2 t3 tf3 t4 tf4; have t0 := hP.cell 0; have tf0 := hP.frozen 0; have t1 := hP.cell 1; have tf1 := hP.frozen 1; have t2 := hP.cell 2; have tf2 := hP.frozen 2; have t3 := hP.cell 3; have tf3 := hP.frozen 3; have t4 := hP.cell 4; have tf4 := hP.frozen 4; simp at t0 t1 t2 t3 t4; replace tl := hP.lt; clear hb
    have hwb := hB.size
    have HZ := hz.out
    clear hz
    cases hp : pipeB p 60 with
    | false =>
      simp only [hp] at HZ
      obtain ⟨rfl, rfl⟩ := HZ
      have HP := Lib.hid hp
      clear hp
      cases hok : netB n with
      | false =>
        have hL : LoadsV n rs zs = ([], 2) := by unfold LoadsV flowE; rw [hok]; rfl
        have hV : VacuumV n rs zs = ([], 2) := by unfold VacuumV flowE; rw [hok]; rfl
        simp only [hL, hV, List.length_nil] at hk1 hk2 hW hH ⊢
        clear hL hV
        go_wp2_with fail
        refine (refNet_ n A c _ 0 w.heap.size hR (by omega) hn).mono ?_
        rintro e V8 ⟨rfl, hb⟩
        rw [hok]
        have hsz := hb.size; replace hN := hN.below hb hN.lt; replace hR := hR.below hb (by first | exact Nat.le_refl _ | omega); replace hB := hB.trans (hb.mono (by first | exact hB.size | omega)); clear n0 nf0 n1 nf1; have n0 := hN.cell 0; have nf0 := hN.frozen 0; have n1 := hN.cell 1; have nf1 := hN.frozen 1; simp at n0 n1; replace nl := hN.lt; clear hb
        go_wp2_with fail
        refine (known_ _).mono ?_
        rintro e w2 ⟨rfl, hb2⟩
        go_wp2_with fail
        go_ret
        exact ⟨rfl, hB.trans (hb2.mono hB.size)⟩
      | true =>
        go_wp2_with fail
        refine (refNet_ n A c _ 0 w.heap.size hR (by omega) hn).mono ?_
        rintro e V8 ⟨rfl, hb⟩
        rw [hok]
        have hsz := hb.size; replace hN := hN.below hb hN.lt; replace hR := hR.below hb (by first | exact Nat.le_refl _ | omega); replace hF := hF.below hb (by first | exact Nat.le_refl _ | omega); replace hZ := hZ.below hb (by first | exact Nat.le_refl _ | omega); replace hW := hW.below hb (by first | exact Nat.le_refl _ | omega); replace hH := hH.below hb (by first | exact Nat.le_refl _ | omega); replace hB := hB.trans (hb.mono (by first | exact hB.size | omega)); clear n0 nf0 n1 nf1; have n0 := hN.cell 0; have nf0 := hN.frozen 0; have n1 := hN.cell 1; have nf1 := hN.frozen 1; simp at n0 n1; replace nl := hN.lt; clear hb
        have hln := netB_len hok
        have ht := netB_tree hok
        have hnk := netB_ok hok
        go_wp2_with fail
        refine (refFlows_ n rs zs A B C c cb cz 0 w.heap.size 0 w.heap.size _ hF (by omega) hZ (by omega) (by omega) (by omega) (by omega)).mono ?_
        rintro e V9 ⟨rfl, hb⟩
        have hsz := hb.size; replace hN := hN.below hb hN.lt; replace hR := hR.below hb (by first | exact Nat.le_refl _ | omega); replace hF := hF.below hb (by first | exact Nat.le_refl _ | omega); replace hZ := hZ.below hb (by first | exact Nat.le_refl _ | omega); replace hW := hW.below hb (by first | exact Nat.le_refl _ | omega); replace hH := hH.below hb (by first | exact Nat.le_refl _ | omega); replace hB := hB.trans (hb.mono (by first | exact hB.size | omega)); clear n0 nf0 n1 nf1; have n0 := hN.cell 0; have nf0 := hN.frozen 0; have n1 := hN.cell 1; have nf1 := hN.frozen 1; simp at n0 n1; replace nl := hN.lt; clear hb
        by_cases hk : chkF n.pipes.length rs zs = 0
        · have hlf := chkF_zero hk
          have hL : LoadsV n rs zs = (pairL (loadsL n.pipes (lowF rs) zs) (loadsL n.pipes (highF rs) zs), 0) := by unfold LoadsV flowE; rw [hok]; exact if_pos hk
          have hV : VacuumV n rs zs = (pairL (vacsL n.pump n.pipes (highF rs) zs) (vacsL n.pump n.pipes (lowF rs) zs), 0) := by unfold VacuumV flowE; rw [hok]; exact if_pos hk
          simp only [hL, hV] at hk1 hk2 hW hH ⊢
          rw [hk]
          clear hk hL hV
          have f1 : ∀ k, k < n.pipes.length → 0 ≤ lowF rs k ∧ lowF rs k ≤ 1000000000 := fun k hk => by have := flow_at hlf.2 (show k < rs.length by omega); omega
          have f2 : ∀ k, k < n.pipes.length → 0 ≤ highF rs k ∧ highF rs k ≤ 1000000000 := fun k hk => by have := flow_at hlf.2 (show k < rs.length by omega); omega
          have F1 := Lib.hid f1
          have F2 := Lib.hid f2
          have HLF := Lib.hid hlf.1
          have HNK := Lib.hid hnk
          have HT := Lib.hid ht
          rw [loadsT ht] at hk1 hW ⊢
          rw [vacsT _ (by omega)] at hk2 hH ⊢
          have e1 := pairT_len (ldV n.pipes (lowF rs) zs) (ldV n.pipes (highF rs) zs) n.pipes.length
          have e2 := pairT_len (vacV n.pump n.pipes (highF rs) zs) (vacV n.pump n.pipes (lowF rs) zs) n.pipes.length
          rw [e1] at hk1 ⊢
          rw [e2] at hk2 ⊢
          have E1 := Lib.hid e1
          have E2 := Lib.hid e2
          clear e1 e2 f1 f2 hlf hnk ht
          go_wp2_with fail
          refine (refLoads_ n rs zs A B C c cb cz 0 w.heap.size 0 w.heap.size 0 w.heap.size _ hR (by omega) hF (by omega) hZ (by omega) (by omega) HT.out HLF.out F1.out F2.out (by omega)).mono ?_
          rintro e V10 ⟨⟨D1, d1, rfl, hD⟩, hb⟩
          have hsz := hb.size; replace hN := hN.below hb hN.lt; replace hR := hR.below hb (by first | exact Nat.le_refl _ | omega); replace hF := hF.below hb (by first | exact Nat.le_refl _ | omega); replace hZ := hZ.below hb (by first | exact Nat.le_refl _ | omega); replace hW := hW.below hb (by first | exact Nat.le_refl _ | omega); replace hH := hH.below hb (by first | exact Nat.le_refl _ | omega); replace hB := hB.trans (hb.mono (by first | exact hB.size | omega)); clear n0 nf0 n1 nf1; have n0 := hN.cell 0; have nf0 := hN.frozen 0; have n1 := hN.cell 1; have nf1 := hN.frozen 1; simp at n0 n1; replace nl := hN.lt; clear hb
          go_wp2_with fail
          refine (same_refl L1 D1 k1 d1 _ _ _ _ _ _ _ _ hW (by omega) hD (by omega) (by rw [E1.out]; omega) E1.out.symm E1.out.symm).mono ?_
          rintro e V11 ⟨rfl, hb⟩
          have hsz := hb.size; replace hN := hN.below hb hN.lt; replace hR := hR.below hb (by first | exact Nat.le_refl _ | omega); replace hF := hF.below hb (by first | exact Nat.le_refl _ | omega); replace hZ := hZ.below hb (by first | exact Nat.le_refl _ | omega); replace hH := hH.below hb (by first | exact Nat.le_refl _ | omega); replace hB := hB.trans (hb.mono (by first | exact hB.size | omega)); clear n0 nf0 n1 nf1; have n0 := hN.cell 0; have nf0 := hN.frozen 0; have n1 := hN.cell 1; have nf1 := hN.frozen 1; simp at n0 n1; replace nl := hN.lt; clear hb
          go_wp2_with fail
          refine (refVacuums_ n rs zs A B C c cb cz 0 w.heap.size 0 w.heap.size 0 w.heap.size _ hR (by omega) hF (by omega) hZ (by omega) (by omega) HT.out HLF.out F1.out F2.out (by omega) HNK.out.1 HNK.out.2).mono ?_
          rintro e V12 ⟨⟨D2, d2, rfl, hD2⟩, hb⟩
          have hsz := hb.size; replace hN := hN.below hb hN.lt; replace hH := hH.below hb (by first | exact Nat.le_refl _ | omega); replace hB := hB.trans (hb.mono (by first | exact hB.size | omega)); clear n0 nf0 n1 nf1; have n0 := hN.cell 0; have nf0 := hN.frozen 0; have n1 := hN.cell 1; have nf1 := hN.frozen 1; simp at n0 n1; replace nl := hN.lt; clear hb
          go_wp2_with fail
          refine (same_refl L2 D2 k2 d2 _ _ _ _ _ _ _ _ hH (by omega) hD2 (by omega) (by rw [E2.out]; omega) E2.out.symm E2.out.symm).mono ?_
          rintro e V13 ⟨rfl, hb⟩
          have hsz := hb.size; replace hN := hN.below hb hN.lt; replace hB := hB.trans (hb.mono (by first | exact hB.size | omega)); clear n0 nf0 n1 nf1; have n0 := hN.cell 0; have nf0 := hN.frozen 0; have n1 := hN.cell 1; have nf1 := hN.frozen 1; simp at n0 n1; replace nl := hN.lt; clear hb
          go_wp2_with fail
          refine (known_ _).mono ?_
          rintro e w2 ⟨rfl, hb2⟩
          go_wp2_with fail
          go_ret
          exact ⟨rfl, hB.trans (hb2.mono hB.size)⟩
        · have hL : LoadsV n rs zs = ([], chkF n.pipes.length rs zs) := by unfold LoadsV flowE; rw [hok]; exact if_neg hk
          have hV : VacuumV n rs zs = ([], chkF n.pipes.length rs zs) := by unfold VacuumV flowE; rw [hok]; exact if_neg hk
          simp only [hL, hV, List.length_nil] at hk1 hk2 hW hH ⊢
          clear hL hV
          generalize chkF n.pipes.length rs zs = q at *
          have hqb : (q != 0) = true := by simpa using hk
          clear hk
          go_wp2_with fail
          refine (known_ _).mono ?_
          rintro e w2 ⟨rfl, hb2⟩
          go_wp2_with fail
          go_ret
          exact ⟨rfl, hB.trans (hb2.mono hB.size)⟩
    | true =>
      have HP := Lib.hid hp
      cases hf : inB 0 60000000000 fl with
      | false =>
        simp only [hp, hf, if_true] at HZ
        obtain ⟨rfl, rfl⟩ := HZ
        have hfn := inB_false hf
        clear hp hf
        by_cases hf0 : fl < 0
        · clear hfn
          cases hok : netB n with
          | false =>
            have hL : LoadsV n rs zs = ([], 2) := by unfold LoadsV flowE; rw [hok]; rfl
            have hV : VacuumV n rs zs = ([], 2) := by unfold VacuumV flowE; rw [hok]; rfl
            simp only [hL, hV, List.length_nil] at hk1 hk2 hW hH ⊢
            clear hL hV
            go_wp2_with fail
            refine (refNet_ n A c _ 0 w.heap.size hR (by omega) hn).mono ?_
            rintro e V8 ⟨rfl, hb⟩
            rw [hok]
            have hsz := hb.size; replace hN := hN.below hb hN.lt; replace hR := hR.below hb (by first | exact Nat.le_refl _ | omega); replace hB := hB.trans (hb.mono (by first | exact hB.size | omega)); clear n0 nf0 n1 nf1; have n0 := hN.cell 0; have nf0 := hN.frozen 0; have n1 := hN.cell 1; have nf1 := hN.frozen 1; simp at n0 n1; replace nl := hN.lt; clear hb
            go_wp2_with fail
            refine (known_ _).mono ?_
            rintro e w2 ⟨rfl, hb2⟩
            go_wp2_with fail
            go_ret
            exact ⟨rfl, hB.trans (hb2.mono hB.size)⟩
          | true =>
            go_wp2_with fail
            refine (refNet_ n A c _ 0 w.heap.size hR (by omega) hn).mono ?_
            rintro e V8 ⟨rfl, hb⟩
            rw [hok]
            have hsz := hb.size; replace hN := hN.below hb hN.lt; replace hR := hR.below hb (by first | exact Nat.le_refl _ | omega); replace hF := hF.below hb (by first | exact Nat.le_refl _ | omega); replace hZ := hZ.below hb (by first | exact Nat.le_refl _ | omega); replace hW := hW.below hb (by first | exact Nat.le_refl _ | omega); replace hH := hH.below hb (by first | exact Nat.le_refl _ | omega); replace hB := hB.trans (hb.mono (by first | exact hB.size | omega)); clear n0 nf0 n1 nf1; have n0 := hN.cell 0; have nf0 := hN.frozen 0; have n1 := hN.cell 1; have nf1 := hN.frozen 1; simp at n0 n1; replace nl := hN.lt; clear hb
            have hln := netB_len hok
            have ht := netB_tree hok
            have hnk := netB_ok hok
            go_wp2_with fail
            refine (refFlows_ n rs zs A B C c cb cz 0 w.heap.size 0 w.heap.size _ hF (by omega) hZ (by omega) (by omega) (by omega) (by omega)).mono ?_
            rintro e V9 ⟨rfl, hb⟩
            have hsz := hb.size; replace hN := hN.below hb hN.lt; replace hR := hR.below hb (by first | exact Nat.le_refl _ | omega); replace hF := hF.below hb (by first | exact Nat.le_refl _ | omega); replace hZ := hZ.below hb (by first | exact Nat.le_refl _ | omega); replace hW := hW.below hb (by first | exact Nat.le_refl _ | omega); replace hH := hH.below hb (by first | exact Nat.le_refl _ | omega); replace hB := hB.trans (hb.mono (by first | exact hB.size | omega)); clear n0 nf0 n1 nf1; have n0 := hN.cell 0; have nf0 := hN.frozen 0; have n1 := hN.cell 1; have nf1 := hN.frozen 1; simp at n0 n1; replace nl := hN.lt; clear hb
            by_cases hk : chkF n.pipes.length rs zs = 0
            · have hlf := chkF_zero hk
              have hL : LoadsV n rs zs = (pairL (loadsL n.pipes (lowF rs) zs) (loadsL n.pipes (highF rs) zs), 0) := by unfold LoadsV flowE; rw [hok]; exact if_pos hk
              have hV : VacuumV n rs zs = (pairL (vacsL n.pump n.pipes (highF rs) zs) (vacsL n.pump n.pipes (lowF rs) zs), 0) := by unfold VacuumV flowE; rw [hok]; exact if_pos hk
              simp only [hL, hV] at hk1 hk2 hW hH ⊢
              rw [hk]
              clear hk hL hV
              have f1 : ∀ k, k < n.pipes.length → 0 ≤ lowF rs k ∧ lowF rs k ≤ 1000000000 := fun k hk => by have := flow_at hlf.2 (show k < rs.length by omega); omega
              have f2 : ∀ k, k < n.pipes.length → 0 ≤ highF rs k ∧ highF rs k ≤ 1000000000 := fun k hk => by have := flow_at hlf.2 (show k < rs.length by omega); omega
              have F1 := Lib.hid f1
              have F2 := Lib.hid f2
              have HLF := Lib.hid hlf.1
              have HNK := Lib.hid hnk
              have HT := Lib.hid ht
              rw [loadsT ht] at hk1 hW ⊢
              rw [vacsT _ (by omega)] at hk2 hH ⊢
              have e1 := pairT_len (ldV n.pipes (lowF rs) zs) (ldV n.pipes (highF rs) zs) n.pipes.length
              have e2 := pairT_len (vacV n.pump n.pipes (highF rs) zs) (vacV n.pump n.pipes (lowF rs) zs) n.pipes.length
              rw [e1] at hk1 ⊢
              rw [e2] at hk2 ⊢
              have E1 := Lib.hid e1
              have E2 := Lib.hid e2
              clear e1 e2 f1 f2 hlf hnk ht
              go_wp2_with fail
              refine (refLoads_ n rs zs A B C c cb cz 0 w.heap.size 0 w.heap.size 0 w.heap.size _ hR (by omega) hF (by omega) hZ (by omega) (by omega) HT.out HLF.out F1.out F2.out (by omega)).mono ?_
              rintro e V10 ⟨⟨D1, d1, rfl, hD⟩, hb⟩
              have hsz := hb.size; replace hN := hN.below hb hN.lt; replace hR := hR.below hb (by first | exact Nat.le_refl _ | omega); replace hF := hF.below hb (by first | exact Nat.le_refl _ | omega); replace hZ := hZ.below hb (by first | exact Nat.le_refl _ | omega); replace hW := hW.below hb (by first | exact Nat.le_refl _ | omega); replace hH := hH.below hb (by first | exact Nat.le_refl _ | omega); replace hB := hB.trans (hb.mono (by first | exact hB.size | omega)); clear n0 nf0 n1 nf1; have n0 := hN.cell 0; have nf0 := hN.frozen 0; have n1 := hN.cell 1; have nf1 := hN.frozen 1; simp at n0 n1; replace nl := hN.lt; clear hb
              go_wp2_with fail
              refine (same_refl L1 D1 k1 d1 _ _ _ _ _ _ _ _ hW (by omega) hD (by omega) (by rw [E1.out]; omega) E1.out.symm E1.out.symm).mono ?_
              rintro e V11 ⟨rfl, hb⟩
              have hsz := hb.size; replace hN := hN.below hb hN.lt; replace hR := hR.below hb (by first | exact Nat.le_refl _ | omega); replace hF := hF.below hb (by first | exact Nat.le_refl _ | omega); replace hZ := hZ.below hb (by first | exact Nat.le_refl _ | omega); replace hH := hH.below hb (by first | exact Nat.le_refl _ | omega); replace hB := hB.trans (hb.mono (by first | exact hB.size | omega)); clear n0 nf0 n1 nf1; have n0 := hN.cell 0; have nf0 := hN.frozen 0; have n1 := hN.cell 1; have nf1 := hN.frozen 1; simp at n0 n1; replace nl := hN.lt; clear hb
              go_wp2_with fail
              refine (refVacuums_ n rs zs A B C c cb cz 0 w.heap.size 0 w.heap.size 0 w.heap.size _ hR (by omega) hF (by omega) hZ (by omega) (by omega) HT.out HLF.out F1.out F2.out (by omega) HNK.out.1 HNK.out.2).mono ?_
              rintro e V12 ⟨⟨D2, d2, rfl, hD2⟩, hb⟩
              have hsz := hb.size; replace hN := hN.below hb hN.lt; replace hH := hH.below hb (by first | exact Nat.le_refl _ | omega); replace hB := hB.trans (hb.mono (by first | exact hB.size | omega)); clear n0 nf0 n1 nf1; have n0 := hN.cell 0; have nf0 := hN.frozen 0; have n1 := hN.cell 1; have nf1 := hN.frozen 1; simp at n0 n1; replace nl := hN.lt; clear hb
              go_wp2_with fail
              refine (same_refl L2 D2 k2 d2 _ _ _ _ _ _ _ _ hH (by omega) hD2 (by omega) (by rw [E2.out]; omega) E2.out.symm E2.out.symm).mono ?_
              rintro e V13 ⟨rfl, hb⟩
              have hsz := hb.size; replace hN := hN.below hb hN.lt; replace hB := hB.trans (hb.mono (by first | exact hB.size | omega)); clear n0 nf0 n1 nf1; have n0 := hN.cell 0; have nf0 := hN.frozen 0; have n1 := hN.cell 1; have nf1 := hN.frozen 1; simp at n0 n1; replace nl := hN.lt; clear hb
              go_wp2_with fail
              refine (known_ _).mono ?_
              rintro e w2 ⟨rfl, hb2⟩
              go_wp2_with fail
              go_ret
              exact ⟨rfl, hB.trans (hb2.mono hB.size)⟩
            · have hL : LoadsV n rs zs = ([], chkF n.pipes.length rs zs) := by unfold LoadsV flowE; rw [hok]; exact if_neg hk
              have hV : VacuumV n rs zs = ([], chkF n.pipes.length rs zs) := by unfold VacuumV flowE; rw [hok]; exact if_neg hk
              simp only [hL, hV, List.length_nil] at hk1 hk2 hW hH ⊢
              clear hL hV
              generalize chkF n.pipes.length rs zs = q at *
              have hqb : (q != 0) = true := by simpa using hk
              clear hk
              go_wp2_with fail
              refine (known_ _).mono ?_
              rintro e w2 ⟨rfl, hb2⟩
              go_wp2_with fail
              go_ret
              exact ⟨rfl, hB.trans (hb2.mono hB.size)⟩
        · have hf1 : 60000000000 < fl := by omega
          clear hfn
          cases hok : netB n with
          | false =>
            have hL : LoadsV n rs zs = ([], 2) := by unfold LoadsV flowE; rw [hok]; rfl
            have hV : VacuumV n rs zs = ([], 2) := by unfold VacuumV flowE; rw [hok]; rfl
            simp only [hL, hV, List.length_nil] at hk1 hk2 hW hH ⊢
            clear hL hV
            go_wp2_with fail
            refine (refNet_ n A c _ 0 w.heap.size hR (by omega) hn).mono ?_
            rintro e V8 ⟨rfl, hb⟩
            rw [hok]
            have hsz := hb.size; replace hN := hN.below hb hN.lt; replace hR := hR.below hb (by first | exact Nat.le_refl _ | omega); replace hB := hB.trans (hb.mono (by first | exact hB.size | omega)); clear n0 nf0 n1 nf1; have n0 := hN.cell 0; have nf0 := hN.frozen 0; have n1 := hN.cell 1; have nf1 := hN.frozen 1; simp at n0 n1; replace nl := hN.lt; clear hb
            go_wp2_with fail
            refine (known_ _).mono ?_
            rintro e w2 ⟨rfl, hb2⟩
            go_wp2_with fail
            go_ret
            exact ⟨rfl, hB.trans (hb2.mono hB.size)⟩
          | true =>
            go_wp2_with fail
            refine (refNet_ n A c _ 0 w.heap.size hR (by omega) hn).mono ?_
            rintro e V8 ⟨rfl, hb⟩
            rw [hok]
            have hsz := hb.size; replace hN := hN.below hb hN.lt; replace hR := hR.below hb (by first | exact Nat.le_refl _ | omega); replace hF := hF.below hb (by first | exact Nat.le_refl _ | omega); replace hZ := hZ.below hb (by first | exact Nat.le_refl _ | omega); replace hW := hW.below hb (by first | exact Nat.le_refl _ | omega); replace hH := hH.below hb (by first | exact Nat.le_refl _ | omega); replace hB := hB.trans (hb.mono (by first | exact hB.size | omega)); clear n0 nf0 n1 nf1; have n0 := hN.cell 0; have nf0 := hN.frozen 0; have n1 := hN.cell 1; have nf1 := hN.frozen 1; simp at n0 n1; replace nl := hN.lt; clear hb
            have hln := netB_len hok
            have ht := netB_tree hok
            have hnk := netB_ok hok
            go_wp2_with fail
            refine (refFlows_ n rs zs A B C c cb cz 0 w.heap.size 0 w.heap.size _ hF (by omega) hZ (by omega) (by omega) (by omega) (by omega)).mono ?_
            rintro e V9 ⟨rfl, hb⟩
            have hsz := hb.size; replace hN := hN.below hb hN.lt; replace hR := hR.below hb (by first | exact Nat.le_refl _ | omega); replace hF := hF.below hb (by first | exact Nat.le_refl _ | omega); replace hZ := hZ.below hb (by first | exact Nat.le_refl _ | omega); replace hW := hW.below hb (by first | exact Nat.le_refl _ | omega); replace hH := hH.below hb (by first | exact Nat.le_refl _ | omega); replace hB := hB.trans (hb.mono (by first | exact hB.size | omega)); clear n0 nf0 n1 nf1; have n0 := hN.cell 0; have nf0 := hN.frozen 0; have n1 := hN.cell 1; have nf1 := hN.frozen 1; simp at n0 n1; replace nl := hN.lt; clear hb
            by_cases hk : chkF n.pipes.length rs zs = 0
            · have hlf := chkF_zero hk
              have hL : LoadsV n rs zs = (pairL (loadsL n.pipes (lowF rs) zs) (loadsL n.pipes (highF rs) zs), 0) := by unfold LoadsV flowE; rw [hok]; exact if_pos hk
              have hV : VacuumV n rs zs = (pairL (vacsL n.pump n.pipes (highF rs) zs) (vacsL n.pump n.pipes (lowF rs) zs), 0) := by unfold VacuumV flowE; rw [hok]; exact if_pos hk
              simp only [hL, hV] at hk1 hk2 hW hH ⊢
              rw [hk]
              clear hk hL hV
              have f1 : ∀ k, k < n.pipes.length → 0 ≤ lowF rs k ∧ lowF rs k ≤ 1000000000 := fun k hk => by have := flow_at hlf.2 (show k < rs.length by omega); omega
              have f2 : ∀ k, k < n.pipes.length → 0 ≤ highF rs k ∧ highF rs k ≤ 1000000000 := fun k hk => by have := flow_at hlf.2 (show k < rs.length by omega); omega
              have F1 := Lib.hid f1
              have F2 := Lib.hid f2
              have HLF := Lib.hid hlf.1
              have HNK := Lib.hid hnk
              have HT := Lib.hid ht
              rw [loadsT ht] at hk1 hW ⊢
              rw [vacsT _ (by omega)] at hk2 hH ⊢
              have e1 := pairT_len (ldV n.pipes (lowF rs) zs) (ldV n.pipes (highF rs) zs) n.pipes.length
              have e2 := pairT_len (vacV n.pump n.pipes (highF rs) zs) (vacV n.pump n.pipes (lowF rs) zs) n.pipes.length
              rw [e1] at hk1 ⊢
              rw [e2] at hk2 ⊢
              have E1 := Lib.hid e1
              have E2 := Lib.hid e2
              clear e1 e2 f1 f2 hlf hnk ht
              go_wp2_with fail
              refine (refLoads_ n rs zs A B C c cb cz 0 w.heap.size 0 w.heap.size 0 w.heap.size _ hR (by omega) hF (by omega) hZ (by omega) (by omega) HT.out HLF.out F1.out F2.out (by omega)).mono ?_
              rintro e V10 ⟨⟨D1, d1, rfl, hD⟩, hb⟩
              have hsz := hb.size; replace hN := hN.below hb hN.lt; replace hR := hR.below hb (by first | exact Nat.le_refl _ | omega); replace hF := hF.below hb (by first | exact Nat.le_refl _ | omega); replace hZ := hZ.below hb (by first | exact Nat.le_refl _ | omega); replace hW := hW.below hb (by first | exact Nat.le_refl _ | omega); replace hH := hH.below hb (by first | exact Nat.le_refl _ | omega); replace hB := hB.trans (hb.mono (by first | exact hB.size | omega)); clear n0 nf0 n1 nf1; have n0 := hN.cell 0; have nf0 := hN.frozen 0; have n1 := hN.cell 1; have nf1 := hN.frozen 1; simp at n0 n1; replace nl := hN.lt; clear hb
              go_wp2_with fail
              refine (same_refl L1 D1 k1 d1 _ _ _ _ _ _ _ _ hW (by omega) hD (by omega) (by rw [E1.out]; omega) E1.out.symm E1.out.symm).mono ?_
              rintro e V11 ⟨rfl, hb⟩
              have hsz := hb.size; replace hN := hN.below hb hN.lt; replace hR := hR.below hb (by first | exact Nat.le_refl _ | omega); replace hF := hF.below hb (by first | exact Nat.le_refl _ | omega); replace hZ := hZ.below hb (by first | exact Nat.le_refl _ | omega); replace hH := hH.below hb (by first | exact Nat.le_refl _ | omega); replace hB := hB.trans (hb.mono (by first | exact hB.size | omega)); clear n0 nf0 n1 nf1; have n0 := hN.cell 0; have nf0 := hN.frozen 0; have n1 := hN.cell 1; have nf1 := hN.frozen 1; simp at n0 n1; replace nl := hN.lt; clear hb
              go_wp2_with fail
              refine (refVacuums_ n rs zs A B C c cb cz 0 w.heap.size 0 w.heap.size 0 w.heap.size _ hR (by omega) hF (by omega) hZ (by omega) (by omega) HT.out HLF.out F1.out F2.out (by omega) HNK.out.1 HNK.out.2).mono ?_
              rintro e V12 ⟨⟨D2, d2, rfl, hD2⟩, hb⟩
              have hsz := hb.size; replace hN := hN.below hb hN.lt; replace hH := hH.below hb (by first | exact Nat.le_refl _ | omega); replace hB := hB.trans (hb.mono (by first | exact hB.size | omega)); clear n0 nf0 n1 nf1; have n0 := hN.cell 0; have nf0 := hN.frozen 0; have n1 := hN.cell 1; have nf1 := hN.frozen 1; simp at n0 n1; replace nl := hN.lt; clear hb
              go_wp2_with fail
              refine (same_refl L2 D2 k2 d2 _ _ _ _ _ _ _ _ hH (by omega) hD2 (by omega) (by rw [E2.out]; omega) E2.out.symm E2.out.symm).mono ?_
              rintro e V13 ⟨rfl, hb⟩
              have hsz := hb.size; replace hN := hN.below hb hN.lt; replace hB := hB.trans (hb.mono (by first | exact hB.size | omega)); clear n0 nf0 n1 nf1; have n0 := hN.cell 0; have nf0 := hN.frozen 0; have n1 := hN.cell 1; have nf1 := hN.frozen 1; simp at n0 n1; replace nl := hN.lt; clear hb
              go_wp2_with fail
              refine (known_ _).mono ?_
              rintro e w2 ⟨rfl, hb2⟩
              go_wp2_with fail
              go_ret
              exact ⟨rfl, hB.trans (hb2.mono hB.size)⟩
            · have hL : LoadsV n rs zs = ([], chkF n.pipes.length rs zs) := by unfold LoadsV flowE; rw [hok]; exact if_neg hk
              have hV : VacuumV n rs zs = ([], chkF n.pipes.length rs zs) := by unfold VacuumV flowE; rw [hok]; exact if_neg hk
              simp only [hL, hV, List.length_nil] at hk1 hk2 hW hH ⊢
              clear hL hV
              generalize chkF n.pipes.length rs zs = q at *
              have hqb : (q != 0) = true := by simpa using hk
              clear hk
              go_wp2_with fail
              refine (known_ _).mono ?_
              rintro e w2 ⟨rfl, hb2⟩
              go_wp2_with fail
              go_ret
              exact ⟨rfl, hB.trans (hb2.mono hB.size)⟩
      | true =>
        simp only [hp, hf, if_true] at HZ
        obtain ⟨rfl, rfl⟩ := HZ
        have hft := inB_true hf
        have hf0 : ¬ fl < 0 := by omega
        have hf1 : ¬ 60000000000 < fl := by omega
        have HFT := Lib.hid hft
        clear hp hf hft
        go_wp2_with fail
        refine (refLoss_ p fl _ (pipeB_ok HP.out) HFT.out.1 HFT.out.2).mono ?_
        rintro e U5 ⟨rfl, hb⟩
        have hsz := hb.size; replace hN := hN.below hb hN.lt; replace hX := hX.below hb hX.lt; replace hP := hP.below hb hP.lt; replace hR := hR.below hb (by first | exact Nat.le_refl _ | omega); replace hF := hF.below hb (by first | exact Nat.le_refl _ | omega); replace hZ := hZ.below hb (by first | exact Nat.le_refl _ | omega); replace hW := hW.below hb (by first | exact Nat.le_refl _ | omega); replace hH := hH.below hb (by first | exact Nat.le_refl _ | omega); replace hB := hB.trans (hb.mono (by first | exact hB.size | omega)); clear n0 nf0 n1 nf1; have n0 := hN.cell 0; have nf0 := hN.frozen 0; have n1 := hN.cell 1; have nf1 := hN.frozen 1; simp at n0 n1; replace nl := hN.lt; clear x0 xf0 x1 xf1 x2 xf2 x3 xf3 x4 xf4 x5 xf5 x6 xf6; have x0 := hX.cell 0; have xf0 := hX.frozen 0; have x1 := hX.cell 1; have xf1 := hX.frozen 1; have x2 := hX.cell 2; have xf2 := hX.frozen 2; have x3 := hX.cell 3; have xf3 := hX.frozen 3; have x4 := hX.cell 4; have xf4 := hX.frozen 4; have x5 := hX.cell 5; have xf5 := hX.frozen 5; have x6 := hX.cell 6; have xf6 := hX.frozen 6; simp at x0 x1 x2 x3 x4 x5 x6; replace xl := hX.lt; clear t0 tf0 t1 tf1 t2 tf2 t3 tf3 t4 tf4; have t0 := hP.cell 0; have tf0 := hP.frozen 0; have t1 := hP.cell 1; have tf1 := hP.frozen 1; have t2 := hP.cell 2; have tf2 := hP.frozen 2; have t3 := hP.cell 3; have tf3 := hP.frozen 3; have t4 := hP.cell 4; have tf4 := hP.frozen 4; simp at t0 t1 t2 t3 t4; replace tl := hP.lt; clear hb
        cases hok : netB n with
        | false =>
          have hL : LoadsV n rs zs = ([], 2) := by unfold LoadsV flowE; rw [hok]; rfl
          have hV : VacuumV n rs zs = ([], 2) := by unfold VacuumV flowE; rw [hok]; rfl
          simp only [hL, hV, List.length_nil] at hk1 hk2 hW hH ⊢
          clear hL hV
          go_wp2_with fail
          refine (refNet_ n A c _ 0 w.heap.size hR (by omega) hn).mono ?_
          rintro e V8 ⟨rfl, hb⟩
          rw [hok]
          have hsz := hb.size; replace hN := hN.below hb hN.lt; replace hR := hR.below hb (by first | exact Nat.le_refl _ | omega); replace hB := hB.trans (hb.mono (by first | exact hB.size | omega)); clear n0 nf0 n1 nf1; have n0 := hN.cell 0; have nf0 := hN.frozen 0; have n1 := hN.cell 1; have nf1 := hN.frozen 1; simp at n0 n1; replace nl := hN.lt; clear hb
          go_wp2_with fail
          refine (known_ _).mono ?_
          rintro e w2 ⟨rfl, hb2⟩
          go_wp2_with fail
          go_ret
          exact ⟨rfl, hB.trans (hb2.mono hB.size)⟩
        | true =>
          go_wp2_with fail
          refine (refNet_ n A c _ 0 w.heap.size hR (by omega) hn).mono ?_
          rintro e V8 ⟨rfl, hb⟩
          rw [hok]
          have hsz := hb.size; replace hN := hN.below hb hN.lt; replace hR := hR.below hb (by first | exact Nat.le_refl _ | omega); replace hF := hF.below hb (by first | exact Nat.le_refl _ | omega); replace hZ := hZ.below hb (by first | exact Nat.le_refl _ | omega); replace hW := hW.below hb (by first | exact Nat.le_refl _ | omega); replace hH := hH.below hb (by first | exact Nat.le_refl _ | omega); replace hB := hB.trans (hb.mono (by first | exact hB.size | omega)); clear n0 nf0 n1 nf1; have n0 := hN.cell 0; have nf0 := hN.frozen 0; have n1 := hN.cell 1; have nf1 := hN.frozen 1; simp at n0 n1; replace nl := hN.lt; clear hb
          have hln := netB_len hok
          have ht := netB_tree hok
          have hnk := netB_ok hok
          go_wp2_with fail
          refine (refFlows_ n rs zs A B C c cb cz 0 w.heap.size 0 w.heap.size _ hF (by omega) hZ (by omega) (by omega) (by omega) (by omega)).mono ?_
          rintro e V9 ⟨rfl, hb⟩
          have hsz := hb.size; replace hN := hN.below hb hN.lt; replace hR := hR.below hb (by first | exact Nat.le_refl _ | omega); replace hF := hF.below hb (by first | exact Nat.le_refl _ | omega); replace hZ := hZ.below hb (by first | exact Nat.le_refl _ | omega); replace hW := hW.below hb (by first | exact Nat.le_refl _ | omega); replace hH := hH.below hb (by first | exact Nat.le_refl _ | omega); replace hB := hB.trans (hb.mono (by first | exact hB.size | omega)); clear n0 nf0 n1 nf1; have n0 := hN.cell 0; have nf0 := hN.frozen 0; have n1 := hN.cell 1; have nf1 := hN.frozen 1; simp at n0 n1; replace nl := hN.lt; clear hb
          by_cases hk : chkF n.pipes.length rs zs = 0
          · have hlf := chkF_zero hk
            have hL : LoadsV n rs zs = (pairL (loadsL n.pipes (lowF rs) zs) (loadsL n.pipes (highF rs) zs), 0) := by unfold LoadsV flowE; rw [hok]; exact if_pos hk
            have hV : VacuumV n rs zs = (pairL (vacsL n.pump n.pipes (highF rs) zs) (vacsL n.pump n.pipes (lowF rs) zs), 0) := by unfold VacuumV flowE; rw [hok]; exact if_pos hk
            simp only [hL, hV] at hk1 hk2 hW hH ⊢
            rw [hk]
            clear hk hL hV
            have f1 : ∀ k, k < n.pipes.length → 0 ≤ lowF rs k ∧ lowF rs k ≤ 1000000000 := fun k hk => by have := flow_at hlf.2 (show k < rs.length by omega); omega
            have f2 : ∀ k, k < n.pipes.length → 0 ≤ highF rs k ∧ highF rs k ≤ 1000000000 := fun k hk => by have := flow_at hlf.2 (show k < rs.length by omega); omega
            have F1 := Lib.hid f1
            have F2 := Lib.hid f2
            have HLF := Lib.hid hlf.1
            have HNK := Lib.hid hnk
            have HT := Lib.hid ht
            rw [loadsT ht] at hk1 hW ⊢
            rw [vacsT _ (by omega)] at hk2 hH ⊢
            have e1 := pairT_len (ldV n.pipes (lowF rs) zs) (ldV n.pipes (highF rs) zs) n.pipes.length
            have e2 := pairT_len (vacV n.pump n.pipes (highF rs) zs) (vacV n.pump n.pipes (lowF rs) zs) n.pipes.length
            rw [e1] at hk1 ⊢
            rw [e2] at hk2 ⊢
            have E1 := Lib.hid e1
            have E2 := Lib.hid e2
            clear e1 e2 f1 f2 hlf hnk ht
            go_wp2_with fail
            refine (refLoads_ n rs zs A B C c cb cz 0 w.heap.size 0 w.heap.size 0 w.heap.size _ hR (by omega) hF (by omega) hZ (by omega) (by omega) HT.out HLF.out F1.out F2.out (by omega)).mono ?_
            rintro e V10 ⟨⟨D1, d1, rfl, hD⟩, hb⟩
            have hsz := hb.size; replace hN := hN.below hb hN.lt; replace hR := hR.below hb (by first | exact Nat.le_refl _ | omega); replace hF := hF.below hb (by first | exact Nat.le_refl _ | omega); replace hZ := hZ.below hb (by first | exact Nat.le_refl _ | omega); replace hW := hW.below hb (by first | exact Nat.le_refl _ | omega); replace hH := hH.below hb (by first | exact Nat.le_refl _ | omega); replace hB := hB.trans (hb.mono (by first | exact hB.size | omega)); clear n0 nf0 n1 nf1; have n0 := hN.cell 0; have nf0 := hN.frozen 0; have n1 := hN.cell 1; have nf1 := hN.frozen 1; simp at n0 n1; replace nl := hN.lt; clear hb
            go_wp2_with fail
            refine (same_refl L1 D1 k1 d1 _ _ _ _ _ _ _ _ hW (by omega) hD (by omega) (by rw [E1.out]; omega) E1.out.symm E1.out.symm).mono ?_
            rintro e V11 ⟨rfl, hb⟩
            have hsz := hb.size; replace hN := hN.below hb hN.lt; replace hR := hR.below hb (by first | exact Nat.le_refl _ | omega); replace hF := hF.below hb (by first | exact Nat.le_refl _ | omega); replace hZ := hZ.below hb (by first | exact Nat.le_refl _ | omega); replace hH := hH.below hb (by first | exact Nat.le_refl _ | omega); replace hB := hB.trans (hb.mono (by first | exact hB.size | omega)); clear n0 nf0 n1 nf1; have n0 := hN.cell 0; have nf0 := hN.frozen 0; have n1 := hN.cell 1; have nf1 := hN.frozen 1; simp at n0 n1; replace nl := hN.lt; clear hb
            go_wp2_with fail
            refine (refVacuums_ n rs zs A B C c cb cz 0 w.heap.size 0 w.heap.size 0 w.heap.size _ hR (by omega) hF (by omega) hZ (by omega) (by omega) HT.out HLF.out F1.out F2.out (by omega) HNK.out.1 HNK.out.2).mono ?_
            rintro e V12 ⟨⟨D2, d2, rfl, hD2⟩, hb⟩
            have hsz := hb.size; replace hN := hN.below hb hN.lt; replace hH := hH.below hb (by first | exact Nat.le_refl _ | omega); replace hB := hB.trans (hb.mono (by first | exact hB.size | omega)); clear n0 nf0 n1 nf1; have n0 := hN.cell 0; have nf0 := hN.frozen 0; have n1 := hN.cell 1; have nf1 := hN.frozen 1; simp at n0 n1; replace nl := hN.lt; clear hb
            go_wp2_with fail
            refine (same_refl L2 D2 k2 d2 _ _ _ _ _ _ _ _ hH (by omega) hD2 (by omega) (by rw [E2.out]; omega) E2.out.symm E2.out.symm).mono ?_
            rintro e V13 ⟨rfl, hb⟩
            have hsz := hb.size; replace hN := hN.below hb hN.lt; replace hB := hB.trans (hb.mono (by first | exact hB.size | omega)); clear n0 nf0 n1 nf1; have n0 := hN.cell 0; have nf0 := hN.frozen 0; have n1 := hN.cell 1; have nf1 := hN.frozen 1; simp at n0 n1; replace nl := hN.lt; clear hb
            go_wp2_with fail
            refine (known_ _).mono ?_
            rintro e w2 ⟨rfl, hb2⟩
            go_wp2_with fail
            go_ret
            exact ⟨rfl, hB.trans (hb2.mono hB.size)⟩
          · have hL : LoadsV n rs zs = ([], chkF n.pipes.length rs zs) := by unfold LoadsV flowE; rw [hok]; exact if_neg hk
            have hV : VacuumV n rs zs = ([], chkF n.pipes.length rs zs) := by unfold VacuumV flowE; rw [hok]; exact if_neg hk
            simp only [hL, hV, List.length_nil] at hk1 hk2 hW hH ⊢
            clear hL hV
            generalize chkF n.pipes.length rs zs = q at *
            have hqb : (q != 0) = true := by simpa using hk
            clear hk
            go_wp2_with fail
            refine (known_ _).mono ?_
            rintro e w2 ⟨rfl, hb2⟩
            go_wp2_with fail
            go_ret
            exact ⟨rfl, hB.trans (hb2.mono hB.size)⟩
end Go.Proofs.Ytepibjfmeibgcaa
