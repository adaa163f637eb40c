/- What the reference's in, Pipe and Net return. -/
import Derived.Test.YtepibjfmeibgcaaKn
namespace Go.Proofs.Ytepibjfmeibgcaa
open Go.RowKit
set_option maxHeartbeats 800000 in
set_option maxRecDepth 100000 in
theorem refIn_ (n a b : Int) (w : World) : Calls Try.prog 74 #[.int .i64 n, .int .i64 a, .int .i64 b] w fun e w' => e = .returned (.bool (inB a b n)) ∧ w = w' := by
  by_cases h1 : a ≤ n
  · by_cases h2 : n ≤ b
    · have hb := Lib.hid (inB_mk (lo := a) (hi := b) (n := n) ⟨h1, h2⟩)
      go_enter Try.func74, Try.ntmps74
      go_wp2
      go_ret
      exact ⟨ret_bool (by rw [hb.out]), rfl⟩
    · have hb := Lib.hid (show inB a b n = false by simp [inB]; omega)
      go_enter Try.func74, Try.ntmps74
      go_wp2
      go_ret
      exact ⟨ret_bool (by rw [hb.out]), rfl⟩
  · have hb := Lib.hid (show inB a b n = false by simp [inB]; omega)
    go_enter Try.func74, Try.ntmps74
    go_wp2
    go_ret
    exact ⟨ret_bool (by rw [hb.out]), rfl⟩
set_option maxHeartbeats 1000000 in
set_option maxRecDepth 100000 in
theorem refPipe_ (p : Pipe) (k : Int) (w : World) (hk0 : 0 ≤ k) (hk : k ≤ 1000) :
    Calls Try.prog 38 #[.agg #[.int .i64 p.parent, .int .i64 p.length, .int .i64 p.bore, .int .i64 p.drop, .int .i64 p.taps], .int .i64 k] w fun e w' => e = .returned (.bool (pipeB p (k - 1))) ∧ Below w.heap.size w w' := by
  by_cases h1 : inB 0 (k - 1) p.parent = true
  rotate_left
  · have h1 : inB 0 (k - 1) p.parent = false := by simpa using h1
    go_enter Try.func38, Try.ntmps38
    go_wp2_with (go_at_call 74; refine (refIn_ _ _ _ _).mono ?_; rintro e w' ⟨rfl, rfl⟩)
    go_ret
    exact ⟨ret_bool (by simp [pipeB, *]), (by repeat (first | exact Below.refl _ _ | exact (Below.refl _ _) | assumption | (refine Below.setCell ?_ (by first | omega | (simp; done) | (simp; omega) | (simp [World.setCell]; done) | (simp [World.setCell]; omega)) _) | (refine Below.alloc ?_ (by first | omega | (simp; done) | (simp; omega) | (simp [World.setCell]; done) | (simp [World.setCell]; omega)) _) | (refine Below.drewN_ ?_ _) | (refine Below.drew ?_)))⟩
  by_cases h2 : inB 1 100000 p.length = true
  rotate_left
  · have h2 : inB 1 100000 p.length = false := by simpa using h2
    go_enter Try.func38, Try.ntmps38
    go_wp2_with (go_at_call 74; refine (refIn_ _ _ _ _).mono ?_; rintro e w' ⟨rfl, rfl⟩)
    go_ret
    exact ⟨ret_bool (by simp [pipeB, *]), (by repeat (first | exact Below.refl _ _ | exact (Below.refl _ _) | assumption | (refine Below.setCell ?_ (by first | omega | (simp; done) | (simp; omega) | (simp [World.setCell]; done) | (simp [World.setCell]; omega)) _) | (refine Below.alloc ?_ (by first | omega | (simp; done) | (simp; omega) | (simp [World.setCell]; done) | (simp [World.setCell]; omega)) _) | (refine Below.drewN_ ?_ _) | (refine Below.drew ?_)))⟩
  by_cases h3 : inB 4 80 p.bore = true
  rotate_left
  · have h3 : inB 4 80 p.bore = false := by simpa using h3
    go_enter Try.func38, Try.ntmps38
    go_wp2_with (go_at_call 74; refine (refIn_ _ _ _ _).mono ?_; rintro e w' ⟨rfl, rfl⟩)
    go_ret
    exact ⟨ret_bool (by simp [pipeB, *]), (by repeat (first | exact Below.refl _ _ | exact (Below.refl _ _) | assumption | (refine Below.setCell ?_ (by first | omega | (simp; done) | (simp; omega) | (simp [World.setCell]; done) | (simp [World.setCell]; omega)) _) | (refine Below.alloc ?_ (by first | omega | (simp; done) | (simp; omega) | (simp [World.setCell]; done) | (simp [World.setCell]; omega)) _) | (refine Below.drewN_ ?_ _) | (refine Below.drew ?_)))⟩
  by_cases h4 : inB (-10000) 10000 p.drop = true
  rotate_left
  · have h4 : inB (-10000) 10000 p.drop = false := by simpa using h4
    go_enter Try.func38, Try.ntmps38
    go_wp2_with (go_at_call 74; refine (refIn_ _ _ _ _).mono ?_; rintro e w' ⟨rfl, rfl⟩)
    go_ret
    exact ⟨ret_bool (by simp [pipeB, *]), (by repeat (first | exact Below.refl _ _ | exact (Below.refl _ _) | assumption | (refine Below.setCell ?_ (by first | omega | (simp; done) | (simp; omega) | (simp [World.setCell]; done) | (simp [World.setCell]; omega)) _) | (refine Below.alloc ?_ (by first | omega | (simp; done) | (simp; omega) | (simp [World.setCell]; done) | (simp [World.setCell]; omega)) _) | (refine Below.drewN_ ?_ _) | (refine Below.drew ?_)))⟩
  by_cases h5 : inB 0 1000 p.taps = true
  rotate_left
  · have h5 : inB 0 1000 p.taps = false := by simpa using h5
    go_enter Try.func38, Try.ntmps38
    go_wp2_with (go_at_call 74; refine (refIn_ _ _ _ _).mono ?_; rintro e w' ⟨rfl, rfl⟩)
    go_ret
    exact ⟨ret_bool (by simp [pipeB, *]), (by repeat (first | exact Below.refl _ _ | exact (Below.refl _ _) | assumption | (refine Below.setCell ?_ (by first | omega | (simp; done) | (simp; omega) | (simp [World.setCell]; done) | (simp [World.setCell]; omega)) _) | (refine Below.alloc ?_ (by first | omega | (simp; done) | (simp; omega) | (simp [World.setCell]; done) | (simp [World.setCell]; omega)) _) | (refine Below.drewN_ ?_ _) | (refine Below.drew ?_)))⟩
  go_enter Try.func38, Try.ntmps38
  go_wp2_with (go_at_call 74; refine (refIn_ _ _ _ _).mono ?_; rintro e w' ⟨rfl, rfl⟩)
  go_ret
  exact ⟨ret_bool (by simp [pipeB, *]), (by repeat (first | exact Below.refl _ _ | exact (Below.refl _ _) | assumption | (refine Below.setCell ?_ (by first | omega | (simp; done) | (simp; omega) | (simp [World.setCell]; done) | (simp [World.setCell]; omega)) _) | (refine Below.alloc ?_ (by first | omega | (simp; done) | (simp; omega) | (simp [World.setCell]; done) | (simp [World.setCell]; omega)) _) | (refine Below.drewN_ ?_ _) | (refine Below.drew ?_)))⟩
theorem netB_short {n : Net} (h : inB 1 60 n.pipes.length = false) : netB n = false := by unfold netB; simp [h]
theorem netB_pump {n : Net} (h : inB 0 10000 n.pump = false) : netB n = false := by unfold netB; simp [h]
theorem netB_first {pump : Int} {p : Pipe} {ps : List Pipe} (h : p ≠ pump0) : netB ⟨pump, p :: ps⟩ = false := by unfold netB; simp [h]
theorem netB_rest {pump : Int} {ps : List Pipe} (h1 : inB 1 60 (pump0 :: ps).length = true) (h2 : inB 0 10000 pump = true) : netB ⟨pump, pump0 :: ps⟩ = pipesB ps 0 := by unfold netB; simp only [h1, h2]; simp
set_option maxHeartbeats 2000000 in
set_option maxRecDepth 100000 in
theorem refNet_rest (pump : Int) (ps : List Pipe) (A : Option Addr) (c : Nat) (w : World) (lo hi : Nat) (hR : RdP w lo hi A (pump0 :: ps)) (hhi : hi ≤ w.heap.size) (h1 : inB 1 60 (pump0 :: ps).length = true) (h2 : inB 0 10000 pump = true) :
    Calls Try.prog 32 #[.agg #[.int .i64 pump, .slice A (pump0 :: ps).length c]] w fun e w' => e = .returned (.bool (netB ⟨pump, pump0 :: ps⟩)) ∧ Below w.heap.size w w' := by
  have HC := Lib.hid (netB_rest h1 h2)
  have hl := inB_true h1
  obtain ⟨b, off, rfl, hb1, hb2, c0, c1, c2, c3, c4⟩ := RdP.at_ (k := 0) hR (by simp)
  simp only [List.getElem_cons_zero, Nat.zero_mul, Nat.add_zero, pump0] at c0 c1 c2 c3 c4
  have hL1 : (pump0 :: ps).length = ps.length + 1 := by simp
  rw [hL1] at h1 hl ⊢
  clear hL1
  have hL0 : (0 : Int) < ((ps.length + 1 : Nat) : Int) := by omega
  have hbw : b < w.heap.size := by omega
  obtain ⟨l0, l1, l2, l3, l4, l5⟩ := lt6 (show b < w.heap.size by omega)
  have hne := neq_pipe pump0 pump0
  rw [show (!decide (pump0 = pump0)) = false by simp] at hne
  simp only [aggP, pump0] at hne
  go_enter Try.func32, Try.ntmps32
  go_wp2_with (go_at_call 74; refine (refIn_ _ _ _ _).mono ?_; rintro e w' ⟨rfl, rfl⟩)
  go_loopw [3] (fun i wr => ∃ k : Nat, k ≤ ps.length ∧ i = .int .i64 ((k + 1 : Nat) : Int) ∧ pipesB (ps.take k) 0 = true ∧ Blk wr w.heap.size 24 #[.int .i64 pump, .slice (some ⟨b, off, none⟩) (ps.length + 1) c] ∧ Below w.heap.size w wr) (fun i _ => ps.length + 1 - (intOf i).toNat)
  case atStart => exact ⟨0, by omega, rfl, rfl, Blk.new _ _ _, (by repeat (first | exact Below.refl _ _ | exact (Below.refl _ _) | assumption | (refine Below.setCell ?_ (by first | omega | (simp; done) | (simp; omega) | (simp [World.setCell]; done) | (simp [World.setCell]; omega)) _) | (refine Below.alloc ?_ (by first | omega | (simp; done) | (simp; omega) | (simp [World.setCell]; done) | (simp [World.setCell]; omega)) _) | (refine Below.drewN_ ?_ _) | (refine Below.drew ?_)))⟩
  case round =>
    obtain ⟨k, hk, rfl, hall, hN, hB⟩ := hrel
    have HALL := Lib.hid hall
    clear hall l0 l1 l2 l3 l4 l5 c0 c1 c2 c3 c4 hne
    have hz := hB.size
    have n0 := hN.cell 0; have nf0 := hN.frozen 0; have n1 := hN.cell 1; have nf1 := hN.frozen 1; simp at n0 n1
    by_cases hlt : k < ps.length
    · obtain ⟨b', off', hbe, hb1', hb2', c0, c1, c2, c3, c4⟩ := RdP.at_ (hR.below hB hhi) (show k + 1 < (pump0 :: ps).length by simp; omega)
      cases hbe
      simp only [List.getElem_cons_succ] at c0 c1 c2 c3 c4
      have hs := Lib.hid (pipesB_snoc ps k hlt)
      have hi3 : ((k + 1 : Nat) : Int) < ((ps.length + 1 : Nat) : Int) := by omega
      have hsub : (k : Int) + 1 - 1 = (k : Int) := by omega
      have HSUB := Lib.hid hsub
      clear hsub
      by_cases hx : pipeB ps[k] k = true
      · have hx' := Lib.hid hx
        clear hx
        go_wp2_with (go_at_call 38; refine (refPipe_ ps[k] _ _ (by omega) (by omega)).mono ?_; rintro e w1 ⟨rfl, hb⟩; rw [HSUB.out, hx'.out])
        exact ⟨⟨k + 1, by omega, by go_num, by rw [hs.out, HALL.out, hx'.out]; rfl, hN.below hb hN.lt, hB.trans (hb.mono hz)⟩, by simp [intOf]; omega⟩
      · have hx : pipeB ps[k] k = false := by simpa using hx
        have hf := Lib.hid (pipesB_false ps k hlt hx)
        have hx' := Lib.hid hx
        clear hx
        go_wp2_with (go_at_call 38; refine (refPipe_ ps[k] _ _ (by omega) (by omega)).mono ?_; rintro e w1 ⟨rfl, hb⟩; rw [HSUB.out, hx'.out])
        go_ret
        exact ⟨ret_bool (by rw [HC.out, hf.out]), hB.trans (hb.mono hz)⟩
    · obtain rfl : k = ps.length := by omega
      go_wp2
      go_ret
      have := HALL.out
      rw [List.take_length] at this
      exact ⟨ret_bool (by rw [HC.out, this]), hB⟩
set_option maxHeartbeats 800000 in
set_option maxRecDepth 100000 in
theorem refNet_ (n : Net) (A : Option Addr) (c : Nat) (w : World) (lo hi : Nat) (hR : RdP w lo hi A n.pipes) (hhi : hi ≤ w.heap.size) (hn : n.pipes.length ≤ maxLen) :
    Calls Try.prog 32 #[.agg #[.int .i64 n.pump, .slice A n.pipes.length c]] w fun e w' => e = .returned (.bool (netB n)) ∧ Below w.heap.size w w' := by
  unfold maxLen at hn
  by_cases h1 : inB 1 60 n.pipes.length = true
  · by_cases h2 : inB 0 10000 n.pump = true
    · obtain ⟨pump, pipes⟩ := n
      match pipes with
      | [] => simp [inB] at h1
      | p :: ps =>
        by_cases h3 : p = pump0
        · subst h3
          exact refNet_rest pump ps A c w lo hi hR hhi h1 h2
        · have HC := Lib.hid (netB_first (pump := pump) (ps := ps) h3)
          obtain ⟨b, off, rfl, hb1, hb2, c0, c1, c2, c3, c4⟩ := RdP.at_ (k := 0) hR (by simp)
          simp only [List.getElem_cons_zero, Nat.zero_mul, Nat.add_zero] at c0 c1 c2 c3 c4
          have hne := neq_pipe p pump0
          rw [show (!decide (p = pump0)) = true by simp [h3]] at hne
          simp only [aggP, pump0] at hne
          have hL0 : (0 : Int) < (((p :: ps).length : Nat) : Int) := by simp
          simp only at h1 h2 hn
          generalize (p :: ps).length = L at *
          obtain ⟨l0, l1, l2, l3, l4, l5⟩ := lt6 (show b < w.heap.size by omega)
          clear h3
          go_enter Try.func32, Try.ntmps32
          go_wp2_with (go_at_call 74; refine (refIn_ _ _ _ _).mono ?_; rintro e w' ⟨rfl, rfl⟩)
          go_ret
          exact ⟨ret_bool (by rw [HC.out]), (by repeat (first | exact Below.refl _ _ | exact (Below.refl _ _) | assumption | (refine Below.setCell ?_ (by first | omega | (simp; done) | (simp; omega) | (simp [World.setCell]; done) | (simp [World.setCell]; omega)) _) | (refine Below.alloc ?_ (by first | omega | (simp; done) | (simp; omega) | (simp [World.setCell]; done) | (simp [World.setCell]; omega)) _) | (refine Below.drewN_ ?_ _) | (refine Below.drew ?_)))⟩
    · have h2 : inB 0 10000 n.pump = false := by simpa using h2
      have HC := Lib.hid (netB_pump h2)
      go_enter Try.func32, Try.ntmps32
      go_wp2_with (go_at_call 74; refine (refIn_ _ _ _ _).mono ?_; rintro e w' ⟨rfl, rfl⟩)
      go_ret
      exact ⟨ret_bool (by rw [HC.out]), (by repeat (first | exact Below.refl _ _ | exact (Below.refl _ _) | assumption | (refine Below.setCell ?_ (by first | omega | (simp; done) | (simp; omega) | (simp [World.setCell]; done) | (simp [World.setCell]; omega)) _) | (refine Below.alloc ?_ (by first | omega | (simp; done) | (simp; omega) | (simp [World.setCell]; done) | (simp [World.setCell]; omega)) _) | (refine Below.drewN_ ?_ _) | (refine Below.drew ?_)))⟩
  · have h1 : inB 1 60 n.pipes.length = false := by simpa using h1
    have HC := Lib.hid (netB_short h1)
    go_enter Try.func32, Try.ntmps32
    go_wp2_with (go_at_call 74; refine (refIn_ _ _ _ _).mono ?_; rintro e w' ⟨rfl, rfl⟩)
    go_ret
    exact ⟨ret_bool (by rw [HC.out]), (by repeat (first | exact Below.refl _ _ | exact (Below.refl _ _) | assumption | (refine Below.setCell ?_ (by first | omega | (simp; done) | (simp; omega) | (simp [World.setCell]; done) | (simp [World.setCell]; omega)) _) | (refine Below.alloc ?_ (by first | omega | (simp; done) | (simp; omega) | (simp [World.setCell]; done) | (simp [World.setCell]; omega)) _) | (refine Below.drewN_ ?_ _) | (refine Below.drew ?_)))⟩
end Go.Proofs.Ytepibjfmeibgcaa
