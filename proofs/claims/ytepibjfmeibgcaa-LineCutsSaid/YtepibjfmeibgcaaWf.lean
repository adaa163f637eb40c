/- What line.Way and line.Between return, for any tubing that can be read. -/
import Derived.Test.YtepibjfmeibgcaaWe
namespace Go.Proofs.Ytepibjfmeibgcaa
open Go.RowKit Go.Shelf
theorem Only.toBelow {S : Nat → Prop} {B : Nat} {a W W' : World} (h : Below B a W) (ho : Only S W W') (hB : B ≤ W.heap.size) (hs : ∀ k, S k → B ≤ k) : Below B a W' := h.trans (ho.below hB hs)

set_option maxHeartbeats 800000 in
set_option maxRecDepth 100000 in
theorem Way_arg (n : Net) (node : Int) (A : Option Addr) (c : Nat) (w : World) (lo hi : Nat) (hR : RdP w lo hi A n.pipes) (hhi : hi ≤ w.heap.size) (hc : n.pipes.length ≤ c) (hn : n.pipes.length ≤ maxLen) (hbad : netB n = false) :
    Calls Try.prog 25 #[.agg #[.int .i64 n.pump, .slice A n.pipes.length c], .int .i64 node] w fun e w' => RetI w.heap.size e w' [] 2 ∧ Below w.heap.size w w' := by
  go_enter Try.func25, Try.ntmps25
  go_wp2_with (go_at_call 69; refine (open_arg n A _ c _ [node] _ lo hi ((hR.alloc hhi _).alloc (by simp; omega) _) (by simp; omega) hc hn hbad).mono ?_; rintro e w1 ⟨rfl, hb⟩; obtain ⟨hc1, hf1, hz1⟩ := bcell hb; have hB1 := Below.step (B := w.heap.size) (a := w) (by repeat (first | exact Below.refl _ _ | exact (Below.refl _ _) | assumption | (refine Below.setCell ?_ (by first | omega | (simp; done) | (simp; omega) | (simp [World.setCell]; done) | (simp [World.setCell]; omega)) _) | (refine Below.alloc ?_ (by first | omega | (simp; done) | (simp; omega) | (simp [World.setCell]; done) | (simp [World.setCell]; omega)) _) | (refine Below.drewN_ ?_ _) | (refine Below.drew ?_))) hb (by first | omega | (simp; done) | (simp; omega) | (simp [World.setCell]; done) | (simp [World.setCell]; omega)); simp only [World.size_alloc] at hc1 hf1 hz1)
  go_ret2
  exact ⟨RetI.mk rfl rfl (Nat.le_refl _) Rd.nil, (by repeat (first | exact Below.refl _ _ | exact (Below.refl _ _) | assumption | (refine Below.setCell ?_ (by first | omega | (simp; done) | (simp; omega) | (simp [World.setCell]; done) | (simp [World.setCell]; omega)) _) | (refine Below.alloc ?_ (by first | omega | (simp; done) | (simp; omega) | (simp [World.setCell]; done) | (simp [World.setCell]; omega)) _) | (refine Below.drewN_ ?_ _) | (refine Below.drew ?_)))⟩
set_option maxHeartbeats 800000 in
set_option maxRecDepth 100000 in
theorem Way_none (n : Net) (node : Int) (A : Option Addr) (c : Nat) (w : World) (lo hi : Nat) (hR : RdP w lo hi A n.pipes) (hhi : hi ≤ w.heap.size) (hc : n.pipes.length ≤ c) (hok : netB n = true) (hin : inB 0 (n.pipes.length - 1) node = false) :
    Calls Try.prog 25 #[.agg #[.int .i64 n.pump, .slice A n.pipes.length c], .int .i64 node] w fun e w' => RetI w.heap.size e w' [] 7 ∧ Below w.heap.size w w' := by
  have hin' : inAll 0 (n.pipes.length - 1) [node] = false := by rw [inAll_one]; exact hin
  go_enter Try.func25, Try.ntmps25
  go_wp2_with (go_at_call 69; refine (open_none n A _ c _ 0 _ [node] _ lo hi ((hR.alloc hhi _).alloc (by simp; omega) _) (by simp; omega) hc (rd_one (by go_simp) (by simp)) (Nat.le_refl _) (by unfold maxLen; simp) hok hin').mono ?_; rintro e w1 ⟨rfl, hb⟩; obtain ⟨hc1, hf1, hz1⟩ := bcell hb; have hB1 := Below.step (B := w.heap.size) (a := w) (by repeat (first | exact Below.refl _ _ | exact (Below.refl _ _) | assumption | (refine Below.setCell ?_ (by first | omega | (simp; done) | (simp; omega) | (simp [World.setCell]; done) | (simp [World.setCell]; omega)) _) | (refine Below.alloc ?_ (by first | omega | (simp; done) | (simp; omega) | (simp [World.setCell]; done) | (simp [World.setCell]; omega)) _) | (refine Below.drewN_ ?_ _) | (refine Below.drew ?_))) hb (by first | omega | (simp; done) | (simp; omega) | (simp [World.setCell]; done) | (simp [World.setCell]; omega)); simp only [World.size_alloc] at hc1 hf1 hz1)
  go_ret2
  exact ⟨RetI.mk rfl rfl (Nat.le_refl _) Rd.nil, (by repeat (first | exact Below.refl _ _ | exact (Below.refl _ _) | assumption | (refine Below.setCell ?_ (by first | omega | (simp; done) | (simp; omega) | (simp [World.setCell]; done) | (simp [World.setCell]; omega)) _) | (refine Below.alloc ?_ (by first | omega | (simp; done) | (simp; omega) | (simp [World.setCell]; done) | (simp [World.setCell]; omega)) _) | (refine Below.drewN_ ?_ _) | (refine Below.drew ?_)))⟩
set_option maxHeartbeats 800000 in
set_option maxRecDepth 100000 in
theorem Way_ok (n : Net) (node : Int) (A : Option Addr) (c : Nat) (w : World) (lo hi : Nat) (hR : RdP w lo hi A n.pipes) (hhi : hi ≤ w.heap.size) (hc : n.pipes.length ≤ c) (hok : netB n = true) (hin : inB 0 (n.pipes.length - 1) node = true) :
    Calls Try.prog 25 #[.agg #[.int .i64 n.pump, .slice A n.pipes.length c], .int .i64 node] w fun e w' => RetI w.heap.size e w' (wayL n.pipes node) 0 ∧ Below w.heap.size w w' := by
  have hin' : inAll 0 (n.pipes.length - 1) [node] = true := by rw [inAll_one]; exact hin
  have hnd := inB_true hin
  have hln := netB_len hok
  have htr := netB_tree hok
  have hwl : (wayL n.pipes node).length ≤ 1000000 := by have := wayL_len n.pipes node; omega
  go_enter Try.func25, Try.ntmps25
  go_wp2_with (first
    | (go_at_call 69; refine (open_ok n A _ c _ 0 _ [node] _ lo hi ((hR.alloc hhi _).alloc (by simp; omega) _) (by simp; omega) hc (rd_one (by go_simp) (by simp)) (Nat.le_refl _) (by unfold maxLen; simp) hok hin').mono ?_; rintro e w1 ⟨rfl, hb⟩; obtain ⟨hc1, hf1, hz1⟩ := bcell hb; have hB1 := Below.step (B := w.heap.size) (a := w) (by repeat (first | exact Below.refl _ _ | exact (Below.refl _ _) | assumption | (refine Below.setCell ?_ (by first | omega | (simp; done) | (simp; omega) | (simp [World.setCell]; done) | (simp [World.setCell]; omega)) _) | (refine Below.alloc ?_ (by first | omega | (simp; done) | (simp; omega) | (simp [World.setCell]; done) | (simp [World.setCell]; omega)) _) | (refine Below.drewN_ ?_ _) | (refine Below.drew ?_))) hb (by first | omega | (simp; done) | (simp; omega) | (simp [World.setCell]; done) | (simp [World.setCell]; omega)); have hR1 := ((hR.alloc hhi _).alloc (by simp; omega) _).below hb (by simp; omega); simp only [World.size_alloc] at hc1 hf1 hz1)
    | (go_at_call 71; refine (up_ _ _ _ _ _ _).mono ?_; rintro e w2 ⟨rfl, rfl⟩))
  have hz2 : w1.heap.size + 1 < w1.heap.size + 1 + 1 + 1 := by omega
  have hit : ∀ o, Iter Try.prog 97 #[.pointer (some ⟨w1.heap.size + 1 + 1, 0, none⟩), .pointer (some ⟨w1.heap.size + 1, 0, none⟩)] (fun x => #[.int .i64 x]) (wayL n.pipes node) (fun k => k = w1.heap.size + 1 + 1) (fun k => k ≤ w1.heap.size + 1 ∨ k = w1.heap.size + 1 + 1)
      ((((w1.alloc (.cells #[.int .i64 n.pump, .slice A n.pipes.length c] 111)).alloc (.cells #[.int .i64 n.pump, .slice A n.pipes.length c] 111)).alloc (.cells #[.int .i64 node] 3)).alloc o) := fun o =>
    up1_ n.pump node A c n.pipes _ lo hi (w1.heap.size + 1 + 1) (w1.heap.size + 1)
      ((((hR1.alloc (by omega) _).alloc (by simp; omega) _).alloc (by simp; omega) _).alloc (by simp; omega) _) (by omega)
      ((by simpa using (Blk.new (w1.alloc _) _ _ : Blk _ _ _ _)) |> fun h : Blk ((w1.alloc (.cells #[.int .i64 n.pump, .slice A n.pipes.length c] 111)).alloc (.cells #[.int .i64 n.pump, .slice A n.pipes.length c] 111)) (w1.heap.size + 1) 111 #[.int .i64 n.pump, .slice A n.pipes.length c] => (h.alloc _).alloc _)
      ((by simpa using (Blk.new ((w1.alloc _).alloc _) _ _ : Blk _ _ _ _)) |> fun h : Blk (((w1.alloc (.cells #[.int .i64 n.pump, .slice A n.pipes.length c] 111)).alloc (.cells #[.int .i64 n.pump, .slice A n.pipes.length c] 111)).alloc (.cells #[.int .i64 node] 3)) (w1.heap.size + 1 + 1) 3 #[.int .i64 node] => h.alloc _)
      (by omega) htr (by omega) (by omega) hln.2
  refine (collect_ _ _ (enters_of Try.func97 (by kernel_rfl) rfl) _ _ _ _ hit (fun k hk => by simp; omega) (fun k hk => by simp; omega) hwl).mono ?_
  rintro e w3 ⟨⟨B, cap, rfl, hl, hrd⟩, ho⟩
  go_wp2
  go_ret2
  exact ⟨RetI.mk (base := w.heap.size) rfl rfl hl (hrd.mono (by simp; omega) (Nat.le_refl _)), Only.toBelow (by repeat (first | exact Below.refl _ _ | exact (Below.refl _ _) | assumption | (refine Below.setCell ?_ (by first | omega | (simp; done) | (simp; omega) | (simp [World.setCell]; done) | (simp [World.setCell]; omega)) _) | (refine Below.alloc ?_ (by first | omega | (simp; done) | (simp; omega) | (simp [World.setCell]; done) | (simp [World.setCell]; omega)) _) | (refine Below.drewN_ ?_ _) | (refine Below.drew ?_))) ho (by simp; omega) (fun k hk => by omega)⟩

/-- A number and an error. -/
abbrev retN (d err : Int) : Ending := .returned (.tuple #[.int .i64 d, .int .i64 err])
set_option maxHeartbeats 800000 in
set_option maxRecDepth 100000 in
theorem Between_arg (n : Net) (a b : Int) (A : Option Addr) (c : Nat) (w : World) (lo hi : Nat) (hR : RdP w lo hi A n.pipes) (hhi : hi ≤ w.heap.size) (hc : n.pipes.length ≤ c) (hn : n.pipes.length ≤ maxLen) (hbad : netB n = false) :
    Calls Try.prog 45 #[.agg #[.int .i64 n.pump, .slice A n.pipes.length c], .int .i64 a, .int .i64 b] w fun e w' => e = retN 0 2 ∧ Below w.heap.size w w' := by
  go_enter Try.func45, Try.ntmps45
  go_wp2_with (go_at_call 69; refine (open_arg n A _ c _ [a, b] _ lo hi ((hR.alloc hhi _).alloc (by simp; omega) _) (by simp; omega) hc hn hbad).mono ?_; rintro e w1 ⟨rfl, hb⟩; obtain ⟨hc1, hf1, hz1⟩ := bcell hb; have hB1 := Below.step (B := w.heap.size) (a := w) (by repeat (first | exact Below.refl _ _ | exact (Below.refl _ _) | assumption | (refine Below.setCell ?_ (by first | omega | (simp; done) | (simp; omega) | (simp [World.setCell]; done) | (simp [World.setCell]; omega)) _) | (refine Below.alloc ?_ (by first | omega | (simp; done) | (simp; omega) | (simp [World.setCell]; done) | (simp [World.setCell]; omega)) _) | (refine Below.drewN_ ?_ _) | (refine Below.drew ?_))) hb (by first | omega | (simp; done) | (simp; omega) | (simp [World.setCell]; done) | (simp [World.setCell]; omega)); simp only [World.size_alloc] at hc1 hf1 hz1)
  go_ret2
  exact ⟨rfl, (by repeat (first | exact Below.refl _ _ | exact (Below.refl _ _) | assumption | (refine Below.setCell ?_ (by first | omega | (simp; done) | (simp; omega) | (simp [World.setCell]; done) | (simp [World.setCell]; omega)) _) | (refine Below.alloc ?_ (by first | omega | (simp; done) | (simp; omega) | (simp [World.setCell]; done) | (simp [World.setCell]; omega)) _) | (refine Below.drewN_ ?_ _) | (refine Below.drew ?_)))⟩
set_option maxHeartbeats 800000 in
set_option maxRecDepth 100000 in
theorem Between_none (n : Net) (a b : Int) (A : Option Addr) (c : Nat) (w : World) (lo hi : Nat) (hR : RdP w lo hi A n.pipes) (hhi : hi ≤ w.heap.size) (hc : n.pipes.length ≤ c) (hok : netB n = true) (hin : inAll 0 (n.pipes.length - 1) [a, b] = false) :
    Calls Try.prog 45 #[.agg #[.int .i64 n.pump, .slice A n.pipes.length c], .int .i64 a, .int .i64 b] w fun e w' => e = retN 0 7 ∧ Below w.heap.size w w' := by
  go_enter Try.func45, Try.ntmps45
  go_wp2_with (go_at_call 69; refine (open_none n A _ c _ 0 _ [a, b] _ lo hi ((hR.alloc hhi _).alloc (by simp; omega) _) (by simp; omega) hc (rd_two (by go_simp) (by go_simp) (by simp)) (Nat.le_refl _) (by unfold maxLen; simp) hok hin).mono ?_; rintro e w1 ⟨rfl, hb⟩; obtain ⟨hc1, hf1, hz1⟩ := bcell hb; have hB1 := Below.step (B := w.heap.size) (a := w) (by repeat (first | exact Below.refl _ _ | exact (Below.refl _ _) | assumption | (refine Below.setCell ?_ (by first | omega | (simp; done) | (simp; omega) | (simp [World.setCell]; done) | (simp [World.setCell]; omega)) _) | (refine Below.alloc ?_ (by first | omega | (simp; done) | (simp; omega) | (simp [World.setCell]; done) | (simp [World.setCell]; omega)) _) | (refine Below.drewN_ ?_ _) | (refine Below.drew ?_))) hb (by first | omega | (simp; done) | (simp; omega) | (simp [World.setCell]; done) | (simp [World.setCell]; omega)); simp only [World.size_alloc] at hc1 hf1 hz1)
  go_ret2
  exact ⟨rfl, (by repeat (first | exact Below.refl _ _ | exact (Below.refl _ _) | assumption | (refine Below.setCell ?_ (by first | omega | (simp; done) | (simp; omega) | (simp [World.setCell]; done) | (simp [World.setCell]; omega)) _) | (refine Below.alloc ?_ (by first | omega | (simp; done) | (simp; omega) | (simp [World.setCell]; done) | (simp [World.setCell]; omega)) _) | (refine Below.drewN_ ?_ _) | (refine Below.drew ?_)))⟩
theorem netB_pipe {n : Net} (h : netB n = true) {i : Nat} (hi : i < n.pipes.length) (h0 : 0 < i) : pipeB n.pipes[i] (i - 1) = true := by
  unfold netB at h; simp only [Bool.and_eq_true] at h
  obtain ⟨j, rfl⟩ : ∃ j, i = j + 1 := ⟨i - 1, by omega⟩
  have hj : j < (n.pipes.drop 1).length := by rw [List.length_drop]; omega
  have hg : (n.pipes.drop 1)[j] = n.pipes[j + 1] := by rw [List.getElem_drop]; congr 1; omega
  cases hb : pipeB n.pipes[j + 1] ((j + 1 : Nat) - 1) with
  | true => rfl
  | false =>
    have e : (((j + 1 : Nat) : Int) - 1) = (j : Int) := by omega
    rw [e, ← hg] at hb
    have := pipesB_false _ j hj hb
    rw [this] at h; simp at h
set_option maxHeartbeats 2000000 in
set_option maxRecDepth 100000 in
theorem Between_ok (n : Net) (a0 b0 : Int) (A : Option Addr) (c : Nat) (w : World) (lo hi : Nat) (hR : RdP w lo hi A n.pipes) (hhi : hi ≤ w.heap.size) (hc : n.pipes.length ≤ c) (hok : netB n = true) (hin : inAll 0 (n.pipes.length - 1) [a0, b0] = true) :
    Calls Try.prog 45 #[.agg #[.int .i64 n.pump, .slice A n.pipes.length c], .int .i64 a0, .int .i64 b0] w fun e w' => e = retN (betL n.pipes a0 b0) 0 ∧ Below w.heap.size w w' := by
  have hnd : 0 ≤ a0 ∧ a0 < n.pipes.length ∧ 0 ≤ b0 ∧ b0 < n.pipes.length := by
    rw [inAll_two, Bool.and_eq_true] at hin
    have h1 := inB_true hin.1; have h2 := inB_true hin.2; omega
  have hln := netB_len hok
  have htr := netB_tree hok
  go_enter Try.func45, Try.ntmps45
  go_wp2_with (go_at_call 69; refine (open_ok n A _ c _ 0 _ [a0, b0] _ lo hi ((hR.alloc hhi _).alloc (by simp; omega) _) (by simp; omega) hc (rd_two (by go_simp) (by go_simp) (by simp)) (Nat.le_refl _) (by unfold maxLen; simp) hok hin).mono ?_; rintro e w1 ⟨rfl, hb⟩; obtain ⟨hc1, hf1, hz1⟩ := bcell hb; have hB1 := Below.step (B := w.heap.size) (a := w) (by repeat (first | exact Below.refl _ _ | exact (Below.refl _ _) | assumption | (refine Below.setCell ?_ (by first | omega | (simp; done) | (simp; omega) | (simp [World.setCell]; done) | (simp [World.setCell]; omega)) _) | (refine Below.alloc ?_ (by first | omega | (simp; done) | (simp; omega) | (simp [World.setCell]; done) | (simp [World.setCell]; omega)) _) | (refine Below.drewN_ ?_ _) | (refine Below.drew ?_))) hb (by first | omega | (simp; done) | (simp; omega) | (simp [World.setCell]; done) | (simp [World.setCell]; omega)); have hR1 := ((hR.alloc hhi _).alloc (by simp; omega) _).below hb (by simp; omega); simp only [World.size_alloc] at hc1 hf1 hz1)
  have hR2 := hR1.alloc (by omega) (.cells #[.int .i64 n.pump, .slice A n.pipes.length c] 111)
  go_loop [1, 2, 6] (fun x y z => ∃ a b s : Int, x = .int .i64 a ∧ y = .int .i64 b ∧ z = .int .i64 s ∧ 0 ≤ a ∧ a < n.pipes.length ∧ 0 ≤ b ∧ b < n.pipes.length ∧ s + betL n.pipes a b = betL n.pipes a0 b0 ∧ 0 ≤ s ∧ s ≤ 100000 * (a0 + b0 - a - b)) (fun x y _ => (intOf x + intOf y).toNat)
  case atStart => exact ⟨a0, b0, 0, rfl, rfl, rfl, by omega, by omega, by omega, by omega, by omega, by omega, by omega⟩
  case round =>
    obtain ⟨a, b, s, rfl, rfl, rfl, ha0, ha1, hb0, hb1, hs, hs0, hs1⟩ := hrel
    have HS := Lib.hid hs
    clear hs
    by_cases he : a = b
    · subst he
      have hne : (a != a) = false := by simp
      go_wp2
      go_ret2
      exact ⟨by have := HS.out; rw [betL_same] at this; rw [← this]; simp, (by repeat (first | exact Below.refl _ _ | exact (Below.refl _ _) | assumption | (refine Below.setCell ?_ (by first | omega | (simp; done) | (simp; omega) | (simp [World.setCell]; done) | (simp [World.setCell]; omega)) _) | (refine Below.alloc ?_ (by first | omega | (simp; done) | (simp; omega) | (simp [World.setCell]; done) | (simp [World.setCell]; omega)) _) | (refine Below.drewN_ ?_ _) | (refine Below.drew ?_)))⟩
    · have hne : (a != b) = true := by simpa using he
      obtain ⟨e1, e2, e3⟩ := betL_step htr ha0 hb0 ha1 hb1 he
      rcases Int.lt_or_gt_of_ne he with hlt | hlt
      · rw [Int.max_eq_right (by omega), Int.min_eq_left (by omega)] at e1
        rw [Int.max_eq_right (by omega)] at e2 e3
        have hM1 : b.toNat < n.pipes.length := by omega
        have hpb := netB_pipe hok hM1 (by omega)
        obtain ⟨bb, off, rfl, hb1', hb2', p0, p1, p2, p3, p4⟩ := RdP.at_ (k := b.toNat) hR2 hM1
        unfold pipeB at hpb; simp only [Bool.and_eq_true] at hpb
        have hlen := inB_true hpb.1.1.1.2
        have q0 : n.pipes[b.toNat].parent = par n.pipes b := by unfold par; rw [List.getD_eq_getElem?_getD, List.getElem?_eq_getElem hM1]; rfl
        have q1 : n.pipes[b.toNat].length = (n.pipes.getD b.toNat default).length := by rw [List.getD_eq_getElem?_getD, List.getElem?_eq_getElem hM1]; rfl
        rw [q0] at p0
        rw [← q1] at e1
        clear q0 q1 hpb p2 p3 p4
        have HE := Lib.hid e1
        generalize n.pipes[b.toNat].length = L at *
        generalize par n.pipes b = j at *
        clear e1 he
        go_wp2
        refine ⟨⟨j, a, s + L, rfl, rfl, rfl, e2, by omega, ha0, ha1, ?_, by omega, by omega⟩, by simp [intOf]; omega⟩
        have h1 := HE.out; have h2 := HS.out; omega
      · rw [Int.max_eq_left (by omega), Int.min_eq_right (by omega)] at e1
        rw [Int.max_eq_left (by omega)] at e2 e3
        have hM1 : a.toNat < n.pipes.length := by omega
        have hpb := netB_pipe hok hM1 (by omega)
        obtain ⟨bb, off, rfl, hb1', hb2', p0, p1, p2, p3, p4⟩ := RdP.at_ (k := a.toNat) hR2 hM1
        unfold pipeB at hpb; simp only [Bool.and_eq_true] at hpb
        have hlen := inB_true hpb.1.1.1.2
        have q0 : n.pipes[a.toNat].parent = par n.pipes a := by unfold par; rw [List.getD_eq_getElem?_getD, List.getElem?_eq_getElem hM1]; rfl
        have q1 : n.pipes[a.toNat].length = (n.pipes.getD a.toNat default).length := by rw [List.getD_eq_getElem?_getD, List.getElem?_eq_getElem hM1]; rfl
        rw [q0] at p0
        rw [← q1] at e1
        clear q0 q1 hpb p2 p3 p4
        have HE := Lib.hid e1
        generalize n.pipes[a.toNat].length = L at *
        generalize par n.pipes a = j at *
        clear e1 he
        go_wp2
        refine ⟨⟨j, b, s + L, rfl, rfl, rfl, e2, by omega, hb0, hb1, ?_, by omega, by omega⟩, by simp [intOf]; omega⟩
        have h1 := HE.out; have h2 := HS.out; omega
end Go.Proofs.Ytepibjfmeibgcaa
