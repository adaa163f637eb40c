/- What line.Plan returns. -/
import Derived.Test.YtepibjfmeibgcaaWs
namespace Go.Proofs.Ytepibjfmeibgcaa
open Go.RowKit Go.Shelf
open Go.Maps (Keyed)
/-- The bores, their cost and the error. -/
def PlanR (base : Nat) (e : Ending) (w' : World) (xs : List Int) (cost err : Int) : Prop :=
  ∃ v, e = .returned (.tuple #[v, .int .i64 cost, .int .i64 err]) ∧ w'.ownsRow base 3 1 v xs.length (xs.map I)
theorem planR_nil {base : Nat} {w : World} (cost err : Int) : PlanR base (.returned (.tuple #[.slice none 0 0, .int .i64 cost, .int .i64 err])) w [] cost err := ⟨_, rfl, rfl, .inl ⟨rfl, rfl⟩⟩
set_option maxHeartbeats 800000 in
set_option maxRecDepth 100000 in
theorem plan_err (n : Net) (A B D : Option Addr) (c lf cb nb cd : Nat) (need : Int) (l1 v1 l2 v2 : List Int) (m : Nat) (err : Int) (w : World) (he : err ≠ 0)
    (h : ∀ o, Calls Try.prog 57 #[.agg #[.int .i64 n.pump, .slice A n.pipes.length c], .slice B lf cb, .slice none 0 0] (w.alloc o) fun e w' => BothR (w.alloc o).heap.size e w' m l1 v1 l2 v2 err ∧ Below (w.alloc o).heap.size (w.alloc o) w') :
    Calls Try.prog 16 #[.agg #[.int .i64 n.pump, .slice A n.pipes.length c], .slice B lf cb, .slice D nb cd, .int .i64 need] w fun e w' => PlanR w.heap.size e w' [] 0 err ∧ Below w.heap.size w w' := by
  have H := Lib.hid h
  have hb : (err != 0) = true := by simp [he]
  clear h
  go_enter Try.func16, Try.ntmps16
  go_wp2_with (go_at_call 57; refine (H.out _).mono ?_; rintro e w1 ⟨⟨A1, A2, A3, A4, rfl, a1, a2, a3, a4⟩, hb⟩; have hB1 := Below.step (B := w.heap.size) (a := w) (by repeat (first | exact Below.refl _ _ | exact (Below.refl _ _) | assumption | (refine Below.setCell ?_ (by first | omega | (simp; done) | (simp; omega) | (simp [World.setCell]; done) | (simp [World.setCell]; omega)) _) | (refine Below.alloc ?_ (by first | omega | (simp; done) | (simp; omega) | (simp [World.setCell]; done) | (simp [World.setCell]; omega)) _) | (refine Below.drewN_ ?_ _) | (refine Below.drew ?_))) hb (by first | omega | (simp; done) | (simp; omega) | (simp [World.setCell]; done) | (simp [World.setCell]; omega)); have hz1 := hb.size; simp only [World.size_alloc] at hz1; obtain ⟨la0, la1, la2, la3, la4, la5⟩ := lt6 (show w.heap.size < w1.heap.size by omega))
  go_ret3
  exact ⟨planR_nil _ _, (by repeat (first | exact Below.refl _ _ | exact (Below.refl _ _) | assumption | (refine Below.setCell ?_ (by first | omega | (simp; done) | (simp; omega) | (simp [World.setCell]; done) | (simp [World.setCell]; omega)) _) | (refine Below.alloc ?_ (by first | omega | (simp; done) | (simp; omega) | (simp [World.setCell]; done) | (simp [World.setCell]; omega)) _) | (refine Below.drewN_ ?_ _) | (refine Below.drew ?_)))⟩
set_option maxHeartbeats 800000 in
set_option maxRecDepth 100000 in
theorem plan_long (n : Net) (A B D : Option Addr) (c lf cb nb cd : Nat) (need : Int) (l1 v1 l2 v2 : List Int) (m : Nat) (w : World) (he : 6 < nb) (hnb : nb ≤ maxLen)
    (h : ∀ o, Calls Try.prog 57 #[.agg #[.int .i64 n.pump, .slice A n.pipes.length c], .slice B lf cb, .slice none 0 0] (w.alloc o) fun e w' => BothR (w.alloc o).heap.size e w' m l1 v1 l2 v2 0 ∧ Below (w.alloc o).heap.size (w.alloc o) w') :
    Calls Try.prog 16 #[.agg #[.int .i64 n.pump, .slice A n.pipes.length c], .slice B lf cb, .slice D nb cd, .int .i64 need] w fun e w' => PlanR w.heap.size e w' [] 0 5 ∧ Below w.heap.size w w' := by
  have H := Lib.hid h
  clear h
  unfold maxLen at hnb
  go_enter Try.func16, Try.ntmps16
  go_wp2_with (go_at_call 57; refine (H.out _).mono ?_; rintro e w1 ⟨⟨A1, A2, A3, A4, rfl, a1, a2, a3, a4⟩, hb⟩; have hB1 := Below.step (B := w.heap.size) (a := w) (by repeat (first | exact Below.refl _ _ | exact (Below.refl _ _) | assumption | (refine Below.setCell ?_ (by first | omega | (simp; done) | (simp; omega) | (simp [World.setCell]; done) | (simp [World.setCell]; omega)) _) | (refine Below.alloc ?_ (by first | omega | (simp; done) | (simp; omega) | (simp [World.setCell]; done) | (simp [World.setCell]; omega)) _) | (refine Below.drewN_ ?_ _) | (refine Below.drew ?_))) hb (by first | omega | (simp; done) | (simp; omega) | (simp [World.setCell]; done) | (simp [World.setCell]; omega)); have hz1 := hb.size; simp only [World.size_alloc] at hz1; obtain ⟨la0, la1, la2, la3, la4, la5⟩ := lt6 (show w.heap.size < w1.heap.size by omega))
  go_ret3
  exact ⟨planR_nil _ _, (by repeat (first | exact Below.refl _ _ | exact (Below.refl _ _) | assumption | (refine Below.setCell ?_ (by first | omega | (simp; done) | (simp; omega) | (simp [World.setCell]; done) | (simp [World.setCell]; omega)) _) | (refine Below.alloc ?_ (by first | omega | (simp; done) | (simp; omega) | (simp [World.setCell]; done) | (simp [World.setCell]; omega)) _) | (refine Below.drewN_ ?_ _) | (refine Below.drew ?_)))⟩
set_option maxHeartbeats 800000 in
set_option maxRecDepth 100000 in
theorem plan_bad (n : Net) (A B D : Option Addr) (c lf cb cd lo hi : Nat) (need : Int) (l1 v1 l2 v2 : List Int) (bores : List Bor) (m : Nat) (w : World) (hR : RdO w lo hi D bores) (hhi : hi ≤ w.heap.size) (he : bores.length ≤ 6) (hbad : bores = [] ∨ boresB bores = false)
    (h : ∀ o, Calls Try.prog 57 #[.agg #[.int .i64 n.pump, .slice A n.pipes.length c], .slice B lf cb, .slice none 0 0] (w.alloc o) fun e w' => BothR (w.alloc o).heap.size e w' m l1 v1 l2 v2 0 ∧ Below (w.alloc o).heap.size (w.alloc o) w') :
    Calls Try.prog 16 #[.agg #[.int .i64 n.pump, .slice A n.pipes.length c], .slice B lf cb, .slice D bores.length cd, .int .i64 need] w fun e w' => PlanR w.heap.size e w' [] 0 2 ∧ Below w.heap.size w w' := by
  have H := Lib.hid h
  clear h
  by_cases h0 : bores.length = 0
  · rw [h0]
    go_enter Try.func16, Try.ntmps16
    go_wp2_with (go_at_call 57; refine (H.out _).mono ?_; rintro e w1 ⟨⟨A1, A2, A3, A4, rfl, a1, a2, a3, a4⟩, hb⟩; have hB1 := Below.step (B := w.heap.size) (a := w) (by repeat (first | exact Below.refl _ _ | exact (Below.refl _ _) | assumption | (refine Below.setCell ?_ (by first | omega | (simp; done) | (simp; omega) | (simp [World.setCell]; done) | (simp [World.setCell]; omega)) _) | (refine Below.alloc ?_ (by first | omega | (simp; done) | (simp; omega) | (simp [World.setCell]; done) | (simp [World.setCell]; omega)) _) | (refine Below.drewN_ ?_ _) | (refine Below.drew ?_))) hb (by first | omega | (simp; done) | (simp; omega) | (simp [World.setCell]; done) | (simp [World.setCell]; omega)); have hz1 := hb.size; simp only [World.size_alloc] at hz1; obtain ⟨la0, la1, la2, la3, la4, la5⟩ := lt6 (show w.heap.size < w1.heap.size by omega))
    go_ret3
    exact ⟨planR_nil _ _, (by repeat (first | exact Below.refl _ _ | exact (Below.refl _ _) | assumption | (refine Below.setCell ?_ (by first | omega | (simp; done) | (simp; omega) | (simp [World.setCell]; done) | (simp [World.setCell]; omega)) _) | (refine Below.alloc ?_ (by first | omega | (simp; done) | (simp; omega) | (simp [World.setCell]; done) | (simp [World.setCell]; omega)) _) | (refine Below.drewN_ ?_ _) | (refine Below.drew ?_)))⟩
  · have hb2 := Lib.hid (show boresB bores = false by rcases hbad with rfl | h; exact absurd rfl h0; exact h)
    have h1 : ((bores.length : Int) == 0) = false := by simp; exact fun h => h0 (by simp [h])
    have h2 : 0 < bores.length := by omega
    clear hbad h0
    go_enter Try.func16, Try.ntmps16
    go_wp2_with (first
      | (go_at_call 57; refine (H.out _).mono ?_; rintro e w1 ⟨⟨A1, A2, A3, A4, rfl, a1, a2, a3, a4⟩, hb⟩; have hB1 := Below.step (B := w.heap.size) (a := w) (by repeat (first | exact Below.refl _ _ | exact (Below.refl _ _) | assumption | (refine Below.setCell ?_ (by first | omega | (simp; done) | (simp; omega) | (simp [World.setCell]; done) | (simp [World.setCell]; omega)) _) | (refine Below.alloc ?_ (by first | omega | (simp; done) | (simp; omega) | (simp [World.setCell]; done) | (simp [World.setCell]; omega)) _) | (refine Below.drewN_ ?_ _) | (refine Below.drew ?_))) hb (by first | omega | (simp; done) | (simp; omega) | (simp [World.setCell]; done) | (simp [World.setCell]; omega)); have hz1 := hb.size; simp only [World.size_alloc] at hz1; obtain ⟨la0, la1, la2, la3, la4, la5⟩ := lt6 (show w.heap.size < w1.heap.size by omega))
      | (go_at_call 58; refine (containsB_ D cd lo hi bores _ (((hR.below hB1 hhi).alloc (by omega) _).alloc (by simp; omega) _) (by simp; omega) (by unfold maxLen; omega)).mono ?_; rintro e w2 ⟨rfl, hb2'⟩; rw [hb2.out]; have hB2 := Below.step (B := w.heap.size) (a := w) (by repeat (first | exact Below.refl _ _ | exact (Below.refl _ _) | assumption | (refine Below.setCell ?_ (by first | omega | (simp; done) | (simp; omega) | (simp [World.setCell]; done) | (simp [World.setCell]; omega)) _) | (refine Below.alloc ?_ (by first | omega | (simp; done) | (simp; omega) | (simp [World.setCell]; done) | (simp [World.setCell]; omega)) _) | (refine Below.drewN_ ?_ _) | (refine Below.drew ?_))) hb2' (by first | omega | (simp; done) | (simp; omega) | (simp [World.setCell]; done) | (simp [World.setCell]; omega))))
    go_ret3
    exact ⟨planR_nil _ _, (by repeat (first | exact Below.refl _ _ | exact (Below.refl _ _) | assumption | (refine Below.setCell ?_ (by first | omega | (simp; done) | (simp; omega) | (simp [World.setCell]; done) | (simp [World.setCell]; omega)) _) | (refine Below.alloc ?_ (by first | omega | (simp; done) | (simp; omega) | (simp [World.setCell]; done) | (simp [World.setCell]; omega)) _) | (refine Below.drewN_ ?_ _) | (refine Below.drew ?_)))⟩
end Go.Proofs.Ytepibjfmeibgcaa
