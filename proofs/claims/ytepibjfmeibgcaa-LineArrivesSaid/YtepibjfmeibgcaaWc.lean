/- What line.open returns, for any tubing and any nodes that can be read. -/
import Derived.Test.YtepibjfmeibgcaaWb
namespace Go.Proofs.Ytepibjfmeibgcaa
open Go.RowKit
theorem chk_ok {n : Net} (h : netB n = true) : chk n = 0 := by unfold chk; rw [h]; rfl
theorem chk_bad {n : Net} (h : netB n = false) : chk n = 2 := by unfold chk; rw [h]; rfl
theorem netB_len {n : Net} (h : netB n = true) : 1 ≤ n.pipes.length ∧ n.pipes.length ≤ 60 := by
  unfold netB at h; simp only [Bool.and_eq_true] at h; have := inB_true h.1.1.1; omega
abbrev aggN (pump : Int) (A : Option Addr) (l c : Nat) : Value := .agg #[.int .i64 pump, .slice A l c]

theorem Below.step {B : Nat} {a W w1 : World} (h : Below B a W) (hb : Below W.heap.size W w1) (hB : B ≤ W.heap.size) : Below B a w1 := h.trans (hb.mono hB)
theorem openN_step {w w1 : World} {o1 o2 : Obj} (hb : Below ((w.alloc o1).alloc o2).heap.size ((w.alloc o1).alloc o2) w1) : Below w.heap.size w w1 :=
  (((Below.refl _ _).alloc (Nat.le_refl _) _).alloc (by simp) _).trans (hb.mono (by simp; omega))

set_option maxHeartbeats 1000000 in
theorem open_arg (n : Net) (A B : Option Addr) (c d : Nat) (xs : List Int) (w : World) (lo hi : Nat) (hR : RdP w lo hi A n.pipes) (hhi : hi ≤ w.heap.size) (hc : n.pipes.length ≤ c) (hn : n.pipes.length ≤ maxLen) (hbad : netB n = false) :
    Calls Try.prog 69 #[.agg #[.int .i64 n.pump, .slice A n.pipes.length c], .slice B xs.length d] w fun e w' => e = .returned (.tuple #[.agg #[.int .i64 0, .slice none 0 0], .int .i64 2]) ∧ Below w.heap.size w w' := by
  have hck := Lib.hid (chk_bad hbad)
  go_enter Try.func69, Try.ntmps69
  go_wp2_with (go_at_call 43; refine (check_ n A c _ lo hi ((hR.alloc hhi _).alloc (by simp; omega) _) (by simp; omega) hc hn).mono ?_; rintro e w1 ⟨rfl, hb⟩; rw [hck.out]; obtain ⟨hc1, hf1, hz1⟩ := bcell hb; simp only [World.size_alloc] at hc1 hf1 hz1)
  exact bodyPost_ret (v := .tuple #[.agg #[.int .i64 0, .slice none 0 0], .int .i64 2]) (by simp [results, Try.results69, go_sem, hc1]) rfl ⟨rfl, ((openN_step hb).setCell (by simp) _).setCell (by simp) _⟩
set_option maxHeartbeats 1000000 in
theorem open_none (n : Net) (A B : Option Addr) (c d u2 h2 : Nat) (xs : List Int) (w : World) (lo hi : Nat) (hR : RdP w lo hi A n.pipes) (hhi : hi ≤ w.heap.size) (hc : n.pipes.length ≤ c) (hX : RdI w u2 h2 B xs) (hh2 : h2 ≤ w.heap.size) (hxl : xs.length ≤ maxLen)
    (hok : netB n = true) (hin : inAll 0 (n.pipes.length - 1) xs = false) :
    Calls Try.prog 69 #[.agg #[.int .i64 n.pump, .slice A n.pipes.length c], .slice B xs.length d] w fun e w' => e = .returned (.tuple #[.agg #[.int .i64 0, .slice none 0 0], .int .i64 7]) ∧ Below w.heap.size w w' := by
  have hck := Lib.hid (chk_ok hok)
  have hln := netB_len hok
  have hn : n.pipes.length ≤ maxLen := by unfold maxLen; omega
  go_enter Try.func69, Try.ntmps69
  go_wp2_with (first
    | (go_at_call 43; refine (check_ n A c _ lo hi ((hR.alloc hhi _).alloc (by simp; omega) _) (by simp; omega) hc hn).mono ?_; rintro e w1 ⟨rfl, hb⟩; rw [hck.out]; obtain ⟨hc1, hf1, hz1⟩ := bcell hb; simp only [World.size_alloc] at hc1 hf1 hz1; have hX1 := ((hX.alloc hh2 _).alloc (by simp; omega) _).below hb (by simp; omega); obtain ⟨l0, l1, l2, l3, l4, l5⟩ := lt6 (show w.heap.size + 1 < w1.heap.size by omega); obtain ⟨m0, m1, m2, m3, m4, m5⟩ := lt6 (show w.heap.size < w1.heap.size by omega))
    | (go_at_call 61; refine (within_ _ _ B d u2 h2 xs _ hX1 (by omega) hxl).mono ?_; rintro e w2 ⟨rfl, o1, o2, rfl⟩; rw [hin]))
  exact bodyPost_ret (v := .tuple #[.agg #[.int .i64 0, .slice none 0 0], .int .i64 7]) (by simp [results, Try.results69, go_sem, hc1, l0, l1]) rfl ⟨rfl, (by repeat (first | exact Below.refl _ _ | exact (openN_step hb) | assumption | (refine Below.setCell ?_ (by first | omega | (simp; done) | (simp; omega) | (simp [World.setCell]; done) | (simp [World.setCell]; omega)) _) | (refine Below.alloc ?_ (by first | omega | (simp; done) | (simp; omega) | (simp [World.setCell]; done) | (simp [World.setCell]; omega)) _) | (refine Below.drewN_ ?_ _) | (refine Below.drew ?_)))⟩
set_option maxHeartbeats 1000000 in
theorem open_ok (n : Net) (A B : Option Addr) (c d u2 h2 : Nat) (xs : List Int) (w : World) (lo hi : Nat) (hR : RdP w lo hi A n.pipes) (hhi : hi ≤ w.heap.size) (hc : n.pipes.length ≤ c) (hX : RdI w u2 h2 B xs) (hh2 : h2 ≤ w.heap.size) (hxl : xs.length ≤ maxLen)
    (hok : netB n = true) (hin : inAll 0 (n.pipes.length - 1) xs = true) :
    Calls Try.prog 69 #[.agg #[.int .i64 n.pump, .slice A n.pipes.length c], .slice B xs.length d] w fun e w' => e = .returned (.tuple #[.agg #[.int .i64 n.pump, .slice A n.pipes.length c], .int .i64 0]) ∧ Below w.heap.size w w' := by
  have hck := Lib.hid (chk_ok hok)
  have hln := netB_len hok
  have hn : n.pipes.length ≤ maxLen := by unfold maxLen; omega
  go_enter Try.func69, Try.ntmps69
  go_wp2_with (first
    | (go_at_call 43; refine (check_ n A c _ lo hi ((hR.alloc hhi _).alloc (by simp; omega) _) (by simp; omega) hc hn).mono ?_; rintro e w1 ⟨rfl, hb⟩; rw [hck.out]; obtain ⟨hc1, hf1, hz1⟩ := bcell hb; simp only [World.size_alloc] at hc1 hf1 hz1; have hX1 := ((hX.alloc hh2 _).alloc (by simp; omega) _).below hb (by simp; omega); obtain ⟨l0, l1, l2, l3, l4, l5⟩ := lt6 (show w.heap.size + 1 < w1.heap.size by omega); obtain ⟨m0, m1, m2, m3, m4, m5⟩ := lt6 (show w.heap.size < w1.heap.size by omega))
    | (go_at_call 61; refine (within_ _ _ B d u2 h2 xs _ hX1 (by omega) hxl).mono ?_; rintro e w2 ⟨rfl, o1, o2, rfl⟩; rw [hin]))
  exact bodyPost_ret (v := .tuple #[.agg #[.int .i64 n.pump, .slice A n.pipes.length c], .int .i64 0]) (by simp [results, Try.results69, go_sem, hc1, l0, l1]) rfl ⟨rfl, (by repeat (first | exact Below.refl _ _ | exact (openN_step hb) | assumption | (refine Below.setCell ?_ (by first | omega | (simp; done) | (simp; omega) | (simp [World.setCell]; done) | (simp [World.setCell]; omega)) _) | (refine Below.alloc ?_ (by first | omega | (simp; done) | (simp; omega) | (simp [World.setCell]; done) | (simp [World.setCell]; omega)) _) | (refine Below.drewN_ ?_ _) | (refine Below.drew ?_)))⟩
end Go.Proofs.Ytepibjfmeibgcaa
