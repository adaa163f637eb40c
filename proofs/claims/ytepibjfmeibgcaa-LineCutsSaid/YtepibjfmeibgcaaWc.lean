/- What line.Check and line.open return, for any tubing that can be read. -/
import Derived.Test.YtepibjfmeibgcaaWa
namespace Go.Proofs.Ytepibjfmeibgcaa
open Go.RowKit
set_option linter.unusedVariables false
theorem infoPipe : (Try.prog.info? 54).map (fun i => (i.zero, i.size, i.bytes)) = some (some (.agg #[.int .i64 0, .int .i64 0, .int .i64 0, .int .i64 0, .int .i64 0]), 5, 40) := by kernel_rfl
def encP (p : Pipe) : List Value := [I p.parent, I p.length, I p.bore, I p.drop, I p.taps]
abbrev RdP (w : World) (lo hi : Nat) (A : Option Addr) (xs : List Pipe) : Prop := Rd encP 5 w lo hi A xs
theorem RdP.at_ {w : World} {lo hi : Nat} {A : Option Addr} {xs : List Pipe} {k : Nat} (h : RdP w lo hi A xs) (hk : k < xs.length) : ∃ b off, A = some ⟨b, off, none⟩ ∧ lo ≤ b ∧ b < hi ∧
    w.cell? ⟨b, off + k * 5, none⟩ = some (.int .i64 xs[k].parent) ∧ w.cell? ⟨b, off + k * 5 + 1, none⟩ = some (.int .i64 xs[k].length) ∧ w.cell? ⟨b, off + k * 5 + 2, none⟩ = some (.int .i64 xs[k].bore) ∧
    w.cell? ⟨b, off + k * 5 + 3, none⟩ = some (.int .i64 xs[k].drop) ∧ w.cell? ⟨b, off + k * 5 + 4, none⟩ = some (.int .i64 xs[k].taps) := by
  obtain ⟨b, off, e, h1, h2, hc⟩ := Rd.at_ h hk
  exact ⟨b, off, e, h1, h2, hc 0 _ rfl, hc 1 _ rfl, hc 2 _ rfl, hc 3 _ rfl, hc 4 _ rfl⟩

abbrev aggP (p : Pipe) : Value := .agg #[.int .i64 p.parent, .int .i64 p.length, .int .i64 p.bore, .int .i64 p.drop, .int .i64 p.taps]
theorem neq_pipe (p q : Pipe) (W : World) : (binOp .neq 54 (aggP p) (aggP q)).run Try.prog W = .ok (.bool (!decide (p = q))) W := by
  obtain ⟨a1, a2, a3, a4, a5⟩ := p
  obtain ⟨b1, b2, b3, b4, b5⟩ := q
  by_cases h1 : a1 = b1 <;> by_cases h2 : a2 = b2 <;> by_cases h3 : a3 = b3 <;> by_cases h4 : a4 = b4 <;> by_cases h5 : a5 = b5 <;> go_simp <;> simp [h1, h2, h3, h4, h5]
set_option maxHeartbeats 1000000 in
set_option maxRecDepth 100000 in
theorem check_short (n : Net) (A : Option Addr) (c : Nat) (w : World) (hn : n.pipes.length ≤ maxLen) (h1 : inB 1 60 n.pipes.length = false) :
    Calls Try.prog 43 #[.agg #[.int .i64 n.pump, .slice A n.pipes.length c]] w fun e w' => e = .returned (.int .i64 2) ∧ Below w.heap.size w w' := by
  unfold maxLen at hn
  go_enter Try.func43, Try.ntmps43
  go_wp2_with (go_at_call 61; refine (within_one _ _ _ _ _ _ (by go_simp; rfl) (by go_simp)).mono ?_; rintro e w' ⟨rfl, o1, o2, rfl⟩)
  go_ret
  exact ⟨rfl, (by repeat (first | exact Below.refl _ _ | (refine Below.alloc ?_ (by simp; try omega) _)))⟩
set_option maxHeartbeats 1000000 in
set_option maxRecDepth 100000 in
theorem check_pump (n : Net) (A : Option Addr) (c : Nat) (w : World) (hn : n.pipes.length ≤ maxLen) (h1 : inB 1 60 n.pipes.length = true) (h2 : inB 0 10000 n.pump = false) :
    Calls Try.prog 43 #[.agg #[.int .i64 n.pump, .slice A n.pipes.length c]] w fun e w' => e = .returned (.int .i64 2) ∧ Below w.heap.size w w' := by
  unfold maxLen at hn
  go_enter Try.func43, Try.ntmps43
  go_wp2_with (go_at_call 61; refine (within_one _ _ _ _ _ _ (by go_simp; rfl) (by go_simp)).mono ?_; rintro e w' ⟨rfl, o1, o2, rfl⟩)
  go_ret
  exact ⟨rfl, (by repeat (first | exact Below.refl _ _ | (refine Below.alloc ?_ (by simp; try omega) _)))⟩
set_option maxHeartbeats 1000000 in
set_option maxRecDepth 100000 in
theorem check_first (pump : Int) (p : Pipe) (ps : List Pipe) (A : Option Addr) (c : Nat) (w : World) (lo hi : Nat) (hR : RdP w lo hi A (p :: ps)) (hhi : hi ≤ w.heap.size) (h1 : inB 1 60 (p :: ps).length = true) (h2 : inB 0 10000 pump = true) (h3 : p ≠ pump0) :
    Calls Try.prog 43 #[.agg #[.int .i64 pump, .slice A (p :: ps).length c]] w fun e w' => e = .returned (.int .i64 2) ∧ Below w.heap.size w w' := by
  obtain ⟨b, off, rfl, hb1, hb2, c0, c1, c2, c3, c4⟩ := RdP.at_ (k := 0) hR (by simp)
  simp only [List.getElem_cons_zero, Nat.zero_mul, Nat.add_zero] at c0 c1 c2 c3 c4
  have hl := inB_true h1
  generalize hL : (p :: ps).length = L at *
  have hL0 : (0 : Int) < L := by omega
  have HL := Lib.hid hL
  clear hL
  obtain ⟨l0, l1, l2, l3, l4, l5, l6, l7, l8, l9⟩ := lts (show b < w.heap.size by omega)
  have hne := neq_pipe p pump0
  rw [show (!decide (p = pump0)) = true by simp [h3]] at hne
  simp only [aggP, pump0] at hne
  clear h3
  go_enter Try.func43, Try.ntmps43
  go_wp2_with (go_at_call 61; refine (within_one _ _ _ _ _ _ (by go_simp; rfl) (by go_simp)).mono ?_; rintro e w' ⟨rfl, o1, o2, rfl⟩)
  go_goals
  go_ret
  exact ⟨rfl, (by repeat (first | exact Below.refl _ _ | (refine Below.alloc ?_ (by simp; try omega) _)))⟩

/-- The error of tubing. -/
def chk (n : Net) : Int := if netB n then 0 else 2
theorem chk_rest (pump : Int) (ps : List Pipe) (h1 : inB 1 60 (pump0 :: ps).length = true) (h2 : inB 0 10000 pump = true) (v : Bool) (hv : pipesB ps 0 = v) : chk ⟨pump, pump0 :: ps⟩ = if v then 0 else 2 := by
  subst hv; unfold chk netB; simp only [h1, h2]; simp

set_option maxHeartbeats 2000000 in
set_option maxRecDepth 100000 in
theorem check_rest (pump : Int) (ps : List Pipe) (A : Option Addr) (c : Nat) (w : World) (lo hi : Nat) (hR : RdP w lo hi A (pump0 :: ps)) (hhi : hi ≤ w.heap.size) (hc : (pump0 :: ps).length ≤ c) (h1 : inB 1 60 (pump0 :: ps).length = true) (h2 : inB 0 10000 pump = true) :
    Calls Try.prog 43 #[.agg #[.int .i64 pump, .slice A (pump0 :: ps).length c]] w fun e w' => e = .returned (.int .i64 (chk ⟨pump, pump0 :: ps⟩)) ∧ Below w.heap.size w w' := by
  have HC := Lib.hid (chk_rest pump ps h1 h2)
  obtain ⟨i5, hi5, hy0, hy1, hy2⟩ := info_parts infoPipe
  have hl := inB_true h1
  obtain ⟨A1, hA1, hsl⟩ := run_from1 (P := Try.prog) Try.underlying22 hi5 A (pump0 :: ps).length c (by omega)
  rw [hy1] at hA1
  have hR1 : RdP w lo hi A1 ps := hR.from1 hc hA1
  clear hA1 hy0 hy1 hy2 hi5 i5
  obtain ⟨b, off, rfl, hb1, hb2, c0, c1, c2, c3, c4⟩ := RdP.at_ (k := 0) hR (by simp)
  simp only [List.getElem_cons_zero, Nat.zero_mul, Nat.add_zero, pump0] at c0 c1 c2 c3 c4
  have hL1 : (pump0 :: ps).length - 1 = ps.length := by simp
  rw [hL1] at hsl
  generalize hL : (pump0 :: ps).length = L at *
  have hL0 : (0 : Int) < L := by omega
  have hps : ps.length ≤ 59 := by omega
  clear hL hL1
  obtain ⟨l0, l1, l2, l3, l4, l5, l6, l7, l8, l9⟩ := lts (show b < w.heap.size by omega)
  have hne := neq_pipe pump0 pump0
  rw [show (!decide (pump0 = pump0)) = false by simp] at hne
  simp only [aggP, pump0] at hne
  go_enter Try.func43, Try.ntmps43
  go_wp2_with (go_at_call 61; refine (within_one _ _ _ _ _ _ (by go_simp; rfl) (by go_simp)).mono ?_; rintro e w' ⟨rfl, o1, o2, rfl⟩)
  go_loopw [30] (fun i wr => ∃ k : Nat, k ≤ ps.length ∧ i = .int .i64 k ∧ pipesB (ps.take k) 0 = true ∧ Below w.heap.size w wr) (fun i _ => ps.length - (intOf i).toNat)
  case atStart => exact ⟨0, by omega, rfl, rfl, (by repeat (first | exact Below.refl _ _ | (refine Below.alloc ?_ (by simp; try omega) _)))⟩
  case round =>
    obtain ⟨k, hk, rfl, hall, hB⟩ := hrel
    have HALL := Lib.hid hall
    clear hall l0 l1 l2 l3 l4 l5 l6 l7 l8 l9 c0 c1 c2 c3 c4 hne
    have hz := hB.size
    by_cases hlt : k < ps.length
    · obtain ⟨b', off', rfl, hb1', hb2', c0, c1, c2, c3, c4⟩ := RdP.at_ (hR1.below hB hhi) hlt
      have hs := Lib.hid (pipesB_snoc ps k hlt)
      obtain ⟨l0, l1, l2, l3, l4, l5, l6, l7, l8, l9⟩ := lts (show b' < wr.heap.size by omega)
      by_cases hx : pipeB ps[k] k = true
      · have hx' := Lib.hid hx
        go_wp2_with (go_at_call 75; refine (isPipe_ ps[k] _ _).mono ?_; rintro e w1 ⟨rfl, hb⟩)
        refine ⟨⟨k + 1, by omega, by go_num, by rw [hs.out, HALL.out, hx'.out]; rfl, ?_⟩, by simp [intOf]; omega⟩
        exact (hB.alloc hz _).trans (hb.mono (by simp; omega))
      · have hx : pipeB ps[k] k = false := by simpa using hx
        have hf := Lib.hid (pipesB_false ps k hlt hx)
        go_wp2_with (go_at_call 75; refine (isPipe_ ps[k] _ _).mono ?_; rintro e w1 ⟨rfl, hb⟩)
        go_ret
        exact ⟨by rw [HC.out _ hf.out]; rfl, (hB.alloc hz _).trans (hb.mono (by simp; omega))⟩
    · obtain rfl : k = ps.length := by omega
      go_wp2
      go_ret
      have := HALL.out
      rw [List.take_length] at this
      exact ⟨by rw [HC.out _ this]; rfl, hB⟩

theorem check_ (n : Net) (A : Option Addr) (c : Nat) (w : World) (lo hi : Nat) (hR : RdP w lo hi A n.pipes) (hhi : hi ≤ w.heap.size) (hc : n.pipes.length ≤ c) (hn : n.pipes.length ≤ maxLen) :
    Calls Try.prog 43 #[.agg #[.int .i64 n.pump, .slice A n.pipes.length c]] w fun e w' => e = .returned (.int .i64 (chk n)) ∧ Below w.heap.size w w' := by
  by_cases h1 : inB 1 60 n.pipes.length = true
  · by_cases h2 : inB 0 10000 n.pump = true
    · obtain ⟨pump, pipes⟩ := n
      match pipes with
      | [] => simp [inB] at h1
      | p :: ps =>
        by_cases h3 : p = pump0
        · subst h3
          exact check_rest pump ps A c w lo hi hR hhi hc h1 h2
        · have e : chk ⟨pump, p :: ps⟩ = 2 := by unfold chk netB; simp [h3]
          rw [e]
          exact check_first pump p ps A c w lo hi hR hhi h1 h2 h3
    · have h2 : inB 0 10000 n.pump = false := by simpa using h2
      have e : chk n = 2 := by unfold chk netB; simp [h2]
      rw [e]
      exact check_pump n A c w hn h1 h2
  · have h1 : inB 1 60 n.pipes.length = false := by simpa using h1
    have e : chk n = 2 := by unfold chk netB; simp [h1]
    rw [e]
    exact check_short n A c w hn h1
end Go.Proofs.Ytepibjfmeibgcaa
/- What line.open returns, for any tubing and any nodes that can be read. -/
namespace Go.Proofs.Ytepibjfmeibgcaa
open Go.RowKit
theorem chk_ok {n : Net} (h : netB n = true) : chk n = 0 := by unfold chk; rw [h]; rfl
theorem chk_bad {n : Net} (h : netB n = false) : chk n = 2 := by unfold chk; rw [h]; rfl
theorem netB_len {n : Net} (h : netB n = true) : 1 ≤ n.pipes.length ∧ n.pipes.length ≤ 60 := by
  unfold netB at h; simp only [Bool.and_eq_true] at h; have := inB_true h.1.1.1; omega
abbrev aggN (pump : Int) (A : Option Addr) (l c : Nat) : Value := .agg #[.int .i64 pump, .slice A l c]

theorem Below.step {B : Nat} {a W w1 : World} (h : Below B a W) (hb : Below W.heap.size W w1) (hB : B ≤ W.heap.size) : Below B a w1 := h.trans (hb.mono hB)
theorem openN_step {w w1 : World} {o1 o2 : Obj} (hb : Below ((w.alloc o1).alloc o2).heap.size ((w.alloc o1).alloc o2) w1) : Below w.heap.size w w1 :=
  (((Below.refl _ _).alloc (Nat.le_refl _) _).alloc (by simp) _).trans (hb.mono (by simp; omega))

set_option maxHeartbeats 1000000 in
theorem open_arg (n : Net) (A B : Option Addr) (c d : Nat) (xs : List Int) (w : World) (lo hi : Nat) (hR : RdP w lo hi A n.pipes) (hhi : hi ≤ w.heap.size) (hc : n.pipes.length ≤ c) (hn : n.pipes.length ≤ maxLen) (hbad : netB n = false) :
    Calls Try.prog 69 #[.agg #[.int .i64 n.pump, .slice A n.pipes.length c], .slice B xs.length d] w fun e w' => e = .returned (.tuple #[.agg #[.int .i64 0, .slice none 0 0], .int .i64 2]) ∧ Below w.heap.size w w' := by
  have hck := Lib.hid (chk_bad hbad)
  go_enter Try.func69, Try.ntmps69
  go_wp2_with (go_at_call 43; refine (check_ n A c _ lo hi ((hR.alloc hhi _).alloc (by simp; omega) _) (by simp; omega) hc hn).mono ?_; rintro e w1 ⟨rfl, hb⟩; rw [hck.out]; obtain ⟨hc1, hf1, hz1⟩ := bcell hb; simp only [World.size_alloc] at hc1 hf1 hz1)
  exact bodyPost_ret (v := .tuple #[.agg #[.int .i64 0, .slice none 0 0], .int .i64 2]) (by simp [results, Try.results69, go_sem, hc1]) rfl ⟨rfl, ((openN_step hb).setCell (by simp) _).setCell (by simp) _⟩
set_option maxHeartbeats 1000000 in
theorem open_none (n : Net) (A B : Option Addr) (c d u2 h2 : Nat) (xs : List Int) (w : World) (lo hi : Nat) (hR : RdP w lo hi A n.pipes) (hhi : hi ≤ w.heap.size) (hc : n.pipes.length ≤ c) (hX : RdI w u2 h2 B xs) (hh2 : h2 ≤ w.heap.size) (hxl : xs.length ≤ maxLen)
    (hok : netB n = true) (hin : inAll 0 (n.pipes.length - 1) xs = false) :
    Calls Try.prog 69 #[.agg #[.int .i64 n.pump, .slice A n.pipes.length c], .slice B xs.length d] w fun e w' => e = .returned (.tuple #[.agg #[.int .i64 0, .slice none 0 0], .int .i64 7]) ∧ Below w.heap.size w w' := by
  have hck := Lib.hid (chk_ok hok)
  have hln := netB_len hok
  have hn : n.pipes.length ≤ maxLen := by unfold maxLen; omega
  go_enter Try.func69, Try.ntmps69
  go_wp2_with (first
    | (go_at_call 43; refine (check_ n A c _ lo hi ((hR.alloc hhi _).alloc (by simp; omega) _) (by simp; omega) hc hn).mono ?_; rintro e w1 ⟨rfl, hb⟩; rw [hck.out]; obtain ⟨hc1, hf1, hz1⟩ := bcell hb; simp only [World.size_alloc] at hc1 hf1 hz1; have hX1 := ((hX.alloc hh2 _).alloc (by simp; omega) _).below hb (by simp; omega); obtain ⟨l0, l1, l2, l3, l4, l5⟩ := lt6 (show w.heap.size + 1 < w1.heap.size by omega); obtain ⟨m0, m1, m2, m3, m4, m5⟩ := lt6 (show w.heap.size < w1.heap.size by omega))
    | (go_at_call 61; refine (within_ _ _ B d u2 h2 xs _ hX1 (by omega) hxl).mono ?_; rintro e w2 ⟨rfl, o1, o2, rfl⟩; rw [hin]))
  exact bodyPost_ret (v := .tuple #[.agg #[.int .i64 0, .slice none 0 0], .int .i64 7]) (by simp [results, Try.results69, go_sem, hc1, l0, l1]) rfl ⟨rfl, (by repeat (first | exact Below.refl _ _ | exact (openN_step hb) | assumption | (refine Below.setCell ?_ (by first | omega | (simp; done) | (simp; omega) | (simp [World.setCell]; done) | (simp [World.setCell]; omega)) _) | (refine Below.alloc ?_ (by first | omega | (simp; done) | (simp; omega) | (simp [World.setCell]; done) | (simp [World.setCell]; omega)) _) | (refine Below.drewN_ ?_ _) | (refine Below.drew ?_)))⟩
set_option maxHeartbeats 1000000 in
theorem open_ok (n : Net) (A B : Option Addr) (c d u2 h2 : Nat) (xs : List Int) (w : World) (lo hi : Nat) (hR : RdP w lo hi A n.pipes) (hhi : hi ≤ w.heap.size) (hc : n.pipes.length ≤ c) (hX : RdI w u2 h2 B xs) (hh2 : h2 ≤ w.heap.size) (hxl : xs.length ≤ maxLen)
    (hok : netB n = true) (hin : inAll 0 (n.pipes.length - 1) xs = true) :
    Calls Try.prog 69 #[.agg #[.int .i64 n.pump, .slice A n.pipes.length c], .slice B xs.length d] w fun e w' => e = .returned (.tuple #[.agg #[.int .i64 n.pump, .slice A n.pipes.length c], .int .i64 0]) ∧ Below w.heap.size w w' := by
  have hck := Lib.hid (chk_ok hok)
  have hln := netB_len hok
  have hn : n.pipes.length ≤ maxLen := by unfold maxLen; omega
  go_enter Try.func69, Try.ntmps69
  go_wp2_with (first
    | (go_at_call 43; refine (check_ n A c _ lo hi ((hR.alloc hhi _).alloc (by simp; omega) _) (by simp; omega) hc hn).mono ?_; rintro e w1 ⟨rfl, hb⟩; rw [hck.out]; obtain ⟨hc1, hf1, hz1⟩ := bcell hb; simp only [World.size_alloc] at hc1 hf1 hz1; have hX1 := ((hX.alloc hh2 _).alloc (by simp; omega) _).below hb (by simp; omega); obtain ⟨l0, l1, l2, l3, l4, l5⟩ := lt6 (show w.heap.size + 1 < w1.heap.size by omega); obtain ⟨m0, m1, m2, m3, m4, m5⟩ := lt6 (show w.heap.size < w1.heap.size by omega))
    | (go_at_call 61; refine (within_ _ _ B d u2 h2 xs _ hX1 (by omega) hxl).mono ?_; rintro e w2 ⟨rfl, o1, o2, rfl⟩; rw [hin]))
  exact bodyPost_ret (v := .tuple #[.agg #[.int .i64 n.pump, .slice A n.pipes.length c], .int .i64 0]) (by simp [results, Try.results69, go_sem, hc1, l0, l1]) rfl ⟨rfl, (by repeat (first | exact Below.refl _ _ | exact (openN_step hb) | assumption | (refine Below.setCell ?_ (by first | omega | (simp; done) | (simp; omega) | (simp [World.setCell]; done) | (simp [World.setCell]; omega)) _) | (refine Below.alloc ?_ (by first | omega | (simp; done) | (simp; omega) | (simp [World.setCell]; done) | (simp [World.setCell]; omega)) _) | (refine Below.drewN_ ?_ _) | (refine Below.drew ?_)))⟩
end Go.Proofs.Ytepibjfmeibgcaa
