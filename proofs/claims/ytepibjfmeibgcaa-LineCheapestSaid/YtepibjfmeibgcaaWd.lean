/- What line.Check and line.open return, for any tubing that can be read. -/
import Derived.Test.YtepibjfmeibgcaaWa
namespace Go.Proofs.Ytepibjfmeibgcaa
open Go.RowKit
set_option linter.unusedVariables false
theorem infoPipe : (Try.prog.info? 54).map (fun i => (i.zero, i.size, i.bytes)) = some (some (.agg #[.int .i64 0, .int .i64 0, .int .i64 0, .int .i64 0, .int .i64 0]), 5, 40) := by kernel_rfl
def encP (p : Pipe) : List Value := [I p.parent, I p.length, I p.bore, I p.drop, I p.taps]
abbrev RdP (w : World) (lo hi : Nat) (A : Option Addr) (xs : List Pipe) : Prop := Rd encP 5 w lo hi A xs
theorem RdP.at_ {w : World} {lo hi : Nat} {A : Option Addr} {xs : List Pipe} {k : Nat} (h : RdP w lo hi A xs) (hk : k < xs.length) : ∃ b off, A = some ⟨b, off, none⟩ ∧ lo ≤ b ∧ b < hi ∧
    w.cell? ⟨b, off + k * 5, none⟩ = some (.int .i64 xs[k].parent) ∧ w.cell? ⟨b, off + k * 5 + 1, none⟩ = some (.int .i64 xs[k].length) ∧ w.cell? ⟨b, off + k * 5 + 2, none⟩ = some (.int .i64 xs[k].bore) ∧
    w.cell? ⟨b, off + k * 5 + 3, none⟩ = some (.int .i64 xs[k].drop) ∧ w.cell? ⟨b, off + k * 5 + 4, none⟩ = some (.int .i64 xs[k].taps) := by
  obtain ⟨b, off, e, h1, h2, hc⟩ := Rd.at_ h hk
  exact ⟨b, off, e, h1, h2, hc 0 _ rfl, hc 1 _ rfl, hc 2 _ rfl, hc 3 _ rfl, hc 4 _ rfl⟩

abbrev aggP (p : Pipe) : Value := .agg #[.int .i64 p.parent, .int .i64 p.length, .int .i64 p.bore, .int .i64 p.drop, .int .i64 p.taps]
theorem neq_pipe (p q : Pipe) (W : World) : (binOp .neq 54 (aggP p) (aggP q)).run Try.prog W = .ok (.bool (!decide (p = q))) W := by
  obtain ⟨a1, a2, a3, a4, a5⟩ := p
  obtain ⟨b1, b2, b3, b4, b5⟩ := q
  by_cases h1 : a1 = b1 <;> by_cases h2 : a2 = b2 <;> by_cases h3 : a3 = b3 <;> by_cases h4 : a4 = b4 <;> by_cases h5 : a5 = b5 <;> go_simp <;> simp [h1, h2, h3, h4, h5]
set_option maxHeartbeats 1000000 in
set_option maxRecDepth 100000 in
theorem check_short (n : Net) (A : Option Addr) (c : Nat) (w : World) (hn : n.pipes.length ≤ maxLen) (h1 : inB 1 60 n.pipes.length = false) :
    Calls Try.prog 43 #[.agg #[.int .i64 n.pump, .slice A n.pipes.length c]] w fun e w' => e = .returned (.int .i64 2) ∧ Below w.heap.size w w' := by
  unfold maxLen at hn
  go_enter Try.func43, Try.ntmps43
  go_wp2_with (go_at_call 61; refine (within_one _ _ _ _ _ _ (by go_simp; rfl) (by go_simp)).mono ?_; rintro e w' ⟨rfl, o1, o2, rfl⟩)
  go_ret
  exact ⟨rfl, (by repeat (first | exact Below.refl _ _ | (refine Below.alloc ?_ (by simp; try omega) _)))⟩
set_option maxHeartbeats 1000000 in
set_option maxRecDepth 100000 in
theorem check_pump (n : Net) (A : Option Addr) (c : Nat) (w : World) (hn : n.pipes.length ≤ maxLen) (h1 : inB 1 60 n.pipes.length = true) (h2 : inB 0 10000 n.pump = false) :
    Calls Try.prog 43 #[.agg #[.int .i64 n.pump, .slice A n.pipes.length c]] w fun e w' => e = .returned (.int .i64 2) ∧ Below w.heap.size w w' := by
  unfold maxLen at hn
  go_enter Try.func43, Try.ntmps43
  go_wp2_with (go_at_call 61; refine (within_one _ _ _ _ _ _ (by go_simp; rfl) (by go_simp)).mono ?_; rintro e w' ⟨rfl, o1, o2, rfl⟩)
  go_ret
  exact ⟨rfl, (by repeat (first | exact Below.refl _ _ | (refine Below.alloc ?_ (by simp; try omega) _)))⟩
set_option maxHeartbeats 1000000 in
set_option maxRecDepth 100000 in
theorem check_first (pump : Int) (p : Pipe) (ps : List Pipe) (A : Option Addr) (c : Nat) (w : World) (lo hi : Nat) (hR : RdP w lo hi A (p :: ps)) (hhi : hi ≤ w.heap.size) (h1 : inB 1 60 (p :: ps).length = true) (h2 : inB 0 10000 pump = true) (h3 : p ≠ pump0) :
    Calls Try.prog 43 #[.agg #[.int .i64 pump, .slice A (p :: ps).length c]] w fun e w' => e = .returned (.int .i64 2) ∧ Below w.heap.size w w' := by
  obtain ⟨b, off, rfl, hb1, hb2, c0, c1, c2, c3, c4⟩ := RdP.at_ (k := 0) hR (by simp)
  simp only [List.getElem_cons_zero, Nat.zero_mul, Nat.add_zero] at c0 c1 c2 c3 c4
  have hl := inB_true h1
  generalize hL : (p :: ps).length = L at *
  have hL0 : (0 : Int) < L := by omega
  have HL := Lib.hid hL
  clear hL
  obtain ⟨l0, l1, l2, l3, l4, l5, l6, l7, l8, l9⟩ := lts (show b < w.heap.size by omega)
  have hne := neq_pipe p pump0
  rw [show (!decide (p = pump0)) = true by simp [h3]] at hne
  simp only [aggP, pump0] at hne
  clear h3
  go_enter Try.func43, Try.ntmps43
  go_wp2_with (go_at_call 61; refine (within_one _ _ _ _ _ _ (by go_simp; rfl) (by go_simp)).mono ?_; rintro e w' ⟨rfl, o1, o2, rfl⟩)
  go_goals
  go_ret
  exact ⟨rfl, (by repeat (first | exact Below.refl _ _ | (refine Below.alloc ?_ (by simp; try omega) _)))⟩

/-- The error of tubing. -/
def chk (n : Net) : Int := if netB n then 0 else 2
theorem chk_rest (pump : Int) (ps : List Pipe) (h1 : inB 1 60 (pump0 :: ps).length = true) (h2 : inB 0 10000 pump = true) (v : Bool) (hv : pipesB ps 0 = v) : chk ⟨pump, pump0 :: ps⟩ = if v then 0 else 2 := by
  subst hv; unfold chk netB; simp only [h1, h2]; simp

set_option maxHeartbeats 2000000 in
set_option maxRecDepth 100000 in
theorem check_rest (pump : Int) (ps : List Pipe) (A : Option Addr) (c : Nat) (w : World) (lo hi : Nat) (hR : RdP w lo hi A (pump0 :: ps)) (hhi : hi ≤ w.heap.size) (hc : (pump0 :: ps).length ≤ c) (h1 : inB 1 60 (pump0 :: ps).length = true) (h2 : inB 0 10000 pump = true) :
    Calls Try.prog 43 #[.agg #[.int .i64 pump, .slice A (pump0 :: ps).length c]] w fun e w' => e = .returned (.int .i64 (chk ⟨pump, pump0 :: ps⟩)) ∧ Below w.heap.size w w' := by
  have HC := Lib.hid (chk_rest pump ps h1 h2)
  obtain ⟨i5, hi5, hy0, hy1, hy2⟩ := info_parts infoPipe
  have hl := inB_true h1
  obtain ⟨A1, hA1, hsl⟩ := run_from1 (P := Try.prog) Try.underlying22 hi5 A (pump0 :: ps).length c (by omega)
  rw [hy1] at hA1
  have hR1 : RdP w lo hi A1 ps := hR.from1 hc hA1
  clear hA1 hy0 hy1 hy2 hi5 i5
  obtain ⟨b, off, rfl, hb1, hb2, c0, c1, c2, c3, c4⟩ := RdP.at_ (k := 0) hR (by simp)
  simp only [List.getElem_cons_zero, Nat.zero_mul, Nat.add_zero, pump0] at c0 c1 c2 c3 c4
  have hL1 : (pump0 :: ps).length - 1 = ps.length := by simp
  rw [hL1] at hsl
  generalize hL : (pump0 :: ps).length = L at *
  have hL0 : (0 : Int) < L := by omega
  have hps : ps.length ≤ 59 := by omega
  clear hL hL1
  obtain ⟨l0, l1, l2, l3, l4, l5, l6, l7, l8, l9⟩ := lts (show b < w.heap.size by omega)
  have hne := neq_pipe pump0 pump0
  rw [show (!decide (pump0 = pump0)) = false by simp] at hne
  simp only [aggP, pump0] at hne
  go_enter Try.func43, Try.ntmps43
  go_wp2_with (go_at_call 61; refine (within_one _ _ _ _ _ _ (by go_simp; rfl) (by go_simp)).mono ?_; rintro e w' ⟨rfl, o1, o2, rfl⟩)
  go_loopw [30] (fun i wr => ∃ k : Nat, k ≤ ps.length ∧ i = .int .i64 k ∧ pipesB (ps.take k) 0 = true ∧ Below w.heap.size w wr) (fun i _ => ps.length - (intOf i).toNat)
  case atStart => exact ⟨0, by omega, rfl, rfl, (by repeat (first | exact Below.refl _ _ | (refine Below.alloc ?_ (by simp; try omega) _)))⟩
  case round =>
    obtain ⟨k, hk, rfl, hall, hB⟩ := hrel
    have HALL := Lib.hid hall
    clear hall l0 l1 l2 l3 l4 l5 l6 l7 l8 l9 c0 c1 c2 c3 c4 hne
    have hz := hB.size
    by_cases hlt : k < ps.length
    · obtain ⟨b', off', rfl, hb1', hb2', c0, c1, c2, c3, c4⟩ := RdP.at_ (hR1.below hB hhi) hlt
      have hs := Lib.hid (pipesB_snoc ps k hlt)
      obtain ⟨l0, l1, l2, l3, l4, l5, l6, l7, l8, l9⟩ := lts (show b' < wr.heap.size by omega)
      by_cases hx : pipeB ps[k] k = true
      · have hx' := Lib.hid hx
        go_wp2_with (go_at_call 75; refine (isPipe_ ps[k] _ _).mono ?_; rintro e w1 ⟨rfl, hb⟩)
        refine ⟨⟨k + 1, by omega, by go_num, by rw [hs.out, HALL.out, hx'.out]; rfl, ?_⟩, by simp [intOf]; omega⟩
        exact (hB.alloc hz _).trans (hb.mono (by simp; omega))
      · have hx : pipeB ps[k] k = false := by simpa using hx
        have hf := Lib.hid (pipesB_false ps k hlt hx)
        go_wp2_with (go_at_call 75; refine (isPipe_ ps[k] _ _).mono ?_; rintro e w1 ⟨rfl, hb⟩)
        go_ret
        exact ⟨by rw [HC.out _ hf.out]; rfl, (hB.alloc hz _).trans (hb.mono (by simp; omega))⟩
    · obtain rfl : k = ps.length := by omega
      go_wp2
      go_ret
      have := HALL.out
      rw [List.take_length] at this
      exact ⟨by rw [HC.out _ this]; rfl, hB⟩

theorem check_ (n : Net) (A : Option Addr) (c : Nat) (w : World) (lo hi : Nat) (hR : RdP w lo hi A n.pipes) (hhi : hi ≤ w.heap.size) (hc : n.pipes.length ≤ c) (hn : n.pipes.length ≤ maxLen) :
    Calls Try.prog 43 #[.agg #[.int .i64 n.pump, .slice A n.pipes.length c]] w fun e w' => e = .returned (.int .i64 (chk n)) ∧ Below w.heap.size w w' := by
  by_cases h1 : inB 1 60 n.pipes.length = true
  · by_cases h2 : inB 0 10000 n.pump = true
    · obtain ⟨pump, pipes⟩ := n
      match pipes with
      | [] => simp [inB] at h1
      | p :: ps =>
        by_cases h3 : p = pump0
        · subst h3
          exact check_rest pump ps A c w lo hi hR hhi hc h1 h2
        · have e : chk ⟨pump, p :: ps⟩ = 2 := by unfold chk netB; simp [h3]
          rw [e]
          exact check_first pump p ps A c w lo hi hR hhi h1 h2 h3
    · have h2 : inB 0 10000 n.pump = false := by simpa using h2
      have e : chk n = 2 := by unfold chk netB; simp [h2]
      rw [e]
      exact check_pump n A c w hn h1 h2
  · have h1 : inB 1 60 n.pipes.length = false := by simpa using h1
    have e : chk n = 2 := by unfold chk netB; simp [h1]
    rw [e]
    exact check_short n A c w hn h1
end Go.Proofs.Ytepibjfmeibgcaa
/- What line.open returns, for any tubing and any nodes that can be read. -/
namespace Go.Proofs.Ytepibjfmeibgcaa
open Go.RowKit
theorem chk_ok {n : Net} (h : netB n = true) : chk n = 0 := by unfold chk; rw [h]; rfl
theorem chk_bad {n : Net} (h : netB n = false) : chk n = 2 := by unfold chk; rw [h]; rfl
theorem netB_len {n : Net} (h : netB n = true) : 1 ≤ n.pipes.length ∧ n.pipes.length ≤ 60 := by
  unfold netB at h; simp only [Bool.and_eq_true] at h; have := inB_true h.1.1.1; omega
abbrev aggN (pump : Int) (A : Option Addr) (l c : Nat) : Value := .agg #[.int .i64 pump, .slice A l c]

theorem Below.step {B : Nat} {a W w1 : World} (h : Below B a W) (hb : Below W.heap.size W w1) (hB : B ≤ W.heap.size) : Below B a w1 := h.trans (hb.mono hB)
theorem openN_step {w w1 : World} {o1 o2 : Obj} (hb : Below ((w.alloc o1).alloc o2).heap.size ((w.alloc o1).alloc o2) w1) : Below w.heap.size w w1 :=
  (((Below.refl _ _).alloc (Nat.le_refl _) _).alloc (by simp) _).trans (hb.mono (by simp; omega))

set_option maxHeartbeats 1000000 in
theorem open_arg (n : Net) (A B : Option Addr) (c d : Nat) (xs : List Int) (w : World) (lo hi : Nat) (hR : RdP w lo hi A n.pipes) (hhi : hi ≤ w.heap.size) (hc : n.pipes.length ≤ c) (hn : n.pipes.length ≤ maxLen) (hbad : netB n = false) :
    Calls Try.prog 69 #[.agg #[.int .i64 n.pump, .slice A n.pipes.length c], .slice B xs.length d] w fun e w' => e = .returned (.tuple #[.agg #[.int .i64 0, .slice none 0 0], .int .i64 2]) ∧ Below w.heap.size w w' := by
  have hck := Lib.hid (chk_bad hbad)
  go_enter Try.func69, Try.ntmps69
  go_wp2_with (go_at_call 43; refine (check_ n A c _ lo hi ((hR.alloc hhi _).alloc (by simp; omega) _) (by simp; omega) hc hn).mono ?_; rintro e w1 ⟨rfl, hb⟩; rw [hck.out]; obtain ⟨hc1, hf1, hz1⟩ := bcell hb; simp only [World.size_alloc] at hc1 hf1 hz1)
  exact bodyPost_ret (v := .tuple #[.agg #[.int .i64 0, .slice none 0 0], .int .i64 2]) (by simp [results, Try.results69, go_sem, hc1]) rfl ⟨rfl, ((openN_step hb).setCell (by simp) _).setCell (by simp) _⟩
set_option maxHeartbeats 1000000 in
theorem open_none (n : Net) (A B : Option Addr) (c d u2 h2 : Nat) (xs : List Int) (w : World) (lo hi : Nat) (hR : RdP w lo hi A n.pipes) (hhi : hi ≤ w.heap.size) (hc : n.pipes.length ≤ c) (hX : RdI w u2 h2 B xs) (hh2 : h2 ≤ w.heap.size) (hxl : xs.length ≤ maxLen)
    (hok : netB n = true) (hin : inAll 0 (n.pipes.length - 1) xs = false) :
    Calls Try.prog 69 #[.agg #[.int .i64 n.pump, .slice A n.pipes.length c], .slice B xs.length d] w fun e w' => e = .returned (.tuple #[.agg #[.int .i64 0, .slice none 0 0], .int .i64 7]) ∧ Below w.heap.size w w' := by
  have hck := Lib.hid (chk_ok hok)
  have hln := netB_len hok
  have hn : n.pipes.length ≤ maxLen := by unfold maxLen; omega
  go_enter Try.func69, Try.ntmps69
  go_wp2_with (first
    | (go_at_call 43; refine (check_ n A c _ lo hi ((hR.alloc hhi _).alloc (by simp; omega) _) (by simp; omega) hc hn).mono ?_; rintro e w1 ⟨rfl, hb⟩; rw [hck.out]; obtain ⟨hc1, hf1, hz1⟩ := bcell hb; simp only [World.size_alloc] at hc1 hf1 hz1; have hX1 := ((hX.alloc hh2 _).alloc (by simp; omega) _).below hb (by simp; omega); obtain ⟨l0, l1, l2, l3, l4, l5⟩ := lt6 (show w.heap.size + 1 < w1.heap.size by omega); obtain ⟨m0, m1, m2, m3, m4, m5⟩ := lt6 (show w.heap.size < w1.heap.size by omega))
    | (go_at_call 61; refine (within_ _ _ B d u2 h2 xs _ hX1 (by omega) hxl).mono ?_; rintro e w2 ⟨rfl, o1, o2, rfl⟩; rw [hin]))
  exact bodyPost_ret (v := .tuple #[.agg #[.int .i64 0, .slice none 0 0], .int .i64 7]) (by simp [results, Try.results69, go_sem, hc1, l0, l1]) rfl ⟨rfl, (by repeat (first | exact Below.refl _ _ | exact (openN_step hb) | assumption | (refine Below.setCell ?_ (by first | omega | (simp; done) | (simp; omega) | (simp [World.setCell]; done) | (simp [World.setCell]; omega)) _) | (refine Below.alloc ?_ (by first | omega | (simp; done) | (simp; omega) | (simp [World.setCell]; done) | (simp [World.setCell]; omega)) _) | (refine Below.drewN_ ?_ _) | (refine Below.drew ?_)))⟩
set_option maxHeartbeats 1000000 in
theorem open_ok (n : Net) (A B : Option Addr) (c d u2 h2 : Nat) (xs : List Int) (w : World) (lo hi : Nat) (hR : RdP w lo hi A n.pipes) (hhi : hi ≤ w.heap.size) (hc : n.pipes.length ≤ c) (hX : RdI w u2 h2 B xs) (hh2 : h2 ≤ w.heap.size) (hxl : xs.length ≤ maxLen)
    (hok : netB n = true) (hin : inAll 0 (n.pipes.length - 1) xs = true) :
    Calls Try.prog 69 #[.agg #[.int .i64 n.pump, .slice A n.pipes.length c], .slice B xs.length d] w fun e w' => e = .returned (.tuple #[.agg #[.int .i64 n.pump, .slice A n.pipes.length c], .int .i64 0]) ∧ Below w.heap.size w w' := by
  have hck := Lib.hid (chk_ok hok)
  have hln := netB_len hok
  have hn : n.pipes.length ≤ maxLen := by unfold maxLen; omega
  go_enter Try.func69, Try.ntmps69
  go_wp2_with (first
    | (go_at_call 43; refine (check_ n A c _ lo hi ((hR.alloc hhi _).alloc (by simp; omega) _) (by simp; omega) hc hn).mono ?_; rintro e w1 ⟨rfl, hb⟩; rw [hck.out]; obtain ⟨hc1, hf1, hz1⟩ := bcell hb; simp only [World.size_alloc] at hc1 hf1 hz1; have hX1 := ((hX.alloc hh2 _).alloc (by simp; omega) _).below hb (by simp; omega); obtain ⟨l0, l1, l2, l3, l4, l5⟩ := lt6 (show w.heap.size + 1 < w1.heap.size by omega); obtain ⟨m0, m1, m2, m3, m4, m5⟩ := lt6 (show w.heap.size < w1.heap.size by omega))
    | (go_at_call 61; refine (within_ _ _ B d u2 h2 xs _ hX1 (by omega) hxl).mono ?_; rintro e w2 ⟨rfl, o1, o2, rfl⟩; rw [hin]))
  exact bodyPost_ret (v := .tuple #[.agg #[.int .i64 n.pump, .slice A n.pipes.length c], .int .i64 0]) (by simp [results, Try.results69, go_sem, hc1, l0, l1]) rfl ⟨rfl, (by repeat (first | exact Below.refl _ _ | exact (openN_step hb) | assumption | (refine Below.setCell ?_ (by first | omega | (simp; done) | (simp; omega) | (simp [World.setCell]; done) | (simp [World.setCell]; omega)) _) | (refine Below.alloc ?_ (by first | omega | (simp; done) | (simp; omega) | (simp [World.setCell]; done) | (simp [World.setCell]; omega)) _) | (refine Below.drewN_ ?_ _) | (refine Below.drew ?_)))⟩
end Go.Proofs.Ytepibjfmeibgcaa
/- What line.Heights returns, for any tubing that can be read. -/
namespace Go.Proofs.Ytepibjfmeibgcaa
open Go.RowKit
/-- The pair of a new list of ints and an error. -/
def RetI (base : Nat) (e : Ending) (w' : World) (xs : List Int) (err : Int) : Prop :=
  ∃ B cap, e = .returned (.tuple #[.slice B xs.length cap, .int .i64 err]) ∧ xs.length ≤ cap ∧ RdI w' base w'.heap.size B xs

theorem RetI.mk {base : Nat} {e : Ending} {w' : World} {xs : List Int} {err : Int} {B : Option Addr} {l cap : Nat} (he : e = .returned (.tuple #[.slice B l cap, .int .i64 err])) (hl : xs.length = l) (hc : l ≤ cap) (hr : RdI w' base w'.heap.size B xs) : RetI base e w' xs err :=
  ⟨B, cap, by rw [hl]; exact he, by omega, hr⟩

/-- What the row of heights holds after k rounds. -/
def hRow (ps : List Pipe) (k : Nat) : List Int := hts ((ps.drop 1).take k) [0] ++ List.replicate (ps.length - 1 - k) 0
theorem hRow_len (ps : List Pipe) (k : Nat) (hk : k ≤ ps.length - 1) (h1 : 1 ≤ ps.length) : (hRow ps k).length = ps.length := by
  simp only [hRow, List.length_append, hts_length, List.length_take, List.length_drop, List.length_replicate, List.length_cons, List.length_nil]; omega
theorem hrep (n : Nat) (h1 : 1 ≤ n) : (0 : Int) :: List.replicate (n - 1) 0 = List.replicate n 0 := by
  obtain ⟨m, rfl⟩ : ∃ m, n = m + 1 := ⟨n - 1, by omega⟩
  rfl
theorem set_app {l m : List Int} {x y : Int} {k : Nat} (h : k = l.length) : (l ++ x :: m).set k y = (l ++ [y]) ++ m := by
  subst h; simp
theorem getD_app {l m : List Int} {k : Nat} (h : k < l.length) : (l ++ m).getD k 0 = l.getD k 0 := by
  simp [List.getElem?_append_left h]
theorem hRow_set (ps : List Pipe) (k : Nat) (p : Pipe) (hk : k < ps.length - 1) (hp : ps[k + 1]? = some p) (hpar : p.parent.toNat ≤ k) :
    (hRow ps k).set (k + 1) ((hRow ps k).getD p.parent.toNat 0 + p.drop) = hRow ps (k + 1) := by
  have hl : (hts ((ps.drop 1).take k) [0]).length = k + 1 := by simp only [hts_length, List.length_take, List.length_drop, List.length_cons, List.length_nil]; omega
  have hd : k < (ps.drop 1).length := by rw [List.length_drop]; omega
  have hg : (ps.drop 1)[k] = p := by
    have : (ps.drop 1)[k]? = some p := by rw [List.getElem?_drop, Nat.add_comm]; exact hp
    rw [List.getElem?_eq_getElem hd] at this; exact Option.some.inj this
  have hr : List.replicate (ps.length - 1 - k) (0 : Int) = 0 :: List.replicate (ps.length - 1 - (k + 1)) 0 := by
    obtain ⟨m, hm⟩ : ∃ m, ps.length - 1 - k = m + 1 := ⟨ps.length - 1 - k - 1, by omega⟩
    have : ps.length - 1 - (k + 1) = m := by omega
    rw [hm, this]; rfl
  unfold hRow
  rw [getD_app (by omega), hr, set_app (by omega), List.take_succ_eq_append_getElem hd, hts_snoc, hg]
theorem hRow_bd (ps : List Pipe) (k : Nat) (hv : Ord ps) (hn : ps.length ≤ 60) (h1 : 1 ≤ ps.length) (i : Nat) : -600000 ≤ (hRow ps k).getD i 0 ∧ (hRow ps k).getD i 0 ≤ 600000 := by
  have hb := hts_bound ((ps.drop 1).take k) 10000 (by omega) [0] 0 (by omega) (by simp) (fun p hp => by
    obtain ⟨j, hj⟩ := List.mem_iff_getElem?.1 (List.mem_of_mem_take hp)
    rw [List.getElem?_drop, Nat.add_comm] at hj
    have := hv j p hj
    omega)
  have hl : ((ps.drop 1).take k).length ≤ 59 := by simp only [List.length_take, List.length_drop]; omega
  rw [List.getD_eq_getElem?_getD]
  cases hg : (hRow ps k)[i]? with
  | none => simp
  | some x =>
    have hm : x ∈ hRow ps k := List.mem_of_getElem? hg
    unfold hRow at hm
    rw [List.mem_append] at hm
    rcases hm with hm | hm
    · have := hb x hm; simp only [Option.getD_some]; omega
    · have := List.eq_of_mem_replicate hm; simp [this]

set_option maxHeartbeats 400000 in
set_option maxRecDepth 100000 in
theorem heights_ (pump : Int) (A : Option Addr) (c : Nat) (ps : List Pipe) (w : World) (lo hi : Nat) (hR : RdP w lo hi A ps) (hhi : hi ≤ w.heap.size) (hn : ps.length ≤ 60) (h1 : 1 ≤ ps.length) (hc : ps.length ≤ c) (hv : Ord ps) :
    Calls Try.prog 72 #[.agg #[.int .i64 pump, .slice A ps.length c]] w fun e w' => e = .returned (.slice (some ⟨w.heap.size + 1, 0, none⟩) ps.length ps.length) ∧ Blk w' (w.heap.size + 1) 3 ((heightsL ps).map I).toArray ∧ Below w.heap.size w w' := by
  obtain ⟨i0, hi0, hz0, hz1, hz2⟩ := info_parts infoInt
  obtain ⟨i5, hi5, hy0, hy1, hy2⟩ := info_parts infoPipe
  obtain ⟨A1, hA1, hsl⟩ := run_from1 (P := Try.prog) Try.underlying22 hi5 A ps.length c h1
  rw [hy1] at hA1
  have hR1 := hR.from1 hc hA1
  have hmk := run_make_ints (P := Try.prog) Try.underlying31 hi0 hz0 hz1 hz2 ps.length (by omega)
  clear hA1 hy0 hy1 hy2 hi5 hi0 hz0 hz1 hz2
  go_enter Try.func72, Try.ntmps72
  go_wp2_with fail
  go_loopw [16] (fun i wr => ∃ k : Nat, k ≤ ps.length - 1 ∧ i = .int .i64 k ∧ Blk wr (w.heap.size + 1) 3 ((hRow ps k).map I).toArray ∧ Below w.heap.size w wr ∧ w.heap.size + 1 < wr.heap.size) (fun i _ => ps.length - 1 - (intOf i).toNat)
  case atStart => exact ⟨0, by omega, rfl, by simpa [hRow, hts, hrep ps.length h1] using Blk.new (w.alloc _) 3 _, ((Below.refl _ _).alloc (Nat.le_refl _) _).alloc (by simp) _, by simp⟩
  case round =>
    obtain ⟨k, hk, rfl, hblk, hB, hz⟩ := hrel
    by_cases hlt : k < ps.length - 1
    · have hk1 : k < (ps.drop 1).length := by rw [List.length_drop]; omega
      obtain ⟨b, off, rfl, hb1, hb2, c0, c1, c2, c3, c4⟩ := RdP.at_ (hR1.below hB hhi) hk1
      generalize hx : (ps.drop 1)[k] = x at *
      have hxi : ps[k + 1]? = some x := by
        have h := List.getElem?_eq_getElem hk1
        rw [hx, List.getElem?_drop, Nat.add_comm] at h
        exact h
      clear hx
      obtain ⟨p0, p1, p2, p3⟩ := hv k x hxi
      have hset := Lib.hid (hRow_set ps k x hlt hxi (by omega))
      have hlen := hRow_len ps k hk h1
      have p4 : x.parent < (ps.length : Int) := by omega
      have p5 : (k : Int) + 1 < ps.length := by omega
      have g0 : wr.cell? ⟨w.heap.size + 1, x.parent.toNat, none⟩ = some (.int .i64 ((hRow ps k).getD x.parent.toNat 0)) := by
        rw [hblk.cell]; simp [List.getElem?_eq_getElem (show x.parent.toNat < (hRow ps k).length by omega)]
      have g1 : wr.cell? ⟨w.heap.size + 1, k + 1, none⟩ = some (.int .i64 ((hRow ps k).getD (k + 1) 0)) := by
        rw [hblk.cell]; simp [List.getElem?_eq_getElem (show k + 1 < (hRow ps k).length by omega)]
      have g2 := hblk.frozen (k + 1)
      obtain ⟨q1, q2⟩ := hRow_bd ps k hv hn h1 x.parent.toNat
      generalize (hRow ps k).getD x.parent.toNat 0 = hp at *
      generalize (hRow ps k).getD (k + 1) 0 = h' at *
      clear hxi hlen
      go_wp2_with fail
      go_region
      go_wp2_with fail
      refine ⟨⟨k + 1, by omega, by go_num, ?_, ?_, ?_⟩, by simp [intOf]; omega⟩
      · rw [← hset.out, List.map_set, ← List.setIfInBounds_toArray]
        exact ((hblk.set_ (k + 1) _).alloc _).drew
      · exact ((hB.setCell (by simp) _).alloc (by simp [World.setCell]; omega) _).drew
      · simp [World.setCell]; omega
    · obtain rfl : k = ps.length - 1 := by omega
      go_wp2_with fail
      go_ret
      refine ⟨rfl, ?_, hB⟩
      simpa [hRow, heightsL, List.take_of_length_le] using hblk

theorem netB_ord {n : Net} (h : netB n = true) : Ord n.pipes := by
  unfold netB at h; simp only [Bool.and_eq_true] at h
  intro i p hp
  have hi : i < (n.pipes.drop 1).length := by
    rw [List.length_drop]; have := (List.getElem?_eq_some_iff.1 hp).1; omega
  have hg : (n.pipes.drop 1)[i] = p := by
    have : (n.pipes.drop 1)[i]? = some p := by rw [List.getElem?_drop, Nat.add_comm]; exact hp
    rw [List.getElem?_eq_getElem hi] at this; exact Option.some.inj this
  have hb : pipeB p i = true := by
    cases hb : pipeB p i with
    | true => rfl
    | false => rw [← hg] at hb; have := pipesB_false _ i hi hb; rw [this] at h; simp at h
  unfold pipeB at hb; simp only [Bool.and_eq_true] at hb
  have := inB_true hb.1.1.1.1; have := inB_true hb.1.2; omega
theorem heightsL_len (ps : List Pipe) (h : 1 ≤ ps.length) : (heightsL ps).length = ps.length := by
  unfold heightsL; rw [hts_length, List.length_drop]; simp; omega

set_option maxHeartbeats 800000 in
set_option maxRecDepth 100000 in
theorem Heights_bad (n : Net) (A : Option Addr) (c : Nat) (w : World) (lo hi : Nat) (hR : RdP w lo hi A n.pipes) (hhi : hi ≤ w.heap.size) (hc : n.pipes.length ≤ c) (hn : n.pipes.length ≤ maxLen) (hbad : netB n = false) :
    Calls Try.prog 30 #[.agg #[.int .i64 n.pump, .slice A n.pipes.length c]] w fun e w' => RetI w.heap.size e w' [] 2 ∧ Below w.heap.size w w' := by
  go_enter Try.func30, Try.ntmps30
  go_wp2_with (go_at_call 69; refine (open_arg n A none c 0 [] _ lo hi (hR.alloc hhi _) (by simp; omega) hc hn hbad).mono ?_; rintro e w1 ⟨rfl, hb⟩; obtain ⟨hc1, hf1, hz1⟩ := bcell hb; have hB1 := Below.step (B := w.heap.size) (a := w) (by repeat (first | exact Below.refl _ _ | exact (Below.refl _ _) | assumption | (refine Below.setCell ?_ (by first | omega | (simp; done) | (simp; omega) | (simp [World.setCell]; done) | (simp [World.setCell]; omega)) _) | (refine Below.alloc ?_ (by first | omega | (simp; done) | (simp; omega) | (simp [World.setCell]; done) | (simp [World.setCell]; omega)) _) | (refine Below.drewN_ ?_ _) | (refine Below.drew ?_))) hb (by first | omega | (simp; done) | (simp; omega) | (simp [World.setCell]; done) | (simp [World.setCell]; omega)); simp only [World.size_alloc] at hc1 hf1 hz1)
  go_ret2
  exact ⟨RetI.mk rfl rfl (Nat.le_refl _) Rd.nil, (by repeat (first | exact Below.refl _ _ | exact (Below.refl _ _) | assumption | (refine Below.setCell ?_ (by first | omega | (simp; done) | (simp; omega) | (simp [World.setCell]; done) | (simp [World.setCell]; omega)) _) | (refine Below.alloc ?_ (by first | omega | (simp; done) | (simp; omega) | (simp [World.setCell]; done) | (simp [World.setCell]; omega)) _) | (refine Below.drewN_ ?_ _) | (refine Below.drew ?_)))⟩
set_option maxHeartbeats 800000 in
set_option maxRecDepth 100000 in
theorem Heights_ok (n : Net) (A : Option Addr) (c : Nat) (w : World) (lo hi : Nat) (hR : RdP w lo hi A n.pipes) (hhi : hi ≤ w.heap.size) (hc : n.pipes.length ≤ c) (hok : netB n = true) :
    Calls Try.prog 30 #[.agg #[.int .i64 n.pump, .slice A n.pipes.length c]] w fun e w' => RetI w.heap.size e w' (heightsL n.pipes) 0 ∧ Below w.heap.size w w' := by
  have hln := netB_len hok
  have ho := netB_ord hok
  have hl := Lib.hid (heightsL_len n.pipes hln.1)
  go_enter Try.func30, Try.ntmps30
  go_wp2_with (first
    | (go_at_call 69; refine (open_ok n A none c 0 0 0 [] _ lo hi (hR.alloc hhi _) (by simp; omega) hc Rd.nil (Nat.zero_le _) (by simp) hok rfl).mono ?_; rintro e w1 ⟨rfl, hb⟩; obtain ⟨hc1, hf1, hz1⟩ := bcell hb; have hB1 := Below.step (B := w.heap.size) (a := w) (by repeat (first | exact Below.refl _ _ | exact (Below.refl _ _) | assumption | (refine Below.setCell ?_ (by first | omega | (simp; done) | (simp; omega) | (simp [World.setCell]; done) | (simp [World.setCell]; omega)) _) | (refine Below.alloc ?_ (by first | omega | (simp; done) | (simp; omega) | (simp [World.setCell]; done) | (simp [World.setCell]; omega)) _) | (refine Below.drewN_ ?_ _) | (refine Below.drew ?_))) hb (by first | omega | (simp; done) | (simp; omega) | (simp [World.setCell]; done) | (simp [World.setCell]; omega)); simp only [World.size_alloc] at hc1 hf1 hz1; have hR1 := (hR.alloc hhi _).below hb (by simp; omega))
    | (go_at_call 72; refine (heights_ n.pump A c n.pipes _ lo hi (hR1.alloc (by omega) _) (by simp; omega) hln.2 hln.1 hc ho).mono ?_; rintro e w2 ⟨rfl, hblk, hb2⟩; have hB2 := Below.step (B := w.heap.size) (a := w) (by repeat (first | exact Below.refl _ _ | exact (Below.refl _ _) | assumption | (refine Below.setCell ?_ (by first | omega | (simp; done) | (simp; omega) | (simp [World.setCell]; done) | (simp [World.setCell]; omega)) _) | (refine Below.alloc ?_ (by first | omega | (simp; done) | (simp; omega) | (simp [World.setCell]; done) | (simp [World.setCell]; omega)) _) | (refine Below.drewN_ ?_ _) | (refine Below.drew ?_))) hb2 (by first | omega | (simp; done) | (simp; omega) | (simp [World.setCell]; done) | (simp [World.setCell]; omega)); simp only [World.size_alloc] at hblk))
  go_ret2
  exact ⟨RetI.mk (base := w.heap.size) rfl hl.out (Nat.le_refl _) (hblk.rdI (by omega) hblk.lt), hB2⟩
end Go.Proofs.Ytepibjfmeibgcaa
