/- What line.loss, line.Loss and line.pair return. -/
import Derived.Test.YtepibjfmeibgcaaWi
import Derived.Deep.RegionLaw
namespace Go.Proofs.Ytepibjfmeibgcaa
open Go.RowKit
/-- What a pipe's numbers are between, if the pipe is valid. -/
def PipeOk (p : Pipe) : Prop := 1 ≤ p.length ∧ p.length ≤ 100000 ∧ 4 ≤ p.bore ∧ p.bore ≤ 80 ∧ -10000 ≤ p.drop ∧ p.drop ≤ 10000
theorem pipeB_ok {p : Pipe} {par : Int} (h : pipeB p par = true) : PipeOk p := by
  unfold pipeB at h; simp only [Bool.and_eq_true] at h
  have h1 := inB_true h.1.1.1.2; have h2 := inB_true h.1.1.2; have h3 := inB_true h.1.2
  unfold PipeOk; omega
theorem mul_bounds {a b A B : Int} (h0 : 0 ≤ a) (h1 : a ≤ A) (h2 : 0 ≤ b) (h3 : b ≤ B) : 0 ≤ a * b ∧ a * b ≤ A * B :=
  ⟨Int.mul_nonneg h0 h2, Int.mul_le_mul h1 h3 h2 (by omega)⟩
set_option maxHeartbeats 800000 in
set_option maxRecDepth 100000 in
theorem loss_ (p : Pipe) (flow : Int) (w : World) (hp : PipeOk p) (h0 : 0 ≤ flow) (h1 : flow ≤ 60000000000) :
    Calls Try.prog 76 #[.agg #[.int .i64 p.parent, .int .i64 p.length, .int .i64 p.bore, .int .i64 p.drop, .int .i64 p.taps], .int .i64 flow] w fun e w' => e = .returned (.int .i64 (lossZ p flow)) ∧ Below w.heap.size w w' := by
  obtain ⟨l0, l1, b0, b1, d0, d1⟩ := hp
  obtain ⟨m0, m1⟩ := mul_bounds (show 0 ≤ p.length by omega) l1 h0 h1
  obtain ⟨k0, k1⟩ := mul_bounds (show 0 ≤ p.bore by omega) b1 (show 0 ≤ p.bore by omega) b1
  have k2 : 16 ≤ p.bore * p.bore := Int.le_trans (by omega) (Int.mul_le_mul b0 b0 (by omega) (by omega))
  have e : 10000 * p.bore * p.bore = 10000 * (p.bore * p.bore) := Int.mul_assoc _ _ _
  have n0 : 160000 ≤ 10000 * p.bore * p.bore := by rw [e]; omega
  have n1 : 10000 * p.bore * p.bore ≤ 64000000 := by rw [e]; omega
  have hl := Lib.hid (show lossZ p flow = lossN p flow + max 0 (-10 * p.drop) from rfl)
  have hln := Lib.hid (show lossN p flow = (p.length * flow + 10000 * p.bore * p.bore - 1) / (10000 * p.bore * p.bore) from rfl)
  clear e k0 k1 k2
  have q0 : 0 ≤ (p.length * flow + 10000 * p.bore * p.bore - 1) / (10000 * p.bore * p.bore) := Int.ediv_nonneg (by omega) (by omega)
  have q1 : (p.length * flow + 10000 * p.bore * p.bore - 1) / (10000 * p.bore * p.bore) ≤ 6000100000000000 := Int.le_trans (Int.ediv_le_self _ (by omega)) (by omega)
  by_cases hd : 0 < -10 * p.drop
  all_goals
    go_enter Try.func76, Try.ntmps76
    go_wp2_with fail
    go_quiet (fail)
    go_wp2_with fail
    go_ret
    refine ⟨ret_int ?_, (by repeat (first | exact Below.refl _ _ | exact (Below.refl _ _) | assumption | (refine Below.setCell ?_ (by first | omega | (simp; done) | (simp; omega) | (simp [World.setCell]; done) | (simp [World.setCell]; omega)) _) | (refine Below.alloc ?_ (by first | omega | (simp; done) | (simp; omega) | (simp [World.setCell]; done) | (simp [World.setCell]; omega)) _) | (refine Below.drewN_ ?_ _) | (refine Below.drew ?_)))⟩
    rw [hl.out, hln.out]
    first | omega | (simp only [Array.getD_eq_getD_getElem?]; simp; omega)
theorem lossZ_bd {p : Pipe} {flow : Int} (hp : PipeOk p) (h0 : 0 ≤ flow) (h1 : flow ≤ 60000000000) : 0 ≤ lossZ p flow ∧ lossZ p flow ≤ 6000200000000000 := by
  obtain ⟨l0, l1, b0, b1, d0, d1⟩ := hp
  obtain ⟨m0, m1⟩ := mul_bounds (show 0 ≤ p.length by omega) l1 h0 h1
  obtain ⟨k0, k1⟩ := mul_bounds (show 0 ≤ p.bore by omega) b1 (show 0 ≤ p.bore by omega) b1
  have k2 : 16 ≤ p.bore * p.bore := Int.le_trans (by omega) (Int.mul_le_mul b0 b0 (by omega) (by omega))
  have e : 10000 * p.bore * p.bore = 10000 * (p.bore * p.bore) := Int.mul_assoc _ _ _
  have q0 : 0 ≤ (p.length * flow + 10000 * p.bore * p.bore - 1) / (10000 * p.bore * p.bore) := Int.ediv_nonneg (by omega) (by omega)
  have q1 : (p.length * flow + 10000 * p.bore * p.bore - 1) / (10000 * p.bore * p.bore) ≤ 6000100000000000 := Int.le_trans (Int.ediv_le_self _ (by omega)) (by omega)
  unfold lossZ lossN
  omega

/-- What line.Loss returns. -/
def LossR (p : Pipe) (flow : Int) (e : Ending) : Prop :=
  e = .returned (.tuple #[.int .i64 (if pipeB p 60 then (if inB 0 60000000000 flow then lossZ p flow else 0) else 0), .int .i64 (if pipeB p 60 then (if inB 0 60000000000 flow then 0 else 3) else 2)])
set_option maxHeartbeats 800000 in
set_option maxRecDepth 100000 in
theorem Loss_ (p : Pipe) (flow : Int) (w : World) :
    Calls Try.prog 35 #[.agg #[.int .i64 p.parent, .int .i64 p.length, .int .i64 p.bore, .int .i64 p.drop, .int .i64 p.taps], .int .i64 flow] w fun e w' => LossR p flow e ∧ Below w.heap.size w w' := by
  by_cases hp : pipeB p 60 = true
  · by_cases hf : inB 0 60000000000 flow = true
    · have hfb := inB_true hf
      obtain ⟨f0, f1⟩ := hfb
      go_enter Try.func35, Try.ntmps35
      go_wp2_with (first
        | (go_at_call 75; refine (isPipe_ p 60 _).mono ?_; rintro e w1 ⟨rfl, hb⟩; rw [hp]; have hB1 := Below.step (B := w.heap.size) (a := w) (by repeat (first | exact Below.refl _ _ | exact (Below.refl _ _) | assumption | (refine Below.setCell ?_ (by first | omega | (simp; done) | (simp; omega) | (simp [World.setCell]; done) | (simp [World.setCell]; omega)) _) | (refine Below.alloc ?_ (by first | omega | (simp; done) | (simp; omega) | (simp [World.setCell]; done) | (simp [World.setCell]; omega)) _) | (refine Below.drewN_ ?_ _) | (refine Below.drew ?_))) hb (by first | omega | (simp; done) | (simp; omega) | (simp [World.setCell]; done) | (simp [World.setCell]; omega)); have hT := (Blk.new w 54 #[.int .i64 p.parent, .int .i64 p.length, .int .i64 p.bore, .int .i64 p.drop, .int .i64 p.taps]).below hb (by simp); have t0 := hT.cell 0; have t1 := hT.cell 1; have t2 := hT.cell 2; have t3 := hT.cell 3; have t4 := hT.cell 4; have hz1 := hb.size; simp at t0 t1 t2 t3 t4 hz1; obtain ⟨l0, l1, l2, l3, l4, l5⟩ := lt6 (show w.heap.size < w1.heap.size by omega))
        | (go_at_call 61; refine (within_one _ _ flow _ _ _ (by go_simp) (by go_simp)).mono ?_; rintro e w' ⟨rfl, o1, o2, rfl⟩; rw [hf])
        | (go_at_call 76; refine (loss_ p flow _ (pipeB_ok hp) f0 f1).mono ?_; rintro e w2 ⟨rfl, hb2⟩; have hB2 := Below.step (B := w.heap.size) (a := w) (by repeat (first | exact Below.refl _ _ | exact (Below.refl _ _) | assumption | (refine Below.setCell ?_ (by first | omega | (simp; done) | (simp; omega) | (simp [World.setCell]; done) | (simp [World.setCell]; omega)) _) | (refine Below.alloc ?_ (by first | omega | (simp; done) | (simp; omega) | (simp [World.setCell]; done) | (simp [World.setCell]; omega)) _) | (refine Below.drewN_ ?_ _) | (refine Below.drew ?_))) hb2 (by first | omega | (simp; done) | (simp; omega) | (simp [World.setCell]; done) | (simp [World.setCell]; omega))))
      go_ret2
      exact ⟨by unfold LossR; rw [hp, hf]; rfl, hB2⟩
    · have hf : inB 0 60000000000 flow = false := by simpa using hf
      go_enter Try.func35, Try.ntmps35
      go_wp2_with (first
        | (go_at_call 75; refine (isPipe_ p 60 _).mono ?_; rintro e w1 ⟨rfl, hb⟩; rw [hp]; have hB1 := Below.step (B := w.heap.size) (a := w) (by repeat (first | exact Below.refl _ _ | exact (Below.refl _ _) | assumption | (refine Below.setCell ?_ (by first | omega | (simp; done) | (simp; omega) | (simp [World.setCell]; done) | (simp [World.setCell]; omega)) _) | (refine Below.alloc ?_ (by first | omega | (simp; done) | (simp; omega) | (simp [World.setCell]; done) | (simp [World.setCell]; omega)) _) | (refine Below.drewN_ ?_ _) | (refine Below.drew ?_))) hb (by first | omega | (simp; done) | (simp; omega) | (simp [World.setCell]; done) | (simp [World.setCell]; omega)); have hz1 := hb.size; simp only [World.size_alloc] at hz1)
        | (go_at_call 61; refine (within_one _ _ flow _ _ _ (by go_simp) (by go_simp)).mono ?_; rintro e w' ⟨rfl, o1, o2, rfl⟩; rw [hf]))
      go_ret2
      exact ⟨by unfold LossR; rw [hp, hf]; rfl, (by repeat (first | exact Below.refl _ _ | exact (hB1) | assumption | (refine Below.setCell ?_ (by first | omega | (simp; done) | (simp; omega) | (simp [World.setCell]; done) | (simp [World.setCell]; omega)) _) | (refine Below.alloc ?_ (by first | omega | (simp; done) | (simp; omega) | (simp [World.setCell]; done) | (simp [World.setCell]; omega)) _) | (refine Below.drewN_ ?_ _) | (refine Below.drew ?_)))⟩
  · have hp : pipeB p 60 = false := by simpa using hp
    go_enter Try.func35, Try.ntmps35
    go_wp2_with (go_at_call 75; refine (isPipe_ p 60 _).mono ?_; rintro e w1 ⟨rfl, hb⟩; rw [hp]; have hB1 := Below.step (B := w.heap.size) (a := w) (by repeat (first | exact Below.refl _ _ | exact (Below.refl _ _) | assumption | (refine Below.setCell ?_ (by first | omega | (simp; done) | (simp; omega) | (simp [World.setCell]; done) | (simp [World.setCell]; omega)) _) | (refine Below.alloc ?_ (by first | omega | (simp; done) | (simp; omega) | (simp [World.setCell]; done) | (simp [World.setCell]; omega)) _) | (refine Below.drewN_ ?_ _) | (refine Below.drew ?_))) hb (by first | omega | (simp; done) | (simp; omega) | (simp [World.setCell]; done) | (simp [World.setCell]; omega)))
    go_ret2
    exact ⟨by unfold LossR; rw [hp]; rfl, hB1⟩
end Go.Proofs.Ytepibjfmeibgcaa
/- What line.pair returns. -/
namespace Go.Proofs.Ytepibjfmeibgcaa
open Go.RowKit
theorem ownsRow_drew {W : World} {base : Nat} {e : TypeId} {size n : Nat} {v : Value} {xs : List Value} (h : W.ownsRow base e size v n xs) : W.drew.ownsRow base e size v n xs := h
theorem ownsRow_drewN {W : World} {base : Nat} {e : TypeId} {size n : Nat} {v : Value} {xs : List Value} (h : W.ownsRow base e size v n xs) (k : Nat) : (W.drewN k).ownsRow base e size v n xs := h
/-- The ranges between two lists. -/
def pairL (a b : List Int) : List Rng := List.zipWith (fun x y => ⟨x, y⟩) a b
theorem pairL_snoc {a b : List Int} {k : Nat} (ha : k < a.length) (hb : k < b.length) : pairL (a.take (k + 1)) (b.take (k + 1)) = pairL (a.take k) (b.take k) ++ [⟨a[k], b[k]⟩] := by
  unfold pairL
  rw [List.take_succ_eq_append_getElem ha, List.take_succ_eq_append_getElem hb, List.zipWith_append (by simp; omega)]; rfl
theorem pairL_len (a b : List Int) (h : a.length = b.length) : (pairL a b).length = a.length := by unfold pairL; simp; omega
set_option maxHeartbeats 1000000 in
set_option maxRecDepth 100000 in
theorem pair_ (A B : Option Addr) (ca cb lo hi l2 h2 m : Nat) (a b : List Int) (w : World) (hA : RdI w lo hi A a) (hhi : hi ≤ w.heap.size) (hB : RdI w l2 h2 B b) (hh2 : h2 ≤ w.heap.size) (ham : a.length = m) (hbm : b.length = m) (hn : m ≤ 1000000) :
    Calls Try.prog 68 #[.slice A m ca, .slice B m cb] w fun e w' => (∃ v, e = .returned v ∧ w'.ownsRow w.heap.size 52 2 v m ((pairL a b).flatMap encR)) ∧ Below w.heap.size w w' := by
  obtain ⟨i0, ei0, ez0, ez1, ez2⟩ := info_parts infoRange
  have HA := Lib.hid ham
  have HB := Lib.hid hbm
  clear ham hbm
  go_enter Try.func68, Try.ntmps68
  go_wp2
  go_loopw [4, 8] (fun v i wr => ∃ k : Nat, k ≤ m ∧ i = .int .i64 k ∧ wr.ownsRow w.heap.size 52 2 v k ((pairL (a.take k) (b.take k)).flatMap encR) ∧ Below w.heap.size w wr) (fun _ i _ => m - (intOf i).toNat)
  case atStart => exact ⟨0, Nat.zero_le _, rfl, ⟨by simp [pairL], .inl ⟨rfl, rfl⟩⟩, Below.refl _ _⟩
  case round =>
    obtain ⟨k, hk, rfl, hrow, hBw⟩ := hrel
    have hzz := hBw.size
    by_cases hlt : k < m
    · have hka : k < a.length := by have := HA.out; omega
      have hkb : k < b.length := by have := HB.out; omega
      obtain ⟨b1, off1, rfl, _, _, c1⟩ := RdI.at_ (hA.below hBw hhi) hka
      obtain ⟨b2, off2, rfl, _, _, c2⟩ := RdI.at_ (hB.below hBw hh2) hkb
      have hsn := Lib.hid (pairL_snoc hka hkb)
      generalize a[k] = x at *
      generalize b[k] = y at *
      obtain ⟨vb, vc, rfl, hvc⟩ := ownsRow_val hrow
      go_wp2_with fail
      go_region_law ((refine step_append_rd (enc := encR) rfl (.tmp 11) (.tmp 21) _ rfl w.heap.size 52 i0 _ 2 16 Try.underlying25 ei0 ez0 ez1 ez2 rfl (by decide) _ _ _ rfl (ownsRow_drew (hrow.alloc _)) _ 1 _ 0 _ [⟨x, y⟩] rfl rfl (Rd.drew (rd_new (enc := encR) (size := 2) wr ⟨x, y⟩ 52 wr.heap.size rfl)) encR_len encR_one (by unfold maxLen; omega) (by omega) (by show w.heap.size ≤ (wr.alloc _).heap.size; rw [World.size_alloc]; omega) ?_); intro v' w' ho hg)
      all_goals
        go_wp2_with fail
        refine ⟨⟨k + 1, by omega, by go_num, by rw [hsn.out, List.flatMap_append]; exact ho, (hBw.alloc hzz _).drew.grown hg (by show w.heap.size ≤ (wr.alloc _).heap.size; rw [World.size_alloc]; omega) (fun r e => (hrow.lt r e).1)⟩, by simp [intOf]; omega⟩
    · obtain rfl : k = m := by omega
      go_wp2
      go_ret
      have h1 := HA.out; have h2 := HB.out
      rw [List.take_of_length_le (by omega), List.take_of_length_le (by omega)] at hrow
      exact ⟨⟨_, rfl, hrow⟩, hBw⟩
end Go.Proofs.Ytepibjfmeibgcaa
