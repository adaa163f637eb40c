/- What the references' Floor, Ceil, Loss and has return. -/
import Derived.Test.YtepibjfmeibgcaaRc
import Derived.Test.YtepibjfmeibgcaaRl
namespace Go.Proofs.Ytepibjfmeibgcaa
open Go.RowKit
set_option linter.unusedVariables false
theorem tdiv_floor (a : Int) {b : Int} (hb : 0 < b) : a / b = if a.tmod b < 0 then a.tdiv b - 1 else a.tdiv b := by
  have h1 := Int.mul_tdiv_add_tmod a b
  have h2 := Int.tmod_lt_of_pos a hb
  have h3 := Int.tmod_lt_of_pos (-a) hb
  rw [Int.neg_tmod] at h3
  generalize a.tdiv b = q at *
  generalize a.tmod b = r at *
  split
  · exact ((Int.ediv_emod_unique (r := r + b) (q := q - 1) hb).2 ⟨by rw [Int.mul_sub]; omega, by omega, by omega⟩).1
  · exact ((Int.ediv_emod_unique (r := r) (q := q) hb).2 ⟨by omega, by omega, by omega⟩).1
theorem ceil_up (x : Int) {y : Int} (hy : 0 < y) : -((-x) / y) = (x + y - 1) / y := by
  have h1 := Int.mul_ediv_add_emod (-x) y
  have h2 := Int.emod_nonneg (-x) (show y ≠ 0 by omega)
  have h3 := Int.emod_lt_of_pos (-x) hy
  generalize (-x) / y = q at *
  generalize (-x) % y = r at *
  exact (((Int.ediv_emod_unique (r := y - 1 - r) (q := -q) hy).2 ⟨by rw [Int.mul_neg]; omega, by omega, by omega⟩).1).symm
theorem tdiv_bd {x y : Int} (hy : 1 ≤ y) (h : -8000000000000000 ≤ x ∧ x ≤ 8000000000000000) : -8000000000000000 ≤ x.tdiv y ∧ x.tdiv y ≤ 8000000000000000 := by
  have h1 := tdiv_floor x (show 0 < y by omega)
  have h2 : x / y ≤ 8000000000000000 := by
    rcases Int.le_total 0 x with h0 | h0
    · exact Int.le_trans (Int.ediv_le_self _ h0) h.2
    · have : x / y ≤ 0 := by
        have hh : x / y < 1 := Int.ediv_lt_of_lt_mul (by omega) (by omega)
        omega
      omega
  have h3 : -8000000000000000 ≤ x / y := by
    apply Int.le_ediv_of_mul_le (by omega)
    have : 8000000000000000 ≤ 8000000000000000 * y := by omega
    omega
  have h4 := Int.mul_tdiv_add_tmod x y
  by_cases hr : x.tmod y < 0
  · rw [if_pos hr] at h1
    have : x ≤ 0 := by
      rcases Int.le_total x 0 with h0 | h0
      · exact h0
      · have := Int.tmod_nonneg y h0; omega
    have h5 := Int.tdiv_nonneg (show 0 ≤ -x by omega) (show 0 ≤ y by omega)
    rw [Int.neg_tdiv] at h5
    omega
  · rw [if_neg hr] at h1; omega
set_option maxHeartbeats 800000 in
set_option maxRecDepth 100000 in
theorem refFloor_ (x y : Int) (w : World) (hx : -8000000000000000 ≤ x ∧ x ≤ 8000000000000000) (hy : 1 ≤ y ∧ y ≤ 64000000) :
    Calls Try.prog 98 #[.int .i64 x, .int .i64 y] w fun e w' => e = .returned (.int .i64 (x / y)) ∧ w = w' := by
  obtain ⟨x0, x1⟩ := hx
  obtain ⟨y0, y1⟩ := hy
  have hb := tdiv_bd y0 ⟨x0, x1⟩
  obtain ⟨b0, b1⟩ := hb
  have HF := Lib.hid (tdiv_floor x (show 0 < y by omega))
  have hyn : (y == 0) = false := by simp; omega
  by_cases hr : x.tmod y < 0
  · go_enter Try.func98, Try.ntmps98
    go_wp2
    go_ret
    exact ⟨ret_int (by rw [HF.out, if_pos hr]), rfl⟩
  · have HR := Lib.hid hr
    go_enter Try.func98, Try.ntmps98
    go_wp2
    go_ret
    exact ⟨ret_int (by rw [HF.out, if_neg (Int.not_lt.2 HR.out)]), rfl⟩
set_option maxHeartbeats 800000 in
set_option maxRecDepth 100000 in
theorem refCeil_ (x y : Int) (w : World) (hx : 0 ≤ x ∧ x ≤ 6000000000000000) (hy : 1 ≤ y ∧ y ≤ 64000000) :
    Calls Try.prog 77 #[.int .i64 x, .int .i64 y] w fun e w' => e = .returned (.int .i64 ((x + y - 1) / y)) ∧ w = w' := by
  obtain ⟨x0, x1⟩ := hx
  have hc := ceil_up x (show 0 < y by omega)
  have q0 : 0 ≤ (x + y - 1) / y := Int.ediv_nonneg (by omega) (by omega)
  have q1 : (x + y - 1) / y ≤ 6000100000000000 := Int.le_trans (Int.ediv_le_self _ (by omega)) (by omega)
  have HC := Lib.hid hc
  have m0 : -6000100000000000 ≤ -x / y := by omega
  have m1 : -x / y ≤ 0 := by omega
  clear hc q0 q1
  go_enter Try.func77, Try.ntmps77
  go_wp2_with (go_at_call 98; refine (refFloor_ _ _ _ (by omega) hy).mono ?_; rintro e w1 ⟨rfl, rfl⟩)
  go_ret
  exact ⟨ret_int (by rw [← HC.out]), rfl⟩
set_option maxHeartbeats 800000 in
set_option maxRecDepth 100000 in
theorem rhas_ (A : Option Addr) (c lo hi : Nat) (zs : List Int) (x : Int) (w : World) (hR : RdI w lo hi A zs) (hn : zs.length ≤ 1000000000) :
    Calls Try.prog 99 #[.slice A zs.length c, .int .i64 x] w fun e w' => e = .returned (.bool (memB zs x)) ∧ w = w' := by
  go_enter Try.func99, Try.ntmps99
  go_wp2
  go_loop [5] (fun i => ∃ k : Nat, k ≤ zs.length ∧ i = .int .i64 k ∧ memB (zs.take k) x = false) (fun i => zs.length - (intOf i).toNat)
  case atStart => exact ⟨0, by omega, rfl, rfl⟩
  case round =>
    obtain ⟨k, hk, rfl, hm⟩ := hrel
    have HM := Lib.hid hm
    clear hm
    by_cases hlt : k < zs.length
    · obtain ⟨b1, o1, rfl, _, _, cw⟩ := RdI.at_ hR hlt
      have hkl : (k : Int) < (zs.length : Int) := by omega
      by_cases he : zs[k] = x
      · have hbe : (zs[k] == x) = true := by simp [he]
        have hmem := Lib.hid (show memB zs x = true from he ▸ memB_at hlt)
        clear he
        go_wp2
        go_ret
        exact ⟨ret_bool (by rw [hmem.out]), rfl⟩
      · have hbe : (zs[k] == x) = false := by simp [he]
        have hsn := Lib.hid (memB_snoc hlt HM.out (Ne.symm he))
        clear he
        go_wp2
        exact ⟨⟨k + 1, by omega, by go_num, hsn.out⟩, by simp [intOf]; omega⟩
    · obtain rfl : k = zs.length := by omega
      go_wp2
      go_ret
      have := HM.out
      rw [List.take_length] at this
      exact ⟨ret_bool (by rw [this]), rfl⟩
set_option maxHeartbeats 1000000 in
set_option maxRecDepth 100000 in
theorem refLoss_ (p : Pipe) (flow : Int) (w : World) (hp : PipeOk p) (h0 : 0 ≤ flow) (h1 : flow ≤ 60000000000) :
    Calls Try.prog 39 #[.agg #[.int .i64 p.parent, .int .i64 p.length, .int .i64 p.bore, .int .i64 p.drop, .int .i64 p.taps], .int .i64 flow] w fun e w' => e = .returned (.int .i64 (lossZ p flow)) ∧ Below w.heap.size w w' := by
  obtain ⟨l0, l1, b0, b1, d0, d1⟩ := hp
  obtain ⟨m0, m1⟩ := mul_bounds (show 0 ≤ p.length by omega) l1 h0 h1
  obtain ⟨k0, k1⟩ := mul_bounds (show 0 ≤ p.bore by omega) b1 (show 0 ≤ p.bore by omega) b1
  have k2 : 16 ≤ p.bore * p.bore := Int.le_trans (by omega) (Int.mul_le_mul b0 b0 (by omega) (by omega))
  have e : 10000 * p.bore * p.bore = 10000 * (p.bore * p.bore) := Int.mul_assoc _ _ _
  have n0 : 160000 ≤ 10000 * p.bore * p.bore := by rw [e]; omega
  have n1 : 10000 * p.bore * p.bore ≤ 64000000 := by rw [e]; omega
  have hl := Lib.hid (show lossZ p flow = lossN p flow + max 0 (-10 * p.drop) from rfl)
  have hln := Lib.hid (show lossN p flow = (p.length * flow + 10000 * p.bore * p.bore - 1) / (10000 * p.bore * p.bore) from rfl)
  clear e k0 k1 k2
  have q0 : 0 ≤ (p.length * flow + 10000 * p.bore * p.bore - 1) / (10000 * p.bore * p.bore) := Int.ediv_nonneg (by omega) (by omega)
  have q1 : (p.length * flow + 10000 * p.bore * p.bore - 1) / (10000 * p.bore * p.bore) ≤ 6000100000000000 := Int.le_trans (Int.ediv_le_self _ (by omega)) (by omega)
  have hT := Blk.new w 54 #[.int .i64 p.parent, .int .i64 p.length, .int .i64 p.bore, .int .i64 p.drop, .int .i64 p.taps]
  have hB0 : Below w.heap.size w (w.alloc (.cells #[.int .i64 p.parent, .int .i64 p.length, .int .i64 p.bore, .int .i64 p.drop, .int .i64 p.taps] 54)) := (by repeat (first | exact Below.refl _ _ | exact (Below.refl _ _) | assumption | (refine Below.setCell ?_ (by first | omega | (simp; done) | (simp; omega) | (simp [World.setCell]; done) | (simp [World.setCell]; omega)) _) | (refine Below.alloc ?_ (by first | omega | (simp; done) | (simp; omega) | (simp [World.setCell]; done) | (simp [World.setCell]; omega)) _) | (refine Below.drewN_ ?_ _) | (refine Below.drew ?_)))
  have keepC : ∀ V : World, Below (w.heap.size + 1) (w.alloc (.cells #[.int .i64 p.parent, .int .i64 p.length, .int .i64 p.bore, .int .i64 p.drop, .int .i64 p.taps] 54)) V → V.cell? ⟨w.heap.size, 1, none⟩ = some (.int .i64 p.length) ∧ V.cell? ⟨w.heap.size, 2, none⟩ = some (.int .i64 p.bore) ∧ V.cell? ⟨w.heap.size, 3, none⟩ = some (.int .i64 p.drop) :=
    fun V hV => ⟨(hT.below hV (by omega)).cell 1, (hT.below hV (by omega)).cell 2, (hT.below hV (by omega)).cell 3⟩
  have HK := Lib.hid keepC
  clear keepC
  have W1 := IntWalk.i64_in (p.length * flow) (by omega)
  have W2 : IntKind.i64.wrap (IntKind.i64.wrap (10000 * p.bore) * p.bore) = 10000 * p.bore * p.bore := by rw [IntWalk.i64_in (10000 * p.bore) (by omega), IntWalk.i64_in _ (by omega)]
  have HW1 := Lib.hid W1
  have HW2 := Lib.hid W2
  clear W1 W2
  have hM : (if 0 < IntKind.i64.wrap (-p.drop) then IntKind.i64.wrap (-p.drop) else 0) = max 0 (-p.drop) := by rw [IntWalk.i64_in (-p.drop) (by omega)]; omega
  have HM := Lib.hid hM
  clear hM
  go_enter Try.func39, Try.ntmps39
  go_wp2_with fail
  apply wp_rel (R := fun V => Below w.heap.size w V)
  · go_region_held3 (fun V => V.cell? ⟨w.heap.size, 1, none⟩ = some (.int .i64 p.length) ∧ V.cell? ⟨w.heap.size, 2, none⟩ = some (.int .i64 p.bore) ∧ V.cell? ⟨w.heap.size, 3, none⟩ = some (.int .i64 p.drop)) (exact HK.out _ (Below.refl _ _).drew)
      (first | (go_at_call 77; rw [HW1.out, HW2.out]; refine (refCeil_ _ _ _ (by omega) (by omega)).mono ?_; rintro e w2 ⟨rfl, rfl⟩) | (go_simp; rw [HM.out]))
    all_goals exact ⟨rfl, rfl, hB0.drew⟩
  · intro V hV
    go_wp2_with fail
    go_ret
    refine ⟨ret_int ?_, hV⟩
    rw [hl.out, hln.out, IntWalk.i64_in (10 * max 0 (-p.drop)) (by omega), IntWalk.i64_in _ (by omega)]
    omega
end Go.Proofs.Ytepibjfmeibgcaa
