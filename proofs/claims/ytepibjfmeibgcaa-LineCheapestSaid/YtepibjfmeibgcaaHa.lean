/- What the law's own small helpers return. -/
import Derived.Test.YtepibjfmeibgcaaWp
import Derived.Deep.QuietTactic
import Derived.BigQuiet
namespace Go.Proofs.Ytepibjfmeibgcaa
open Go.RowKit
set_option linter.unusedVariables false
set_option maxHeartbeats 800000 in
set_option maxRecDepth 100000 in
theorem has_ (A : Option Addr) (c lo hi : Nat) (xs : List Int) (x : Int) (w : World) (hR : RdI w lo hi A xs) (hn : xs.length ≤ maxLen) :
    Calls Try.prog 26 #[.slice A xs.length c, .int .i64 x] w fun e w' => e = .returned (.bool (memB xs x)) ∧ w = w' := by
  unfold maxLen at hn
  go_enter Try.func26, Try.ntmps26
  go_wp2
  go_loop [5] (fun i => ∃ k : Nat, k ≤ xs.length ∧ i = .int .i64 k ∧ memB (xs.take k) x = false) (fun i => xs.length - (intOf i).toNat)
  case atStart => exact ⟨0, Nat.zero_le _, rfl, rfl⟩
  case round =>
    obtain ⟨k, hk, rfl, hm⟩ := hrel
    have HM := Lib.hid hm
    clear hm
    by_cases hlt : k < xs.length
    · obtain ⟨b, off, rfl, _, _, c0⟩ := RdI.at_ hR hlt
      by_cases hx : xs[k] = x
      · have ht := Lib.hid (show memB xs x = true by rw [← hx]; exact memB_at hlt)
        go_wp2
        go_ret
        exact ⟨ret_bool (by rw [ht.out]), rfl⟩
      · have hs := Lib.hid (memB_snoc hlt HM.out (fun h => hx h.symm))
        go_wp2
        exact ⟨⟨k + 1, by omega, by go_num, hs.out⟩, by simp [intOf]; omega⟩
    · obtain rfl : k = xs.length := by omega
      go_wp2
      go_ret
      have := HM.out
      rw [List.take_length] at this
      exact ⟨ret_bool (by rw [this]), rfl⟩
def greatB (a b c : Nat) : Bool := decide (70 < a) || decide (70 < b) || decide (70 < c)
set_option maxHeartbeats 800000 in
set_option maxRecDepth 100000 in
theorem great_ (pump : Int) (A B C : Option Addr) (np nf nz c cb cc : Nat) (w : World) (h1 : np ≤ maxLen) (h2 : nf ≤ maxLen) (h3 : nz ≤ maxLen) :
    Calls Try.prog 14 #[.agg #[.int .i64 pump, .slice A np c], .slice B nf cb, .slice C nz cc] w fun e w' => e = .returned (.bool (greatB np nf nz)) ∧ Below w.heap.size w w' := by
  unfold maxLen at h1 h2 h3
  by_cases p1 : (70 : Int) < np
  · have hb := Lib.hid (show greatB np nf nz = true by unfold greatB; simp; omega)
    go_enter Try.func14, Try.ntmps14
    go_wp2
    go_ret
    exact ⟨ret_bool (by rw [hb.out]), (by repeat (first | exact Below.refl _ _ | exact (Below.refl _ _) | assumption | (refine Below.setCell ?_ (by first | omega | (simp; done) | (simp; omega) | (simp [World.setCell]; done) | (simp [World.setCell]; omega)) _) | (refine Below.alloc ?_ (by first | omega | (simp; done) | (simp; omega) | (simp [World.setCell]; done) | (simp [World.setCell]; omega)) _) | (refine Below.drewN_ ?_ _) | (refine Below.drew ?_)))⟩
  · by_cases p2 : (70 : Int) < nf
    · have hb := Lib.hid (show greatB np nf nz = true by unfold greatB; simp; omega)
      go_enter Try.func14, Try.ntmps14
      go_wp2
      go_ret
      exact ⟨ret_bool (by rw [hb.out]), (by repeat (first | exact Below.refl _ _ | exact (Below.refl _ _) | assumption | (refine Below.setCell ?_ (by first | omega | (simp; done) | (simp; omega) | (simp [World.setCell]; done) | (simp [World.setCell]; omega)) _) | (refine Below.alloc ?_ (by first | omega | (simp; done) | (simp; omega) | (simp [World.setCell]; done) | (simp [World.setCell]; omega)) _) | (refine Below.drewN_ ?_ _) | (refine Below.drew ?_)))⟩
    · by_cases p3 : (70 : Int) < nz
      · have hb := Lib.hid (show greatB np nf nz = true by unfold greatB; simp; omega)
        go_enter Try.func14, Try.ntmps14
        go_wp2
        go_ret
        exact ⟨ret_bool (by rw [hb.out]), (by repeat (first | exact Below.refl _ _ | exact (Below.refl _ _) | assumption | (refine Below.setCell ?_ (by first | omega | (simp; done) | (simp; omega) | (simp [World.setCell]; done) | (simp [World.setCell]; omega)) _) | (refine Below.alloc ?_ (by first | omega | (simp; done) | (simp; omega) | (simp [World.setCell]; done) | (simp [World.setCell]; omega)) _) | (refine Below.drewN_ ?_ _) | (refine Below.drew ?_)))⟩
      · have hb := Lib.hid (show greatB np nf nz = false by unfold greatB; simp; omega)
        go_enter Try.func14, Try.ntmps14
        go_wp2
        go_ret
        exact ⟨ret_bool (by rw [hb.out]), (by repeat (first | exact Below.refl _ _ | exact (Below.refl _ _) | assumption | (refine Below.setCell ?_ (by first | omega | (simp; done) | (simp; omega) | (simp [World.setCell]; done) | (simp [World.setCell]; omega)) _) | (refine Below.alloc ?_ (by first | omega | (simp; done) | (simp; omega) | (simp [World.setCell]; done) | (simp [World.setCell]; omega)) _) | (refine Below.drewN_ ?_ _) | (refine Below.drew ?_)))⟩
theorem take_eq_snoc {α : Type} {a b : List α} {k : Nat} (ha : k < a.length) (hb : k < b.length) (h : a.take k = b.take k) (he : a[k] = b[k]) : a.take (k + 1) = b.take (k + 1) := by
  rw [List.take_succ_eq_append_getElem ha, List.take_succ_eq_append_getElem hb, h, he]
set_option maxHeartbeats 800000 in
set_option maxRecDepth 100000 in
theorem equal_ (A B : Option Addr) (c cb lo hi l2 h2 : Nat) (a b : List Int) (w : World) (hA : RdI w lo hi A a) (hhi : hi ≤ w.heap.size) (hB : RdI w l2 h2 B b) (hh2 : h2 ≤ w.heap.size) (ha : a.length ≤ maxLen) (hb : b.length ≤ maxLen) :
    Calls Try.prog 20 #[.slice A a.length c, .slice B b.length cb] w fun e w' => e = .returned (.bool (decide (a = b))) ∧ Below w.heap.size w w' := by
  unfold maxLen at ha hb
  by_cases hl : a.length = b.length
  · have HL := Lib.hid hl
    have hl' : (a.length : Int) = b.length := by omega
    clear hl
    go_enter Try.func20, Try.ntmps20
    go_wp2
    go_loopw [5] (fun i wr => ∃ k : Nat, k ≤ a.length ∧ i = .int .i64 k ∧ a.take k = b.take k ∧ Below w.heap.size w wr) (fun i _ => a.length - (intOf i).toNat)
    case atStart => exact ⟨0, Nat.zero_le _, rfl, rfl, Below.refl _ _⟩
    case round =>
      obtain ⟨k, hk, rfl, ht, hBw⟩ := hrel
      have HT := Lib.hid ht
      clear ht
      by_cases hlt : k < a.length
      · have hlb : k < b.length := by have := HL.out; omega
        obtain ⟨x, o, rfl, _, _, c0⟩ := RdI.at_ (Rd.below hA hBw hhi) hlt
        obtain ⟨y, o2, rfl, _, _, c1⟩ := RdI.at_ (Rd.below hB hBw hh2) hlb
        have hkb : (k : Int) < b.length := by omega
        by_cases hx : a[k] = b[k]
        · have hs := Lib.hid (take_eq_snoc hlt hlb HT.out hx)
          have hx1 : (a[k] != b[k]) = false := by simpa using hx
          clear hx
          go_wp2
          go_quiet (fail)
          go_wp2
          exact ⟨⟨k + 1, by omega, by go_num, hs.out, (by repeat (first | exact Below.refl _ _ | exact (Below.refl _ _) | assumption | (refine Below.setCell ?_ (by first | omega | (simp; done) | (simp; omega) | (simp [World.setCell]; done) | (simp [World.setCell]; omega)) _) | (refine Below.alloc ?_ (by first | omega | (simp; done) | (simp; omega) | (simp [World.setCell]; done) | (simp [World.setCell]; omega)) _) | (refine Below.drewN_ ?_ _) | (refine Below.drew ?_)))⟩, by simp [intOf]; omega⟩
        · have hd := Lib.hid (show decide (a = b) = false by
            rw [decide_eq_false_iff_not]; rintro rfl; exact hx rfl)
          have hx1 : (a[k] != b[k]) = true := by simpa using hx
          clear hx
          go_wp2
          go_quiet (fail)
          go_wp2
          go_ret
          exact ⟨ret_bool (by rw [hd.out]), (by repeat (first | exact Below.refl _ _ | exact (Below.refl _ _) | assumption | (refine Below.setCell ?_ (by first | omega | (simp; done) | (simp; omega) | (simp [World.setCell]; done) | (simp [World.setCell]; omega)) _) | (refine Below.alloc ?_ (by first | omega | (simp; done) | (simp; omega) | (simp [World.setCell]; done) | (simp [World.setCell]; omega)) _) | (refine Below.drewN_ ?_ _) | (refine Below.drew ?_)))⟩
      · obtain rfl : k = a.length := by omega
        go_wp2
        go_ret
        refine ⟨ret_bool ?_, hBw⟩
        have := HT.out
        rw [List.take_length, List.take_of_length_le (by have := HL.out; omega)] at this
        simp [this]
  · have hd := Lib.hid (show decide (a = b) = false by rw [decide_eq_false_iff_not]; rintro rfl; exact hl rfl)
    have hl' : ¬ (a.length : Int) = b.length := by omega
    clear hl
    go_enter Try.func20, Try.ntmps20
    go_wp2
    go_ret
    exact ⟨ret_bool (by rw [hd.out]), (by repeat (first | exact Below.refl _ _ | exact (Below.refl _ _) | assumption | (refine Below.setCell ?_ (by first | omega | (simp; done) | (simp; omega) | (simp [World.setCell]; done) | (simp [World.setCell]; omega)) _) | (refine Below.alloc ?_ (by first | omega | (simp; done) | (simp; omega) | (simp [World.setCell]; done) | (simp [World.setCell]; omega)) _) | (refine Below.drewN_ ?_ _) | (refine Below.drew ?_)))⟩
def aggR (r : Rng) : Value := .agg #[.int .i64 r.low, .int .i64 r.high]
theorem neq_rng (p q : Rng) (W : World) : (binOp .neq 52 (aggR p) (aggR q)).run Try.prog W = .ok (.bool (!decide (p = q))) W := by
  obtain ⟨a1, a2⟩ := p
  obtain ⟨b1, b2⟩ := q
  unfold aggR
  by_cases h1 : a1 = b1 <;> by_cases h2 : a2 = b2 <;> go_simp <;> simp [h1, h2]
set_option maxHeartbeats 800000 in
set_option maxRecDepth 100000 in
theorem same_ (A B : Option Addr) (c cb lo hi l2 h2 : Nat) (a b : List Rng) (w : World) (hA : RdR w lo hi A a) (hhi : hi ≤ w.heap.size) (hB : RdR w l2 h2 B b) (hh2 : h2 ≤ w.heap.size) (ha : a.length ≤ maxLen) (hb : b.length ≤ maxLen) :
    Calls Try.prog 37 #[.slice A a.length c, .slice B b.length cb] w fun e w' => e = .returned (.bool (decide (a = b))) ∧ Below w.heap.size w w' := by
  unfold maxLen at ha hb
  by_cases hl : a.length = b.length
  · have HL := Lib.hid hl
    have hl' : (a.length : Int) = b.length := by omega
    clear hl
    go_enter Try.func37, Try.ntmps37
    go_wp2
    go_loopw [5] (fun i wr => ∃ k : Nat, k ≤ a.length ∧ i = .int .i64 k ∧ a.take k = b.take k ∧ Below w.heap.size w wr) (fun i _ => a.length - (intOf i).toNat)
    case atStart => exact ⟨0, Nat.zero_le _, rfl, rfl, Below.refl _ _⟩
    case round =>
      obtain ⟨k, hk, rfl, ht, hBw⟩ := hrel
      have HT := Lib.hid ht
      clear ht
      by_cases hlt : k < a.length
      · have hlb : k < b.length := by have := HL.out; omega
        obtain ⟨x, o, rfl, _, _, c0, c2⟩ := RdR.at_ (Rd.below hA hBw hhi) hlt
        obtain ⟨y, o2, rfl, _, _, c1, c3⟩ := RdR.at_ (Rd.below hB hBw hh2) hlb
        have hkb : (k : Int) < b.length := by omega
        by_cases hx : a[k] = b[k]
        · have hs := Lib.hid (take_eq_snoc hlt hlb HT.out hx)
          have hx1 : (!decide (a[k] = b[k])) = false := by simpa using hx
          have hnq := fun W => neq_rng a[k] b[k] W
          simp only [aggR, hx1] at hnq
          clear hx
          go_wp2
          go_quiet (fail)
          go_wp2
          exact ⟨⟨k + 1, by omega, by go_num, hs.out, (by repeat (first | exact Below.refl _ _ | exact (Below.refl _ _) | assumption | (refine Below.setCell ?_ (by first | omega | (simp; done) | (simp; omega) | (simp [World.setCell]; done) | (simp [World.setCell]; omega)) _) | (refine Below.alloc ?_ (by first | omega | (simp; done) | (simp; omega) | (simp [World.setCell]; done) | (simp [World.setCell]; omega)) _) | (refine Below.drewN_ ?_ _) | (refine Below.drew ?_)))⟩, by simp [intOf]; omega⟩
        · have hd := Lib.hid (show decide (a = b) = false by
            rw [decide_eq_false_iff_not]; rintro rfl; exact hx rfl)
          have hx1 : (!decide (a[k] = b[k])) = true := by simpa using hx
          have hnq := fun W => neq_rng a[k] b[k] W
          simp only [aggR, hx1] at hnq
          clear hx
          go_wp2
          go_quiet (fail)
          go_wp2
          go_ret
          exact ⟨ret_bool (by rw [hd.out]), (by repeat (first | exact Below.refl _ _ | exact (Below.refl _ _) | assumption | (refine Below.setCell ?_ (by first | omega | (simp; done) | (simp; omega) | (simp [World.setCell]; done) | (simp [World.setCell]; omega)) _) | (refine Below.alloc ?_ (by first | omega | (simp; done) | (simp; omega) | (simp [World.setCell]; done) | (simp [World.setCell]; omega)) _) | (refine Below.drewN_ ?_ _) | (refine Below.drew ?_)))⟩
      · obtain rfl : k = a.length := by omega
        go_wp2
        go_ret
        refine ⟨ret_bool ?_, hBw⟩
        have := HT.out
        rw [List.take_length, List.take_of_length_le (by have := HL.out; omega)] at this
        simp [this]
  · have hd := Lib.hid (show decide (a = b) = false by rw [decide_eq_false_iff_not]; rintro rfl; exact hl rfl)
    have hl' : ¬ (a.length : Int) = b.length := by omega
    clear hl
    go_enter Try.func37, Try.ntmps37
    go_wp2
    go_ret
    exact ⟨ret_bool (by rw [hd.out]), (by repeat (first | exact Below.refl _ _ | exact (Below.refl _ _) | assumption | (refine Below.setCell ?_ (by first | omega | (simp; done) | (simp; omega) | (simp [World.setCell]; done) | (simp [World.setCell]; omega)) _) | (refine Below.alloc ?_ (by first | omega | (simp; done) | (simp; omega) | (simp [World.setCell]; done) | (simp [World.setCell]; omega)) _) | (refine Below.drewN_ ?_ _) | (refine Below.drew ?_)))⟩
def alikeB (a b : Net) : Bool := decide (a.pump = b.pump) && decide (a.pipes = b.pipes)
set_option maxHeartbeats 800000 in
set_option maxRecDepth 100000 in
theorem alike_ (A B : Option Addr) (c cb lo hi l2 h2 : Nat) (a b : Net) (w : World) (hA : RdP w lo hi A a.pipes) (hhi : hi ≤ w.heap.size) (hB : RdP w l2 h2 B b.pipes) (hh2 : h2 ≤ w.heap.size) (ha : a.pipes.length ≤ maxLen) (hb : b.pipes.length ≤ maxLen) :
    Calls Try.prog 36 #[.agg #[.int .i64 a.pump, .slice A a.pipes.length c], .agg #[.int .i64 b.pump, .slice B b.pipes.length cb]] w fun e w' => e = .returned (.bool (alikeB a b)) ∧ Below w.heap.size w w' := by
  unfold maxLen at ha hb
  obtain ⟨pa, a⟩ := a
  obtain ⟨pb, b⟩ := b
  simp only at *
  by_cases hp : pa = pb
  · subst hp
    have he : (pa != pa) = false := by simp
    by_cases hl : a.length = b.length
    · have HL := Lib.hid hl
      have hl' : (a.length : Int) = b.length := by omega
      clear hl
      go_enter Try.func36, Try.ntmps36
      go_wp2
      go_loopw [5] (fun i wr => ∃ k : Nat, k ≤ a.length ∧ i = .int .i64 k ∧ a.take k = b.take k ∧ Blk wr w.heap.size 24 #[.int .i64 pa, .slice A a.length c] ∧ Blk wr (w.heap.size + 1) 24 #[.int .i64 pa, .slice B b.length cb] ∧ Below w.heap.size w wr) (fun i _ => a.length - (intOf i).toNat)
      case atStart => exact ⟨0, Nat.zero_le _, rfl, rfl, (Blk.new w _ _).alloc _, by have h := Blk.new (w.alloc (.cells #[.int .i64 pa, .slice A a.length c] 24)) 24 #[.int .i64 pa, .slice B b.length cb]; simpa using h, (by repeat (first | exact Below.refl _ _ | exact (Below.refl _ _) | assumption | (refine Below.setCell ?_ (by first | omega | (simp; done) | (simp; omega) | (simp [World.setCell]; done) | (simp [World.setCell]; omega)) _) | (refine Below.alloc ?_ (by first | omega | (simp; done) | (simp; omega) | (simp [World.setCell]; done) | (simp [World.setCell]; omega)) _) | (refine Below.drewN_ ?_ _) | (refine Below.drew ?_)))⟩
      case round =>
        obtain ⟨k, hk, rfl, ht, hN, hM, hBw⟩ := hrel
        have HT := Lib.hid ht
        clear ht
        have n1 := hN.cell 1
        have m1 := hM.cell 1
        simp at n1 m1
        by_cases hlt : k < a.length
        · have hlb : k < b.length := by have := HL.out; omega
          obtain ⟨x, o, rfl, _, _, c0, c1, c2, c3, c4⟩ := RdP.at_ (Rd.below hA hBw hhi) hlt
          obtain ⟨y, o2, rfl, _, _, d0, d1, d2, d3, d4⟩ := RdP.at_ (Rd.below hB hBw hh2) hlb
          have hkb : (k : Int) < b.length := by omega
          by_cases hx : a[k] = b[k]
          · have hs := Lib.hid (take_eq_snoc hlt hlb HT.out hx)
            have hx1 : (!decide (a[k] = b[k])) = false := by simpa using hx
            have hnq := fun W => neq_pipe a[k] b[k] W
            simp only [aggP, hx1] at hnq
            clear hx
            go_wp2
            go_quiet (fail)
            go_wp2
            exact ⟨⟨k + 1, by omega, by go_num, hs.out, hN, hM, (by repeat (first | exact Below.refl _ _ | exact (Below.refl _ _) | assumption | (refine Below.setCell ?_ (by first | omega | (simp; done) | (simp; omega) | (simp [World.setCell]; done) | (simp [World.setCell]; omega)) _) | (refine Below.alloc ?_ (by first | omega | (simp; done) | (simp; omega) | (simp [World.setCell]; done) | (simp [World.setCell]; omega)) _) | (refine Below.drewN_ ?_ _) | (refine Below.drew ?_)))⟩, by simp [intOf]; omega⟩
          · have hd := Lib.hid (show alikeB ⟨pa, a⟩ ⟨pa, b⟩ = false by
              unfold alikeB; simp only [decide_true, Bool.true_and, decide_eq_false_iff_not]; rintro rfl; exact hx rfl)
            have hx1 : (!decide (a[k] = b[k])) = true := by simpa using hx
            have hnq := fun W => neq_pipe a[k] b[k] W
            simp only [aggP, hx1] at hnq
            clear hx
            go_wp2
            go_quiet (fail)
            go_wp2
            go_ret
            exact ⟨ret_bool (by rw [hd.out]), (by repeat (first | exact Below.refl _ _ | exact (Below.refl _ _) | assumption | (refine Below.setCell ?_ (by first | omega | (simp; done) | (simp; omega) | (simp [World.setCell]; done) | (simp [World.setCell]; omega)) _) | (refine Below.alloc ?_ (by first | omega | (simp; done) | (simp; omega) | (simp [World.setCell]; done) | (simp [World.setCell]; omega)) _) | (refine Below.drewN_ ?_ _) | (refine Below.drew ?_)))⟩
        · obtain rfl : k = a.length := by omega
          go_wp2
          go_ret
          refine ⟨ret_bool ?_, hBw⟩
          have := HT.out
          rw [List.take_length, List.take_of_length_le (by have := HL.out; omega)] at this
          simp [alikeB, this]
    · have hd := Lib.hid (show alikeB ⟨pa, a⟩ ⟨pa, b⟩ = false by unfold alikeB; simp only [decide_true, Bool.true_and, decide_eq_false_iff_not]; rintro rfl; exact hl rfl)
      have hl' : ¬ (a.length : Int) = b.length := by omega
      clear hl
      go_enter Try.func36, Try.ntmps36
      go_wp2
      go_ret
      exact ⟨ret_bool (by rw [hd.out]), (by repeat (first | exact Below.refl _ _ | exact (Below.refl _ _) | assumption | (refine Below.setCell ?_ (by first | omega | (simp; done) | (simp; omega) | (simp [World.setCell]; done) | (simp [World.setCell]; omega)) _) | (refine Below.alloc ?_ (by first | omega | (simp; done) | (simp; omega) | (simp [World.setCell]; done) | (simp [World.setCell]; omega)) _) | (refine Below.drewN_ ?_ _) | (refine Below.drew ?_)))⟩
  · have hd := Lib.hid (show alikeB ⟨pa, a⟩ ⟨pb, b⟩ = false by unfold alikeB; simp [hp])
    have he : (pa != pb) = true := by simpa using hp
    go_enter Try.func36, Try.ntmps36
    go_wp2
    go_ret
    exact ⟨ret_bool (by rw [hd.out]), (by repeat (first | exact Below.refl _ _ | exact (Below.refl _ _) | assumption | (refine Below.setCell ?_ (by first | omega | (simp; done) | (simp; omega) | (simp [World.setCell]; done) | (simp [World.setCell]; omega)) _) | (refine Below.alloc ?_ (by first | omega | (simp; done) | (simp; omega) | (simp [World.setCell]; done) | (simp [World.setCell]; omega)) _) | (refine Below.drewN_ ?_ _) | (refine Below.drew ?_)))⟩
/-- Whether a list comes before another of the same length. -/
def smallB : List Int → List Int → Bool
  | x :: xs, y :: ys => if x = y then smallB xs ys else decide (x < y)
  | _, _ => false
theorem smallB_drop {a b : List Int} {k : Nat} (ha : k < a.length) (hb : k < b.length) : smallB (a.drop k) (b.drop k) = if a[k] = b[k] then smallB (a.drop (k + 1)) (b.drop (k + 1)) else decide (a[k] < b[k]) := by
  rw [List.drop_eq_getElem_cons ha, List.drop_eq_getElem_cons hb]; rfl
set_option maxHeartbeats 800000 in
set_option maxRecDepth 100000 in
theorem smaller_ (A B : Option Addr) (c cb lo hi l2 h2 : Nat) (a b : List Int) (w : World) (hA : RdI w lo hi A a) (hhi : hi ≤ w.heap.size) (hB : RdI w l2 h2 B b) (hh2 : h2 ≤ w.heap.size) (ha : a.length ≤ maxLen) (hb : b.length ≤ maxLen) (hl : a.length ≤ b.length) :
    Calls Try.prog 29 #[.slice A a.length c, .slice B b.length cb] w fun e w' => e = .returned (.bool (smallB a b)) ∧ Below w.heap.size w w' := by
  unfold maxLen at ha hb
  go_enter Try.func29, Try.ntmps29
  go_wp2
  go_loopw [5] (fun i wr => ∃ k : Nat, k ≤ a.length ∧ i = .int .i64 k ∧ smallB (a.drop k) (b.drop k) = smallB a b ∧ Below w.heap.size w wr) (fun i _ => a.length - (intOf i).toNat)
  case atStart => exact ⟨0, Nat.zero_le _, rfl, rfl, Below.refl _ _⟩
  case round =>
    obtain ⟨k, hk, rfl, ht, hBw⟩ := hrel
    have HT := Lib.hid ht
    clear ht
    by_cases hlt : k < a.length
    · have hlb : k < b.length := by omega
      obtain ⟨x, o, rfl, _, _, c0⟩ := RdI.at_ (Rd.below hA hBw hhi) hlt
      obtain ⟨y, o2, rfl, _, _, c1⟩ := RdI.at_ (Rd.below hB hBw hh2) hlb
      have hkb : (k : Int) < b.length := by omega
      have hsd := smallB_drop hlt hlb
      by_cases hx : a[k] = b[k]
      · rw [if_pos hx] at hsd
        have hs := Lib.hid hsd
        have hx1 : (a[k] != b[k]) = false := by simpa using hx
        clear hx hsd
        go_wp2
        go_quiet (fail)
        go_wp2
        exact ⟨⟨k + 1, by omega, by go_num, by rw [← hs.out]; exact HT.out, (by repeat (first | exact Below.refl _ _ | exact (Below.refl _ _) | assumption | (refine Below.setCell ?_ (by first | omega | (simp; done) | (simp; omega) | (simp [World.setCell]; done) | (simp [World.setCell]; omega)) _) | (refine Below.alloc ?_ (by first | omega | (simp; done) | (simp; omega) | (simp [World.setCell]; done) | (simp [World.setCell]; omega)) _) | (refine Below.drewN_ ?_ _) | (refine Below.drew ?_)))⟩, by simp [intOf]; omega⟩
      · rw [if_neg hx] at hsd
        have hs := Lib.hid hsd
        have hx1 : (a[k] != b[k]) = true := by simpa using hx
        clear hx hsd
        go_wp2
        go_quiet (fail)
        go_wp2
        go_quiet (fail)
        go_wp2
        go_ret
        exact ⟨ret_bool (by rw [← HT.out, hs.out]), (by repeat (first | exact Below.refl _ _ | exact (Below.refl _ _) | assumption | (refine Below.setCell ?_ (by first | omega | (simp; done) | (simp; omega) | (simp [World.setCell]; done) | (simp [World.setCell]; omega)) _) | (refine Below.alloc ?_ (by first | omega | (simp; done) | (simp; omega) | (simp [World.setCell]; done) | (simp [World.setCell]; omega)) _) | (refine Below.drewN_ ?_ _) | (refine Below.drew ?_)))⟩
    · obtain rfl : k = a.length := by omega
      go_wp2
      go_ret
      refine ⟨ret_bool ?_, hBw⟩
      rw [← HT.out, List.drop_length]; simp [smallB]
end Go.Proofs.Ytepibjfmeibgcaa
