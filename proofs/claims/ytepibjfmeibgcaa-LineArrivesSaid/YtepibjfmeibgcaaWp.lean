/- What line.isBore and the search among bores return. -/
import Derived.Test.YtepibjfmeibgcaaWo
namespace Go.Proofs.Ytepibjfmeibgcaa
open Go.RowKit
/-- A bore that can be chosen, and its price. -/
structure Bor where
  size : Int
  price : Int
  deriving DecidableEq, Inhabited
def boreB (b : Bor) : Bool := inB 4 80 b.size && inB 0 1000 b.price
def boresB (l : List Bor) : Bool := l.all boreB
theorem boresB_snoc (xs : List Bor) (k : Nat) (hk : k < xs.length) : boresB (xs.take (k + 1)) = (boresB (xs.take k) && boreB xs[k]) := by
  unfold boresB; rw [List.take_succ_eq_append_getElem hk, List.all_append]; simp
theorem boresB_false (xs : List Bor) (k : Nat) (hk : k < xs.length) (h : boreB xs[k] = false) : boresB xs = false := by
  unfold boresB; rw [List.all_eq_false]; exact ⟨xs[k], List.getElem_mem hk, by simp [h]⟩
def encO (b : Bor) : List Value := [I b.size, I b.price]
abbrev RdO (w : World) (lo hi : Nat) (A : Option Addr) (xs : List Bor) : Prop := Rd encO 2 w lo hi A xs
theorem RdO.at_ {w : World} {lo hi : Nat} {A : Option Addr} {xs : List Bor} {k : Nat} (h : RdO w lo hi A xs) (hk : k < xs.length) : ∃ b off, A = some ⟨b, off, none⟩ ∧ lo ≤ b ∧ b < hi ∧
    w.cell? ⟨b, off + k * 2, none⟩ = some (.int .i64 xs[k].size) ∧ w.cell? ⟨b, off + k * 2 + 1, none⟩ = some (.int .i64 xs[k].price) := by
  obtain ⟨b, off, e, h1, h2, hc⟩ := Rd.at_ h hk
  exact ⟨b, off, e, h1, h2, hc 0 _ rfl, hc 1 _ rfl⟩
set_option maxHeartbeats 800000 in
set_option maxRecDepth 100000 in
theorem isBore_ (b : Bor) (w : World) : Calls Try.prog 60 #[.agg #[.int .i64 b.size, .int .i64 b.price]] w fun e w' => e = .returned (.bool (boreB b)) ∧ Below w.heap.size w w' := by
  cases h1 : inB 4 80 b.size with
  | false =>
    have hb := Lib.hid (show boreB b = false by unfold boreB; rw [h1]; rfl)
    go_enter Try.func60, Try.ntmps60
    go_wp2_with (go_at_call 61; refine (within_one _ _ b.size _ _ _ (by go_simp) (by go_simp)).mono ?_; rintro e w' ⟨rfl, o1, o2, rfl⟩; rw [h1])
    go_ret
    exact ⟨ret_bool (by rw [hb.out]), (by repeat (first | exact Below.refl _ _ | exact (Below.refl _ _) | assumption | (refine Below.setCell ?_ (by first | omega | (simp; done) | (simp; omega) | (simp [World.setCell]; done) | (simp [World.setCell]; omega)) _) | (refine Below.alloc ?_ (by first | omega | (simp; done) | (simp; omega) | (simp [World.setCell]; done) | (simp [World.setCell]; omega)) _) | (refine Below.drewN_ ?_ _) | (refine Below.drew ?_)))⟩
  | true =>
    have hb := Lib.hid (show boreB b = inB 0 1000 b.price by unfold boreB; rw [h1]; rfl)
    go_enter Try.func60, Try.ntmps60
    go_wp2_with (first
      | (go_at_call 61; (with_reducible refine (within_one 4 80 b.size _ _ _ (by go_simp) (by go_simp)).mono ?_); rintro e w' ⟨rfl, o1, o2, rfl⟩; rw [h1])
      | (go_at_call 61; (with_reducible refine (within_one 0 1000 b.price _ _ _ (by go_simp) (by go_simp)).mono ?_); rintro e w' ⟨rfl, o3, o4, rfl⟩))
    go_ret
    exact ⟨ret_bool (by rw [hb.out]), (by repeat (first | exact Below.refl _ _ | exact (Below.refl _ _) | assumption | (refine Below.setCell ?_ (by first | omega | (simp; done) | (simp; omega) | (simp [World.setCell]; done) | (simp [World.setCell]; omega)) _) | (refine Below.alloc ?_ (by first | omega | (simp; done) | (simp; omega) | (simp [World.setCell]; done) | (simp [World.setCell]; omega)) _) | (refine Below.drewN_ ?_ _) | (refine Below.drew ?_)))⟩
set_option maxHeartbeats 800000 in
set_option maxRecDepth 100000 in
theorem bore1_ (b : Bor) (w : World) : Calls Try.prog 59 #[.agg #[.int .i64 b.size, .int .i64 b.price]] w fun e w' => e = .returned (.bool (!boreB b)) ∧ Below w.heap.size w w' := by
  go_enter Try.func59, Try.ntmps59
  go_wp2_with (go_at_call 60; refine (isBore_ b _).mono ?_; rintro e w1 ⟨rfl, hb⟩; have hB1 := Below.step (B := w.heap.size) (a := w) (by repeat (first | exact Below.refl _ _ | exact (Below.refl _ _) | assumption | (refine Below.setCell ?_ (by first | omega | (simp; done) | (simp; omega) | (simp [World.setCell]; done) | (simp [World.setCell]; omega)) _) | (refine Below.alloc ?_ (by first | omega | (simp; done) | (simp; omega) | (simp [World.setCell]; done) | (simp [World.setCell]; omega)) _) | (refine Below.drewN_ ?_ _) | (refine Below.drew ?_))) hb (by first | omega | (simp; done) | (simp; omega) | (simp [World.setCell]; done) | (simp [World.setCell]; omega)))
  go_ret
  exact ⟨rfl, hB1⟩
set_option maxHeartbeats 800000 in
set_option maxRecDepth 100000 in
theorem indexB_ (A : Option Addr) (c lo hi : Nat) (xs : List Bor) (w : World) (hR : RdO w lo hi A xs) (hhi : hi ≤ w.heap.size) (hn : xs.length ≤ maxLen) :
    Calls Try.prog 92 #[.slice A xs.length c, .func (.func 59) #[] #[]] w fun e w' => (∃ n : Int, e = .returned (.int .i64 n) ∧ decide (0 ≤ n) = !boresB xs) ∧ Below w.heap.size w w' := by
  unfold maxLen at hn
  go_enter Try.func92, Try.ntmps92
  go_wp2
  go_loopw [8] (fun i wr => ∃ k : Nat, k ≤ xs.length ∧ i = .int .i64 k ∧ boresB (xs.take k) = true ∧ Below w.heap.size w wr) (fun i _ => xs.length - (intOf i).toNat)
  case atStart => exact ⟨0, Nat.zero_le _, rfl, rfl, Below.refl _ _⟩
  case round =>
    obtain ⟨k, hk, rfl, hall, hB⟩ := hrel
    have hzz := hB.size
    have HALL := Lib.hid hall
    clear hall
    by_cases hlt : k < xs.length
    · obtain ⟨bb, off, rfl, _, _, c0, c1⟩ := RdO.at_ (hR.below hB hhi) hlt
      have hs := Lib.hid (boresB_snoc xs k hlt)
      by_cases hx : boreB xs[k] = true
      · go_wp2_with (go_at_call 59; refine (bore1_ xs[k] _).mono ?_; rintro e w1 ⟨rfl, hb1⟩; have hB1 := Below.step (B := w.heap.size) (a := w) (by repeat (first | exact Below.refl _ _ | exact (Below.refl _ _) | assumption | (refine Below.setCell ?_ (by first | omega | (simp; done) | (simp; omega) | (simp [World.setCell]; done) | (simp [World.setCell]; omega)) _) | (refine Below.alloc ?_ (by first | omega | (simp; done) | (simp; omega) | (simp [World.setCell]; done) | (simp [World.setCell]; omega)) _) | (refine Below.drewN_ ?_ _) | (refine Below.drew ?_))) hb1 (by first | omega | (simp; done) | (simp; omega) | (simp [World.setCell]; done) | (simp [World.setCell]; omega)))
        exact ⟨⟨k + 1, by omega, by go_num, by rw [hs.out, HALL.out, hx]; rfl, hB1⟩, by simp [intOf]; omega⟩
      · have hx : boreB xs[k] = false := by simpa using hx
        go_wp2_with (go_at_call 59; refine (bore1_ xs[k] _).mono ?_; rintro e w1 ⟨rfl, hb1⟩; have hB1 := Below.step (B := w.heap.size) (a := w) (by repeat (first | exact Below.refl _ _ | exact (Below.refl _ _) | assumption | (refine Below.setCell ?_ (by first | omega | (simp; done) | (simp; omega) | (simp [World.setCell]; done) | (simp [World.setCell]; omega)) _) | (refine Below.alloc ?_ (by first | omega | (simp; done) | (simp; omega) | (simp [World.setCell]; done) | (simp [World.setCell]; omega)) _) | (refine Below.drewN_ ?_ _) | (refine Below.drew ?_))) hb1 (by first | omega | (simp; done) | (simp; omega) | (simp [World.setCell]; done) | (simp [World.setCell]; omega)))
        go_ret
        exact ⟨⟨_, rfl, by rw [boresB_false xs k hlt hx]; simp⟩, hB1⟩
    · obtain rfl : k = xs.length := by omega
      go_wp2
      go_ret
      have := HALL.out
      rw [List.take_length] at this
      exact ⟨⟨_, rfl, by rw [this]; rfl⟩, hB⟩
theorem containsB_ (A : Option Addr) (c lo hi : Nat) (xs : List Bor) (w : World) (hR : RdO w lo hi A xs) (hhi : hi ≤ w.heap.size) (hn : xs.length ≤ maxLen) :
    Calls Try.prog 58 #[.slice A xs.length c, .func (.func 59) #[] #[]] w fun e w' => e = .returned (.bool (!boresB xs)) ∧ Below w.heap.size w w' := by
  go_enter Try.func58, Try.ntmps58
  go_wp2_with (go_at_call 92; refine (indexB_ A c lo hi xs _ hR hhi hn).mono ?_; rintro e w' ⟨⟨n, rfl, hn'⟩, hb⟩; have HN := Lib.hid hn'; clear hn')
  go_ret
  exact ⟨ret_bool HN.out, hb⟩
end Go.Proofs.Ytepibjfmeibgcaa
