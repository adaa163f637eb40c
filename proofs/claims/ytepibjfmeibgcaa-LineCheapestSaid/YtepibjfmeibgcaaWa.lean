/- What line.within, line.isPipe, line.Check and line.open return, for any arguments that can be read. -/
import Derived.Test.YtepibjfmeibgcaaProg
import Derived.Test.YtepibjfmeibgcaaLib
import Derived.Test.YtepibjfmeibgcaaSpec
namespace Go.Proofs.Ytepibjfmeibgcaa
open Go.RowKit
theorem infoInt : (Try.prog.info? 3).map (fun i => (i.zero, i.size, i.bytes)) = some (some (.int .i64 0), 1, 8) := by kernel_rfl

theorem within1_ (n lo hi : Int) (a b : Addr) (w : World) (ha : w.cell? a = some (.int .i64 lo)) (hb : w.cell? b = some (.int .i64 hi)) :
    Calls Try.prog 94 #[.int .i64 n, .pointer (some a), .pointer (some b)] w fun e w' => e = .returned (.bool (!inB lo hi n)) ∧ w = w' := by
  by_cases h : n < lo
  · have e : inB lo hi n = false := by simp [inB]; omega
    go_enter Try.func94, Try.ntmps94
    go_wp2
    go_ret
    exact ⟨by simp [e], rfl⟩
  · by_cases h2 : hi < n
    · have e : inB lo hi n = false := by simp [inB]; omega
      go_enter Try.func94, Try.ntmps94
      go_wp2
      go_ret
      exact ⟨by simp, rfl⟩
    · have e : inB lo hi n = true := by simp [inB]; omega
      go_enter Try.func94, Try.ntmps94
      go_wp2
      go_ret
      exact ⟨by simp, rfl⟩

set_option maxHeartbeats 400000 in
theorem indexIn_ (lo hi : Int) (a b : Addr) (A : Option Addr) (c l h : Nat) (xs : List Int) (w : World) (ha : w.cell? a = some (.int .i64 lo)) (hb : w.cell? b = some (.int .i64 hi)) (hR : RdI w l h A xs) (hn : xs.length ≤ maxLen) :
    Calls Try.prog 109 #[.slice A xs.length c, .func (.func 94) #[] #[.pointer (some a), .pointer (some b)]] w fun e w' => (∃ n : Int, e = .returned (.int .i64 n) ∧ decide (0 ≤ n) = !inAll lo hi xs) ∧ w = w' := by
  unfold maxLen at hn
  go_enter Try.func109, Try.ntmps109
  go_wp2
  go_loop [8] (fun i => ∃ k : Nat, k ≤ xs.length ∧ i = .int .i64 k ∧ inAll lo hi (xs.take k) = true) (fun i => xs.length - (intOf i).toNat)
  case atStart => exact ⟨0, Nat.zero_le _, rfl, rfl⟩
  case round =>
    obtain ⟨k, hk, rfl, hall⟩ := hrel
    have HALL := Lib.hid hall
    clear hall
    by_cases hlt : k < xs.length
    · obtain ⟨bb, off, rfl, _, _, hcell⟩ := hR.at_ hlt
      have hs := Lib.hid (inAll_snoc lo hi xs k hlt)
      by_cases hx : inB lo hi xs[k] = true
      · go_wp2_with (go_at_call 94; refine (within1_ _ lo hi a b _ ha hb).mono ?_; rintro e w' ⟨rfl, rfl⟩)
        go_round
        case rel => exact ⟨k + 1, by omega, by go_num, by rw [hs.out, HALL.out, hx]; rfl⟩
        case measure => simp [intOf]; omega
      · have hx : inB lo hi xs[k] = false := by simpa using hx
        go_wp2_with (go_at_call 94; refine (within1_ _ lo hi a b _ ha hb).mono ?_; rintro e w' ⟨rfl, rfl⟩)
        go_ret
        exact ⟨⟨_, rfl, by rw [inAll_false lo hi xs k hlt hx]; simp⟩, rfl⟩
    · obtain rfl : k = xs.length := by omega
      go_wp2
      go_ret
      have := HALL.out
      rw [List.take_length] at this
      exact ⟨⟨_, rfl, by rw [this]; rfl⟩, rfl⟩

theorem containsIn_ (lo hi : Int) (a b : Addr) (A : Option Addr) (c l h : Nat) (xs : List Int) (w : World) (ha : w.cell? a = some (.int .i64 lo)) (hb : w.cell? b = some (.int .i64 hi)) (hR : RdI w l h A xs) (hn : xs.length ≤ maxLen) :
    Calls Try.prog 93 #[.slice A xs.length c, .func (.func 94) #[] #[.pointer (some a), .pointer (some b)]] w fun e w' => e = .returned (.bool (!inAll lo hi xs)) ∧ w = w' := by
  go_enter Try.func93, Try.ntmps93
  go_wp2_with (go_at_call 109; refine (indexIn_ lo hi a b A c l h xs _ ha hb hR hn).mono ?_; rintro e w' ⟨⟨n, rfl, hn'⟩, rfl⟩; have HN := Lib.hid hn'; clear hn')
  go_ret
  exact ⟨ret_bool HN.out, rfl⟩

theorem within_ (lo hi : Int) (A : Option Addr) (c l h : Nat) (xs : List Int) (w : World) (hR : RdI w l h A xs) (hh : h ≤ w.heap.size) (hn : xs.length ≤ maxLen) :
    Calls Try.prog 61 #[.int .i64 lo, .int .i64 hi, .slice A xs.length c] w fun e w' => e = .returned (.bool (inAll lo hi xs)) ∧ ∃ o1 o2, w' = (w.alloc o1).alloc o2 := by
  go_enter Try.func61, Try.ntmps61
  go_wp2_with (go_at_call 93; refine (containsIn_ lo hi _ _ A c l h xs _ (by go_simp) (by go_simp) (by exact (hR.alloc hh _).alloc (by simp; omega) _) hn).mono ?_; rintro e w' ⟨rfl, rfl⟩)
  go_ret
  exact ⟨by simp, _, _, rfl⟩

theorem rd_one {b o : Nat} {x : Int} {w : World} (hc : w.cell? ⟨b, o, none⟩ = some (.int .i64 x)) (hb : b < w.heap.size) : RdI w 0 w.heap.size (some ⟨b, o, none⟩) [x] := fun _ =>
  ⟨b, o, rfl, Nat.zero_le _, hb, fun i y hy j u hu => by
    match i, hy with
    | 0, hy => simp at hy; subst hy; match j, hu with | 0, hu => simp [encI] at hu; subst hu; simpa using hc⟩
theorem rd_two {b o : Nat} {x y : Int} {w : World} (hc : w.cell? ⟨b, o, none⟩ = some (.int .i64 x)) (hc' : w.cell? ⟨b, o + 1, none⟩ = some (.int .i64 y)) (hb : b < w.heap.size) : RdI w 0 w.heap.size (some ⟨b, o, none⟩) [x, y] := fun _ =>
  ⟨b, o, rfl, Nat.zero_le _, hb, fun i z hz j u hu => by
    match i, hz with
    | 0, hz => simp at hz; subst hz; match j, hu with | 0, hu => simp [encI] at hu; subst hu; simpa using hc
    | 1, hz => simp at hz; subst hz; match j, hu with | 0, hu => simp [encI] at hu; subst hu; simpa using hc'⟩
theorem within_one (lo hi x : Int) (b c : Nat) (w : World) (hc : w.cell? ⟨b, 0, none⟩ = some (.int .i64 x)) (hb : b < w.heap.size) :
    Calls Try.prog 61 #[.int .i64 lo, .int .i64 hi, .slice (some ⟨b, 0, none⟩) 1 c] w fun e w' => e = .returned (.bool (inB lo hi x)) ∧ ∃ o1 o2, w' = (w.alloc o1).alloc o2 :=
  (within_ lo hi _ c 0 _ [x] w (rd_one hc hb) (Nat.le_refl _) (by unfold maxLen; simp)).mono fun _ _ h => ⟨by rw [← inAll_one]; exact h.1, h.2⟩
theorem within_two (lo hi x y : Int) (b c : Nat) (w : World) (hc : w.cell? ⟨b, 0, none⟩ = some (.int .i64 x)) (hc' : w.cell? ⟨b, 1, none⟩ = some (.int .i64 y)) (hb : b < w.heap.size) :
    Calls Try.prog 61 #[.int .i64 lo, .int .i64 hi, .slice (some ⟨b, 0, none⟩) 2 c] w fun e w' => e = .returned (.bool (inB lo hi x && inB lo hi y)) ∧ ∃ o1 o2, w' = (w.alloc o1).alloc o2 :=
  (within_ lo hi _ c 0 _ [x, y] w (rd_two hc (by simpa using hc') hb) (Nat.le_refl _) (by unfold maxLen; simp)).mono fun _ _ h => ⟨by rw [← inAll_two]; exact h.1, h.2⟩

set_option maxHeartbeats 1000000 in
theorem isPipe_ (p : Pipe) (par : Int) (w : World) :
    Calls Try.prog 75 #[.agg #[.int .i64 p.parent, .int .i64 p.length, .int .i64 p.bore, .int .i64 p.drop, .int .i64 p.taps], .int .i64 par] w fun e w' => e = .returned (.bool (pipeB p par)) ∧ Below w.heap.size w w' := by
  by_cases h1 : inB 0 par p.parent = true
  rotate_left
  · have h1 : inB 0 par p.parent = false := by simpa using h1
    go_enter Try.func75, Try.ntmps75
    go_wp2_with (go_at_call 61; refine (within_one _ _ _ _ _ _ (by go_simp; rfl) (by go_simp)).mono ?_; rintro e w' ⟨rfl, o1, o2, rfl⟩)
    go_ret
    exact ⟨ret_bool (by simp [pipeB, *]), (by repeat (first | exact Below.refl _ _ | (refine Below.alloc ?_ (by simp; try omega) _)))⟩
  by_cases h2 : inB 1 100000 p.length = true
  rotate_left
  · have h2 : inB 1 100000 p.length = false := by simpa using h2
    go_enter Try.func75, Try.ntmps75
    go_wp2_with (go_at_call 61; refine (within_one _ _ _ _ _ _ (by go_simp; rfl) (by go_simp)).mono ?_; rintro e w' ⟨rfl, o1, o2, rfl⟩)
    go_ret
    exact ⟨ret_bool (by simp [pipeB, *]), (by repeat (first | exact Below.refl _ _ | (refine Below.alloc ?_ (by simp; try omega) _)))⟩
  by_cases h3 : inB 4 80 p.bore = true
  rotate_left
  · have h3 : inB 4 80 p.bore = false := by simpa using h3
    go_enter Try.func75, Try.ntmps75
    go_wp2_with (go_at_call 61; refine (within_one _ _ _ _ _ _ (by go_simp; rfl) (by go_simp)).mono ?_; rintro e w' ⟨rfl, o1, o2, rfl⟩)
    go_ret
    exact ⟨ret_bool (by simp [pipeB, *]), (by repeat (first | exact Below.refl _ _ | (refine Below.alloc ?_ (by simp; try omega) _)))⟩
  by_cases h4 : inB (-10000) 10000 p.drop = true
  rotate_left
  · have h4 : inB (-10000) 10000 p.drop = false := by simpa using h4
    go_enter Try.func75, Try.ntmps75
    go_wp2_with (go_at_call 61; refine (within_one _ _ _ _ _ _ (by go_simp; rfl) (by go_simp)).mono ?_; rintro e w' ⟨rfl, o1, o2, rfl⟩)
    go_ret
    exact ⟨ret_bool (by simp [pipeB, *]), (by repeat (first | exact Below.refl _ _ | (refine Below.alloc ?_ (by simp; try omega) _)))⟩
  by_cases h5 : inB 0 1000 p.taps = true
  rotate_left
  · have h5 : inB 0 1000 p.taps = false := by simpa using h5
    go_enter Try.func75, Try.ntmps75
    go_wp2_with (go_at_call 61; refine (within_one _ _ _ _ _ _ (by go_simp; rfl) (by go_simp)).mono ?_; rintro e w' ⟨rfl, o1, o2, rfl⟩)
    go_ret
    exact ⟨ret_bool (by simp [pipeB, *]), (by repeat (first | exact Below.refl _ _ | (refine Below.alloc ?_ (by simp; try omega) _)))⟩
  go_enter Try.func75, Try.ntmps75
  go_wp2_with (go_at_call 61; refine (within_one _ _ _ _ _ _ (by go_simp; rfl) (by go_simp)).mono ?_; rintro e w' ⟨rfl, o1, o2, rfl⟩)
  go_ret
  exact ⟨ret_bool (by simp [pipeB, *]), (by repeat (first | exact Below.refl _ _ | (refine Below.alloc ?_ (by simp; try omega) _)))⟩
end Go.Proofs.Ytepibjfmeibgcaa
