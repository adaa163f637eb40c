/- What the check of flows and frozen pipes, the loss of a pipe, and line.Loss return. -/
import Derived.Test.YtepibjfmeibgcaaCl
namespace Go.Proofs.Ytepibjfmeibgcaa
open Go.RowKit
set_option linter.unusedVariables false
theorem Rd.take {α : Type} {enc : α → List Value} {size : Nat} {w : World} {lo hi : Nat} {A : Option Addr} {xs : List α} (h : Rd enc size w lo hi A xs) (k : Nat) : Rd enc size w lo hi A (xs.take k) := fun hn => by
  rw [List.length_take] at hn
  obtain ⟨b, off, e, h1, h2, hc⟩ := h (by omega)
  refine ⟨b, off, e, h1, h2, fun i x hx j u hu => hc i x ?_ j u hu⟩
  have hi := (List.getElem?_eq_some_iff.1 hx).1
  rw [List.length_take] at hi
  rw [List.getElem?_take_of_lt (by omega)] at hx
  exact hx
/-- xs[:k]. -/
theorem run_upto {P : Program} {t e : TypeId} {i : TypeInfo} (ht : P.underlying t = some (.slice e)) (hi : P.info? e = some i) (A : Option Addr) (n c k : Nat) (hk : k ≤ c) :
    ∀ W : World, (Instr.sliceAt t (.slice A n c) none (some (.int .i64 (k : Int))) none).run P W = .ok (.slice A k c) W := fun W => by
  have h1 : (k : Int) ≤ c := by omega
  simp [Instr.sliceAt, Instr.slice, Instr.sliceBounds, Instr.sliceBound, run_underlying ht, sizeOf, typeInfo, hi, asIntOf]
  cases A <;> simp [Addr.add] <;> (intro h; omega)
theorem RdR.at_ {w : World} {lo hi : Nat} {A : Option Addr} {xs : List Rng} {k : Nat} (h : RdR w lo hi A xs) (hk : k < xs.length) : ∃ b off, A = some ⟨b, off, none⟩ ∧ lo ≤ b ∧ b < hi ∧
    w.cell? ⟨b, off + k * 2, none⟩ = some (.int .i64 xs[k].low) ∧ w.cell? ⟨b, off + k * 2 + 1, none⟩ = some (.int .i64 xs[k].high) := by
  obtain ⟨b, off, e, h1, h2, hc⟩ := Rd.at_ h hk
  exact ⟨b, off, e, h1, h2, hc 0 _ rfl, hc 1 _ rfl⟩

set_option maxHeartbeats 800000 in
set_option maxRecDepth 100000 in
theorem check1_ (r : Rng) (w : World) : Calls Try.prog 106 #[.agg #[.int .i64 r.low, .int .i64 r.high]] w fun e w' => e = .returned (.bool (!flowB r)) ∧ Below w.heap.size w w' := by
  by_cases h1 : (inB 0 1000000000 r.low && inB 0 1000000000 r.high) = true
  · by_cases h2 : r.high < r.low
    · have hb := Lib.hid (show flowB r = false by unfold flowB; rw [h1]; simp only [Bool.true_and, decide_eq_false_iff_not]; omega)
      go_enter Try.func106, Try.ntmps106
      go_wp2_with (go_at_call 61; refine (within_two _ _ r.low r.high _ _ _ (by go_simp) (by go_simp) (by go_simp)).mono ?_; rintro e w' ⟨rfl, o1, o2, rfl⟩)
      go_ret
      exact ⟨ret_bool (by rw [hb.out]; simp), (by repeat (first | exact Below.refl _ _ | exact (Below.refl _ _) | assumption | (refine Below.setCell ?_ (by first | omega | (simp; done) | (simp; omega) | (simp [World.setCell]; done) | (simp [World.setCell]; omega)) _) | (refine Below.alloc ?_ (by first | omega | (simp; done) | (simp; omega) | (simp [World.setCell]; done) | (simp [World.setCell]; omega)) _) | (refine Below.drewN_ ?_ _) | (refine Below.drew ?_)))⟩
    · have hb := Lib.hid (show flowB r = true by unfold flowB; rw [h1]; simp only [Bool.true_and, decide_eq_true_eq]; omega)
      have h3 : decide (r.high < r.low) = false := by simpa using h2
      go_enter Try.func106, Try.ntmps106
      go_wp2_with (go_at_call 61; refine (within_two _ _ r.low r.high _ _ _ (by go_simp) (by go_simp) (by go_simp)).mono ?_; rintro e w' ⟨rfl, o1, o2, rfl⟩)
      go_ret
      exact ⟨ret_bool (by rw [hb.out]; first | (simp; done) | (simp; omega)), (by repeat (first | exact Below.refl _ _ | exact (Below.refl _ _) | assumption | (refine Below.setCell ?_ (by first | omega | (simp; done) | (simp; omega) | (simp [World.setCell]; done) | (simp [World.setCell]; omega)) _) | (refine Below.alloc ?_ (by first | omega | (simp; done) | (simp; omega) | (simp [World.setCell]; done) | (simp [World.setCell]; omega)) _) | (refine Below.drewN_ ?_ _) | (refine Below.drew ?_)))⟩
  · have h1 : (inB 0 1000000000 r.low && inB 0 1000000000 r.high) = false := by simpa using h1
    have hb := Lib.hid (show flowB r = false by unfold flowB; rw [h1]; rfl)
    go_enter Try.func106, Try.ntmps106
    go_wp2_with (go_at_call 61; refine (within_two _ _ r.low r.high _ _ _ (by go_simp) (by go_simp) (by go_simp)).mono ?_; rintro e w' ⟨rfl, o1, o2, rfl⟩; rw [h1])
    go_ret
    exact ⟨ret_bool (by rw [hb.out]; simp), (by repeat (first | exact Below.refl _ _ | exact (Below.refl _ _) | assumption | (refine Below.setCell ?_ (by first | omega | (simp; done) | (simp; omega) | (simp [World.setCell]; done) | (simp [World.setCell]; omega)) _) | (refine Below.alloc ?_ (by first | omega | (simp; done) | (simp; omega) | (simp [World.setCell]; done) | (simp [World.setCell]; omega)) _) | (refine Below.drewN_ ?_ _) | (refine Below.drew ?_)))⟩

set_option maxHeartbeats 800000 in
set_option maxRecDepth 100000 in
theorem indexR_ (A : Option Addr) (c lo hi : Nat) (xs : List Rng) (w : World) (hR : RdR w lo hi A xs) (hhi : hi ≤ w.heap.size) (hn : xs.length ≤ maxLen) :
    Calls Try.prog 114 #[.slice A xs.length c, .func (.func 106) #[] #[]] w fun e w' => (∃ n : Int, e = .returned (.int .i64 n) ∧ decide (0 ≤ n) = !flowsB xs) ∧ Below w.heap.size w w' := by
  unfold maxLen at hn
  go_enter Try.func114, Try.ntmps114
  go_wp2
  go_loopw [8] (fun i wr => ∃ k : Nat, k ≤ xs.length ∧ i = .int .i64 k ∧ flowsB (xs.take k) = true ∧ Below w.heap.size w wr) (fun i _ => xs.length - (intOf i).toNat)
  case atStart => exact ⟨0, Nat.zero_le _, rfl, rfl, Below.refl _ _⟩
  case round =>
    obtain ⟨k, hk, rfl, hall, hB⟩ := hrel
    have hzz := hB.size
    have HALL := Lib.hid hall
    clear hall
    by_cases hlt : k < xs.length
    · obtain ⟨bb, off, rfl, _, _, c0, c1⟩ := RdR.at_ (hR.below hB hhi) hlt
      have hs := Lib.hid (flowsB_snoc xs k hlt)
      by_cases hx : flowB xs[k] = true
      · go_wp2_with (go_at_call 106; refine (check1_ xs[k] _).mono ?_; rintro e w1 ⟨rfl, hb1⟩; have hB1 := Below.step (B := w.heap.size) (a := w) (by repeat (first | exact Below.refl _ _ | exact (Below.refl _ _) | assumption | (refine Below.setCell ?_ (by first | omega | (simp; done) | (simp; omega) | (simp [World.setCell]; done) | (simp [World.setCell]; omega)) _) | (refine Below.alloc ?_ (by first | omega | (simp; done) | (simp; omega) | (simp [World.setCell]; done) | (simp [World.setCell]; omega)) _) | (refine Below.drewN_ ?_ _) | (refine Below.drew ?_))) hb1 (by first | omega | (simp; done) | (simp; omega) | (simp [World.setCell]; done) | (simp [World.setCell]; omega)))
        exact ⟨⟨k + 1, by omega, by go_num, by rw [hs.out, HALL.out, hx]; rfl, hB1⟩, by simp [intOf]; omega⟩
      · have hx : flowB xs[k] = false := by simpa using hx
        go_wp2_with (go_at_call 106; refine (check1_ xs[k] _).mono ?_; rintro e w1 ⟨rfl, hb1⟩; have hB1 := Below.step (B := w.heap.size) (a := w) (by repeat (first | exact Below.refl _ _ | exact (Below.refl _ _) | assumption | (refine Below.setCell ?_ (by first | omega | (simp; done) | (simp; omega) | (simp [World.setCell]; done) | (simp [World.setCell]; omega)) _) | (refine Below.alloc ?_ (by first | omega | (simp; done) | (simp; omega) | (simp [World.setCell]; done) | (simp [World.setCell]; omega)) _) | (refine Below.drewN_ ?_ _) | (refine Below.drew ?_))) hb1 (by first | omega | (simp; done) | (simp; omega) | (simp [World.setCell]; done) | (simp [World.setCell]; omega)))
        go_ret
        exact ⟨⟨_, rfl, by rw [flowsB_false xs k hlt hx]; simp⟩, hB1⟩
    · obtain rfl : k = xs.length := by omega
      go_wp2
      go_ret
      have := HALL.out
      rw [List.take_length] at this
      exact ⟨⟨_, rfl, by rw [this]; rfl⟩, hB⟩
theorem containsR_ (A : Option Addr) (c lo hi : Nat) (xs : List Rng) (w : World) (hR : RdR w lo hi A xs) (hhi : hi ≤ w.heap.size) (hn : xs.length ≤ maxLen) :
    Calls Try.prog 105 #[.slice A xs.length c, .func (.func 106) #[] #[]] w fun e w' => e = .returned (.bool (!flowsB xs)) ∧ Below w.heap.size w w' := by
  go_enter Try.func105, Try.ntmps105
  go_wp2_with (go_at_call 114; refine (indexR_ A c lo hi xs _ hR hhi hn).mono ?_; rintro e w' ⟨⟨n, rfl, hn'⟩, hb⟩; have HN := Lib.hid hn'; clear hn')
  go_ret
  exact ⟨ret_bool HN.out, hb⟩

set_option maxHeartbeats 800000 in
set_option maxRecDepth 100000 in
theorem index_ (A : Option Addr) (c lo hi : Nat) (xs : List Int) (x : Int) (w : World) (hR : RdI w lo hi A xs) (hn : xs.length ≤ maxLen) :
    Calls Try.prog 115 #[.slice A xs.length c, .int .i64 x] w fun e w' => (∃ n : Int, e = .returned (.int .i64 n) ∧ decide (0 ≤ n) = memB xs x) ∧ w = w' := by
  unfold maxLen at hn
  go_enter Try.func115, Try.ntmps115
  go_wp2
  go_loop [8] (fun i => ∃ k : Nat, k ≤ xs.length ∧ i = .int .i64 k ∧ memB (xs.take k) x = false) (fun i => xs.length - (intOf i).toNat)
  case atStart => exact ⟨0, Nat.zero_le _, rfl, rfl⟩
  case round =>
    obtain ⟨k, hk, rfl, hall⟩ := hrel
    have HALL := Lib.hid hall
    clear hall
    by_cases hlt : k < xs.length
    · obtain ⟨bb, off, rfl, _, _, hcell⟩ := hR.at_ hlt
      by_cases hx : x = xs[k]
      · have hx1 : (x == xs[k]) = true := by simpa using hx
        have hm := Lib.hid (show memB xs x = true by rw [hx]; exact memB_at hlt)
        clear hx
        go_wp2
        go_ret
        exact ⟨⟨_, rfl, by rw [hm.out]; simp⟩, rfl⟩
      · have hx1 : (x == xs[k]) = false := by simpa using hx
        have hm := Lib.hid (memB_snoc hlt HALL.out hx)
        clear hx
        go_wp2
        go_round
        case rel => exact ⟨k + 1, by omega, by go_num, hm.out⟩
        case measure => simp [intOf]; omega
    · obtain rfl : k = xs.length := by omega
      go_wp2
      go_ret
      have := HALL.out
      rw [List.take_length] at this
      exact ⟨⟨_, rfl, by rw [this]; rfl⟩, rfl⟩
theorem contains_ (A : Option Addr) (c lo hi : Nat) (xs : List Int) (x : Int) (w : World) (hR : RdI w lo hi A xs) (hn : xs.length ≤ maxLen) :
    Calls Try.prog 107 #[.slice A xs.length c, .int .i64 x] w fun e w' => e = .returned (.bool (memB xs x)) ∧ w = w' := by
  go_enter Try.func107, Try.ntmps107
  go_wp2_with (go_at_call 115; refine (index_ A c lo hi xs x _ hR hn).mono ?_; rintro e w' ⟨⟨n, rfl, hn'⟩, rfl⟩; have HN := Lib.hid hn'; clear hn')
  go_ret
  exact ⟨ret_bool HN.out, rfl⟩

theorem contains_n (A : Option Addr) (c lo hi n : Nat) (xs : List Int) (x : Int) (w : World) (hl : xs.length = n) (hR : RdI w lo hi A xs) (hn : xs.length ≤ maxLen) :
    Calls Try.prog 107 #[.slice A n c, .int .i64 x] w fun e w' => e = .returned (.bool (memB xs x)) ∧ w = w' := by
  subst hl; exact contains_ A c lo hi xs x w hR hn
set_option maxHeartbeats 2000000 in
set_option maxRecDepth 100000 in
theorem check_ok_ (pump : Int) (A B C : Option Addr) (c cb cc m l2 h2 l3 h3 : Nat) (flows : List Rng) (frozen : List Int) (w : World) (hF : RdR w l2 h2 B flows) (hh2 : h2 ≤ w.heap.size) (hZ : RdI w l3 h3 C frozen) (hh3 : h3 ≤ w.heap.size)
    (hm : m ≤ 60) (hfl : flows.length ≤ maxLen) (hzl : frozen.length ≤ cc) (hzl' : frozen.length ≤ maxLen) (h1 : flows.length = m) (hfb : flowsB flows = true) :
    Calls Try.prog 88 #[.agg #[.int .i64 pump, .slice A m c], .slice B flows.length cb, .slice C frozen.length cc] w fun e w' => e = .returned (.int .i64 (chkF m flows frozen)) ∧ Below w.heap.size w w' := by
  obtain ⟨i0, ei0, ez0, ez1, ez2⟩ := info_parts infoInt
  have hup := fun (k : Nat) (hk : k ≤ cc) => run_upto (P := Try.prog) Try.underlying31 ei0 C frozen.length cc k hk
  clear ez0 ez1 ez2 ei0
  have hfl' := hfl
  unfold maxLen at hfl
  have hzl2 := hzl'
  unfold maxLen at hzl2
  have HC := Lib.hid (chkF_frz (frozen := frozen) h1 hfb)
  have hne : ((flows.length : Int) != (m : Int)) = false := by rw [h1]; simp
  clear h1
  go_enter Try.func88, Try.ntmps88
  go_wp2_with (go_at_call 105; refine (containsR_ B cb l2 h2 flows _ (hF.alloc (by omega) _) (by simp; omega) hfl').mono ?_; rintro e w1 ⟨rfl, hb⟩; rw [hfb]; obtain ⟨hc1, hf1, hz1⟩ := bcell hb; have hB1 := Below.step (B := w.heap.size) (a := w) (by repeat (first | exact Below.refl _ _ | exact (Below.refl _ _) | assumption | (refine Below.setCell ?_ (by first | omega | (simp; done) | (simp; omega) | (simp [World.setCell]; done) | (simp [World.setCell]; omega)) _) | (refine Below.alloc ?_ (by first | omega | (simp; done) | (simp; omega) | (simp [World.setCell]; done) | (simp [World.setCell]; omega)) _) | (refine Below.drewN_ ?_ _) | (refine Below.drew ?_))) hb (by first | omega | (simp; done) | (simp; omega) | (simp [World.setCell]; done) | (simp [World.setCell]; omega)))
  have hT : Blk w1 w.heap.size 111 #[.int .i64 pump, .slice A m c] := (Blk.new w _ _).below hb (by simp)
  have hZ1 := (hZ.alloc (by omega) _).below hb (by simp; omega)
  simp only [World.size_alloc] at hz1
  clear hc1 hf1
  go_loopw [22] (fun i wr => ∃ k : Nat, k ≤ frozen.length ∧ i = .int .i64 k ∧ frzF m (frozen.drop k) (frozen.take k) = frzF m frozen [] ∧ Below w1.heap.size w1 wr) (fun i _ => frozen.length - (intOf i).toNat)
  case atStart => exact ⟨0, Nat.zero_le _, rfl, rfl, Below.refl _ _⟩
  case round =>
    obtain ⟨k, hk, rfl, hall, hB⟩ := hrel
    have HALL := Lib.hid hall
    clear hall
    have hzz := hB.size
    have hTr := hT.below hB (by omega)
    have hZr := hZ1.below hB (by omega)
    have t1 : wr.cell? ⟨w.heap.size, 1, none⟩ = some (.slice A m c) := by rw [hTr.cell]; rfl
    have hBo : Below w.heap.size w wr := hB1.trans (hB.mono (by omega))
    by_cases hlt : k < frozen.length
    · obtain ⟨bb, off, rfl, hb1, hb2, hcell⟩ := RdI.at_ hZr hlt
      have hk2 := hup k (by omega)
      clear hup
      have hwz : w.heap.size < wr.heap.size := by omega
      by_cases hin : inB 1 (m - 1) frozen[k] = true
      · by_cases hmm : memB (frozen.take k) frozen[k] = true
        · have hf := Lib.hid (frzF_twice m frozen k hlt hin hmm)
          go_wp2_with (first
            | (go_at_call 61; refine (within_one _ _ frozen[k] _ _ _ (by go_simp) (by go_simp)).mono ?_; rintro e w' ⟨rfl, o1, o2, rfl⟩; rw [hin])
            | (go_at_call 107; refine (contains_n _ cc l3 h3 k (frozen.take k) frozen[k] _ (by simp; omega) ((((hZr.alloc (by omega) _).alloc (by first | omega | (simp; done) | (simp; omega) | (simp [World.setCell]; omega)) _).alloc (by first | omega | (simp; done) | (simp; omega) | (simp [World.setCell]; omega)) _).take k) (by unfold maxLen; simp; omega)).mono ?_; rintro e w' ⟨rfl, rfl⟩; rw [hmm]))
          go_ret
          exact ⟨by rw [HC.out, ← HALL.out, hf.out]; rfl, (by repeat (first | exact Below.refl _ _ | exact (hBo) | assumption | (refine Below.setCell ?_ (by first | omega | (simp; done) | (simp; omega) | (simp [World.setCell]; done) | (simp [World.setCell]; omega)) _) | (refine Below.alloc ?_ (by first | omega | (simp; done) | (simp; omega) | (simp [World.setCell]; done) | (simp [World.setCell]; omega)) _) | (refine Below.drewN_ ?_ _) | (refine Below.drew ?_)))⟩
        · have hmm : memB (frozen.take k) frozen[k] = false := by simpa using hmm
          have hf := Lib.hid (frzF_step m frozen k hlt hin hmm)
          go_wp2_with (first
            | (go_at_call 61; refine (within_one _ _ frozen[k] _ _ _ (by go_simp) (by go_simp)).mono ?_; rintro e w' ⟨rfl, o1, o2, rfl⟩; rw [hin])
            | (go_at_call 107; refine (contains_n _ cc l3 h3 k (frozen.take k) frozen[k] _ (by simp; omega) ((((hZr.alloc (by omega) _).alloc (by first | omega | (simp; done) | (simp; omega) | (simp [World.setCell]; omega)) _).alloc (by first | omega | (simp; done) | (simp; omega) | (simp [World.setCell]; omega)) _).take k) (by unfold maxLen; simp; omega)).mono ?_; rintro e w' ⟨rfl, rfl⟩; rw [hmm]))
          exact ⟨⟨k + 1, by omega, by go_num, by rw [← hf.out, HALL.out], (by repeat (first | exact Below.refl _ _ | exact (hB) | assumption | (refine Below.setCell ?_ (by first | omega | (simp; done) | (simp; omega) | (simp [World.setCell]; done) | (simp [World.setCell]; omega)) _) | (refine Below.alloc ?_ (by first | omega | (simp; done) | (simp; omega) | (simp [World.setCell]; done) | (simp [World.setCell]; omega)) _) | (refine Below.drewN_ ?_ _) | (refine Below.drew ?_)))⟩, by simp [intOf]; omega⟩
      · have hin : inB 1 (m - 1) frozen[k] = false := by simpa using hin
        have hf := Lib.hid (frzF_none m frozen k hlt hin)
        go_wp2_with (go_at_call 61; refine (within_one _ _ frozen[k] _ _ _ (by go_simp) (by go_simp)).mono ?_; rintro e w' ⟨rfl, o1, o2, rfl⟩; rw [hin])
        go_ret
        exact ⟨by rw [HC.out, ← HALL.out, hf.out]; rfl, (by repeat (first | exact Below.refl _ _ | exact (hBo) | assumption | (refine Below.setCell ?_ (by first | omega | (simp; done) | (simp; omega) | (simp [World.setCell]; done) | (simp [World.setCell]; omega)) _) | (refine Below.alloc ?_ (by first | omega | (simp; done) | (simp; omega) | (simp [World.setCell]; done) | (simp [World.setCell]; omega)) _) | (refine Below.drewN_ ?_ _) | (refine Below.drew ?_)))⟩
    · obtain rfl : k = frozen.length := by omega
      clear hup
      go_wp2
      go_ret
      have := HALL.out
      rw [List.drop_length] at this
      exact ⟨by rw [HC.out, ← this]; rfl, hBo⟩
set_option maxHeartbeats 800000 in
set_option maxRecDepth 100000 in
theorem check_bad_ (pump : Int) (A B C : Option Addr) (c cb cc m l2 h2 : Nat) (flows : List Rng) (frozen : List Int) (w : World) (hF : RdR w l2 h2 B flows) (hh2 : h2 ≤ w.heap.size) (hm : m ≤ 60) (hfl : flows.length ≤ maxLen) (h1 : flows.length = m) (hfb : flowsB flows = false) :
    Calls Try.prog 88 #[.agg #[.int .i64 pump, .slice A m c], .slice B flows.length cb, .slice C frozen.length cc] w fun e w' => e = .returned (.int .i64 (chkF m flows frozen)) ∧ Below w.heap.size w w' := by
  have hfl' := hfl
  unfold maxLen at hfl
  have HC := Lib.hid (chkF_bad (frozen := frozen) h1 hfb)
  have hne : ((flows.length : Int) != (m : Int)) = false := by rw [h1]; simp
  clear h1
  go_enter Try.func88, Try.ntmps88
  go_wp2_with (go_at_call 105; refine (containsR_ B cb l2 h2 flows _ (hF.alloc (by omega) _) (by simp; omega) hfl').mono ?_; rintro e w1 ⟨rfl, hb⟩; rw [hfb]; obtain ⟨hc1, hf1, hz1⟩ := bcell hb; have hB1 := Below.step (B := w.heap.size) (a := w) (by repeat (first | exact Below.refl _ _ | exact (Below.refl _ _) | assumption | (refine Below.setCell ?_ (by first | omega | (simp; done) | (simp; omega) | (simp [World.setCell]; done) | (simp [World.setCell]; omega)) _) | (refine Below.alloc ?_ (by first | omega | (simp; done) | (simp; omega) | (simp [World.setCell]; done) | (simp [World.setCell]; omega)) _) | (refine Below.drewN_ ?_ _) | (refine Below.drew ?_))) hb (by first | omega | (simp; done) | (simp; omega) | (simp [World.setCell]; done) | (simp [World.setCell]; omega)))
  go_ret
  exact ⟨by rw [HC.out]; try rfl, hB1⟩
set_option maxHeartbeats 800000 in
set_option maxRecDepth 100000 in
theorem check_len_ (pump : Int) (A B C : Option Addr) (c cb cc m : Nat) (flows : List Rng) (frozen : List Int) (w : World) (hm : m ≤ 60) (hfl : flows.length ≤ maxLen) (h1 : flows.length ≠ m) :
    Calls Try.prog 88 #[.agg #[.int .i64 pump, .slice A m c], .slice B flows.length cb, .slice C frozen.length cc] w fun e w' => e = .returned (.int .i64 (chkF m flows frozen)) ∧ Below w.heap.size w w' := by
  unfold maxLen at hfl
  have HC := Lib.hid (chkF_len (frozen := frozen) h1)
  have hne : ((flows.length : Int) != (m : Int)) = true := by rw [bne_iff_ne]; omega
  clear h1
  go_enter Try.func88, Try.ntmps88
  go_wp2
  go_ret
  exact ⟨by rw [HC.out]; try rfl, (by repeat (first | exact Below.refl _ _ | exact (Below.refl _ _) | assumption | (refine Below.setCell ?_ (by first | omega | (simp; done) | (simp; omega) | (simp [World.setCell]; done) | (simp [World.setCell]; omega)) _) | (refine Below.alloc ?_ (by first | omega | (simp; done) | (simp; omega) | (simp [World.setCell]; done) | (simp [World.setCell]; omega)) _) | (refine Below.drewN_ ?_ _) | (refine Below.drew ?_)))⟩
theorem checkF_ (pump : Int) (A B C : Option Addr) (c cb cc m l2 h2 l3 h3 : Nat) (flows : List Rng) (frozen : List Int) (w : World) (hF : RdR w l2 h2 B flows) (hh2 : h2 ≤ w.heap.size) (hZ : RdI w l3 h3 C frozen) (hh3 : h3 ≤ w.heap.size)
    (hm : m ≤ 60) (hfl : flows.length ≤ maxLen) (hzl : frozen.length ≤ cc) (hzl' : frozen.length ≤ maxLen) :
    Calls Try.prog 88 #[.agg #[.int .i64 pump, .slice A m c], .slice B flows.length cb, .slice C frozen.length cc] w fun e w' => e = .returned (.int .i64 (chkF m flows frozen)) ∧ Below w.heap.size w w' := by
  by_cases h1 : flows.length = m
  · by_cases hfb : flowsB flows = true
    · exact check_ok_ pump A B C c cb cc m l2 h2 l3 h3 flows frozen w hF hh2 hZ hh3 hm hfl hzl hzl' h1 hfb
    · exact check_bad_ pump A B C c cb cc m l2 h2 flows frozen w hF hh2 hm hfl h1 (by simpa using hfb)
  · exact check_len_ pump A B C c cb cc m flows frozen w hm hfl h1
end Go.Proofs.Ytepibjfmeibgcaa
