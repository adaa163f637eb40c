/- The law of what arrives, walked. -/
import Derived.Test.YtepibjfmeibgcaaLc
namespace Go.Proofs.Ytepibjfmeibgcaa
open Go.RowKit
set_option linter.unusedVariables false
theorem exV_nil (rs : List Rng) : exV rs [] = lowF rs := by funext k; unfold exV; rw [if_neg (by simp)]
theorem sg_rng {a : Nat → Int} : ∀ k, (∀ j, j < k → 0 ≤ a j ∧ a j ≤ 1000000000) → 0 ≤ sg k a ∧ sg k a ≤ k * 1000000000 := by
  intro k
  induction k with
  | zero => intro _; simp [sg]
  | succ k ih =>
    intro h
    have h1 := ih (fun j hj => h j (by omega))
    have h2 := h k (by omega)
    rw [sg_succ]; omega
/-- What comes into a node, if nothing on its way is frozen. -/
def arrF (ps : List Pipe) (f : Nat → Int) (ice i : Nat) : Int := if memB (wayL ps i) ice then 0 else f i
theorem wide_vac {n : Net} (hok : netB n = true) {ice : Nat} (h1 : 1 ≤ ice) (h2 : ice < n.pipes.length) {b : Int} (hb0 : n.pipes[ice].bore ≤ b) (hb : b ≤ 80) {f : Nat → Int} (hf : ∀ k, k < n.pipes.length → 0 ≤ f k ∧ f k ≤ 1000000000) {k : Nat} (hk : k < n.pipes.length) :
    vacV n.pump n.pipes f [] k ≤ vacV n.pump (n.pipes.set ice { n.pipes[ice] with bore := b }) f [] k := by
  have hln := netB_len hok
  have ht := netB_tree hok
  have hnk := netB_good hok
  have hpi := hnk.2 ice h1 h2
  rw [pAt_eq h2] at hpi
  have hle : (n.pipes.set ice { n.pipes[ice] with bore := b }).length = n.pipes.length := by simp
  have hok' := netB_wide hok h1 h2 (b := b) ⟨by have := hpi.2.2.1; omega, hb⟩
  have hat : ∀ j (hj : j < n.pipes.length), (n.pipes.set ice { n.pipes[ice] with bore := b })[j]'(by rw [hle]; exact hj) = if ice = j then { n.pipes[ice] with bore := b } else n.pipes[j] := fun j hj => by rw [List.getElem_set]
  have hpar : ∀ j, j < n.pipes.length → par (n.pipes.set ice { n.pipes[ice] with bore := b }) j = par n.pipes j := fun j hj => by
    rw [par_nat hj, par_nat (by rw [hle]; exact hj), hat j hj]
    split
    · rename_i h; subst h; rfl
    · rfl
  refine vacV_le hle hpar ht (netB_tree hok') f f [] (fun j h0 hj => ?_) k hk
  rw [ldV_eqp hle hpar]
  rw [pAt_eq hj, pAt_eq (by rw [hle]; exact hj), hat j hj]
  split
  · rename_i h
    subst h
    refine loss_wide (q := { n.pipes[ice] with bore := b }) hpi ?_ rfl rfl hb0 (ldV_bd [] ht hln.2 hf hj).1
    exact ⟨hpi.1, hpi.2.1, by have := hpi.2.2.1; simp only; omega, hb, hpi.2.2.2.2.1, hpi.2.2.2.2.2⟩
  · exact Int.le_refl _
set_option maxHeartbeats 4000000 in
set_option maxRecDepth 100000 in
theorem LineArrives_ (n : Net) (rs : List Rng) (a0 a1 a2 : Int) (A B : Option Addr) (c cb : Nat) (w : World) (hR : RdP w 0 w.heap.size A n.pipes) (hc : n.pipes.length ≤ c) (hm : c ≤ maxLen)
    (hF : RdR w 0 w.heap.size B rs) (hcb : rs.length ≤ cb) (hmb : cb ≤ maxLen) (ha0 : 0 ≤ a0 ∧ a0 ≤ 65535) (ha1 : 0 ≤ a1 ∧ a1 ≤ 65535) (ha2 : 0 ≤ a2 ∧ a2 ≤ 65535) :
    Calls Try.prog 4 #[.agg #[.int .i64 n.pump, .slice A n.pipes.length c], .slice B rs.length cb, .agg #[.int .u16 a0, .int .u16 a1, .int .u16 a2]] w fun e w' => e = .returned (.bool true) ∧ Below w.heap.size w w' := by
  have hn : n.pipes.length ≤ maxLen := Nat.le_trans hc hm
  have hnb : rs.length ≤ maxLen := Nat.le_trans hcb hmb
  have hm9 : maxLen ≤ 9223372036854775807 := by unfold maxLen; omega
  obtain ⟨a00, a01⟩ := ha0
  obtain ⟨a10, a11⟩ := ha1
  obtain ⟨a20, a21⟩ := ha2
  go_enter Try.func4, Try.ntmps4
  go_wp2_with fail
  have hB : Below w.heap.size w ((w.alloc (.cells #[.int .i64 n.pump, .slice A n.pipes.length c] 24)).alloc (.cells #[.int .u16 a0, .int .u16 a1, .int .u16 a2] 42)) := (by repeat (first | exact Below.refl _ _ | exact (Below.refl _ _) | assumption | (refine Below.setCell ?_ (by first | omega | (simp; done) | (simp; omega) | (simp [World.setCell]; done) | (simp [World.setCell]; omega)) _) | (refine Below.alloc ?_ (by first | omega | (simp; done) | (simp; omega) | (simp [World.setCell]; done) | (simp [World.setCell]; omega)) _) | (refine Below.drewN_ ?_ _) | (refine Below.drew ?_)))
  have hN : Blk ((w.alloc (.cells #[.int .i64 n.pump, .slice A n.pipes.length c] 24)).alloc (.cells #[.int .u16 a0, .int .u16 a1, .int .u16 a2] 42)) w.heap.size 24 #[.int .i64 n.pump, .slice A n.pipes.length c] := (Blk.new w _ _).alloc _
  have hX : Blk ((w.alloc (.cells #[.int .i64 n.pump, .slice A n.pipes.length c] 24)).alloc (.cells #[.int .u16 a0, .int .u16 a1, .int .u16 a2] 42)) (w.heap.size + 1) 42 #[.int .u16 a0, .int .u16 a1, .int .u16 a2] := blk_new' (w.alloc (.cells #[.int .i64 n.pump, .slice A n.pipes.length c] 24)) (w.heap.size + 1) _ _ (by simp)
  generalize ((w.alloc (.cells #[.int .i64 n.pump, .slice A n.pipes.length c] 24)).alloc (.cells #[.int .u16 a0, .int .u16 a1, .int .u16 a2] 42)) = V at *
  replace hR := (hR.below hB (Nat.le_refl _)).mono (Nat.zero_le _) hB.size
  replace hF := (hF.below hB (Nat.le_refl _)).mono (Nat.zero_le _) hB.size
  have n0 := hN.cell 0; have nf0 := hN.frozen 0; have n1 := hN.cell 1; have nf1 := hN.frozen 1; simp at n0 n1
  have x0 := hX.cell 0; have xf0 := hX.frozen 0; have x1 := hX.cell 1; have xf1 := hX.frozen 1; have x2 := hX.cell 2; have xf2 := hX.frozen 2; simp at x0 x1 x2
  have nl := hN.lt
  have xl := hX.lt
  refine (goodC n A c _ _ 40 _ hR (by omega) hc hn (by omega)).mono ?_
  rintro e V1 ⟨rfl, hb⟩
  replace hN := hN.below hb hN.lt; replace hX := hX.below hb hX.lt; replace hR := (hR.below hb (by first | exact Nat.le_refl _ | omega)).mono (Nat.zero_le _) hb.size; replace hF := (hF.below hb (by first | exact Nat.le_refl _ | omega)).mono (Nat.zero_le _) hb.size; replace hB := hB.trans (hb.mono (by first | exact hB.size | omega)); clear n0 nf0 n1 nf1; have n0 := hN.cell 0; have nf0 := hN.frozen 0; have n1 := hN.cell 1; have nf1 := hN.frozen 1; simp at n0 n1; replace nl := hN.lt; clear x0 xf0 x1 xf1 x2 xf2; have x0 := hX.cell 0; have xf0 := hX.frozen 0; have x1 := hX.cell 1; have xf1 := hX.frozen 1; have x2 := hX.cell 2; have xf2 := hX.frozen 2; simp at x0 x1 x2; replace xl := hX.lt; clear hb
  cases hg : goodB n 40 with
  | false =>
    go_wp2_with fail
    refine (known_ _).mono ?_
    rintro e w2 ⟨rfl, hb2⟩
    go_wp2_with fail
    go_ret
    exact ⟨rfl, hB.trans (hb2.mono hB.size)⟩
  | true =>
    obtain ⟨hok, hl40⟩ := goodB_true hg
    have hln := netB_len hok
    by_cases hrl : rs.length = n.pipes.length
    rotate_left
    · have hne : ((rs.length : Int) != (n.pipes.length : Int)) = true := by simp; omega
      clear hrl
      go_wp2_with fail
      refine (known_ _).mono ?_
      rintro e w2 ⟨rfl, hb2⟩
      go_wp2_with fail
      go_ret
      exact ⟨rfl, hB.trans (hb2.mono hB.size)⟩
    have hne : ((rs.length : Int) != (n.pipes.length : Int)) = false := by rw [hrl]; simp
    have HRL := Lib.hid hrl
    have hrn : rs.length ≤ 40 := by omega
    clear hrl
    by_cases hl2 : (n.pipes.length : Int) < 2
    · go_wp2_with fail
      refine (known_ _).mono ?_
      rintro e w2 ⟨rfl, hb2⟩
      go_wp2_with fail
      go_ret
      exact ⟨rfl, hB.trans (hb2.mono hB.size)⟩
    have hl2' : (2 : Int) ≤ (n.pipes.length : Int) := by omega
    clear hl2
    go_wp2_with fail
    refine (truly_ B none cb 0 _ _ 0 0 rs [] _ hF (by omega) Rd.nil (Nat.zero_le _) (by omega) (Nat.zero_le _) (fun x hx => by cases hx)).mono ?_
    rintro e V2 ⟨ht, hb⟩
    unfold TrulyR at ht
    cases hfl : flowsB rs with
    | false =>
      simp only [hfl, Bool.false_eq_true, if_false] at ht
      subst ht
      replace hN := hN.below hb hN.lt; replace hX := hX.below hb hX.lt; replace hR := (hR.below hb (by first | exact Nat.le_refl _ | omega)).mono (Nat.zero_le _) hb.size; replace hB := hB.trans (hb.mono (by first | exact hB.size | omega)); clear n0 nf0 n1 nf1; have n0 := hN.cell 0; have nf0 := hN.frozen 0; have n1 := hN.cell 1; have nf1 := hN.frozen 1; simp at n0 n1; replace nl := hN.lt; clear x0 xf0 x1 xf1 x2 xf2; have x0 := hX.cell 0; have xf0 := hX.frozen 0; have x1 := hX.cell 1; have xf1 := hX.frozen 1; have x2 := hX.cell 2; have xf2 := hX.frozen 2; simp at x0 x1 x2; replace xl := hX.lt; clear hb
      go_wp2_with fail
      refine (known_ _).mono ?_
      rintro e w2 ⟨rfl, hb2⟩
      go_wp2_with fail
      go_ret
      exact ⟨rfl, hB.trans (hb2.mono hB.size)⟩
    | true =>
      simp only [hfl, if_true] at ht
      obtain ⟨D0, cd0, rfl, hcd0, hE⟩ := ht
      have f1 : ∀ k, k < n.pipes.length → 0 ≤ lowF rs k ∧ lowF rs k ≤ 1000000000 := fun k hk => by have := flow_at hfl (show k < rs.length by have := HRL.out; omega); omega
      rw [exV_nil, HRL.out] at hE
      rw [HRL.out] at hcd0
      rw [HRL.out]
      have HF1 := Lib.hid f1
      clear f1 hfl hne HRL
      generalize lowF rs = f at *
      replace hN := hN.below hb hN.lt; replace hX := hX.below hb hX.lt; replace hR := (hR.below hb (by first | exact Nat.le_refl _ | omega)).mono (Nat.zero_le _) hb.size; replace hB := hB.trans (hb.mono (by first | exact hB.size | omega)); clear n0 nf0 n1 nf1; have n0 := hN.cell 0; have nf0 := hN.frozen 0; have n1 := hN.cell 1; have nf1 := hN.frozen 1; simp at n0 n1; replace nl := hN.lt; clear x0 xf0 x1 xf1 x2 xf2; have x0 := hX.cell 0; have xf0 := hX.frozen 0; have x1 := hX.cell 1; have xf1 := hX.frozen 1; have x2 := hX.cell 2; have xf2 := hX.frozen 2; simp at x0 x1 x2; replace xl := hX.lt; clear hb
      have hze : V2.heap.size ≤ V2.heap.size := Nat.le_refl _
      obtain ⟨j, hj, hjl⟩ : ∃ j : Nat, a0 % (n.pipes.length : Int) = (j : Int) ∧ j < n.pipes.length := by
        have h1 := Int.emod_nonneg a0 (show (n.pipes.length : Int) ≠ 0 by omega)
        have h2 := Int.emod_lt_of_pos a0 (show 0 < (n.pipes.length : Int) by omega)
        exact ⟨(a0 % (n.pipes.length : Int)).toNat, by omega, by omega⟩
      obtain ⟨ice, hi, hi1, hil⟩ : ∃ ice : Nat, 1 + a1 % ((n.pipes.length : Int) - 1) = (ice : Int) ∧ 1 ≤ ice ∧ ice < n.pipes.length := by
        have h1 := Int.emod_nonneg a1 (show (n.pipes.length : Int) - 1 ≠ 0 by omega)
        have h2 := Int.emod_lt_of_pos a1 (show 0 < (n.pipes.length : Int) - 1 by omega)
        exact ⟨(1 + a1 % ((n.pipes.length : Int) - 1)).toNat, by omega, by omega, by omega⟩
      have HJ := Lib.hid hj
      have HI := Lib.hid hi
      clear hj hi
      go_wp2_with fail
      go_quiet (fail)
      rw [HJ.out, HI.out]
      have HW := Lib.hid (show wrap64 (ice : Int) = (ice : Int) from (IntWalk.i64_left _).symm.trans (IntWalk.i64_in _ (by omega)))
      rw [HW.out]
      have hb : Below V2.heap.size V2 (V2.drewN nq) := Below.drewN_ (Below.refl _ _) _
      generalize V2.drewN nq = V3 at *
      replace hN := hN.below hb hN.lt; replace hX := hX.below hb hX.lt; replace hR := (hR.below hb (by first | exact Nat.le_refl _ | omega)).mono (Nat.zero_le _) hb.size; replace hE := (hE.below hb (by first | exact Nat.le_refl _ | omega)).mono (Nat.zero_le _) hb.size; replace hB := hB.trans (hb.mono (by first | exact hB.size | omega)); clear n0 nf0 n1 nf1; have n0 := hN.cell 0; have nf0 := hN.frozen 0; have n1 := hN.cell 1; have nf1 := hN.frozen 1; simp at n0 n1; replace nl := hN.lt; clear x0 xf0 x1 xf1 x2 xf2; have x0 := hX.cell 0; have xf0 := hX.frozen 0; have x1 := hX.cell 1; have xf1 := hX.frozen 1; have x2 := hX.cell 2; have xf2 := hX.frozen 2; simp at x0 x1 x2; replace xl := hX.lt; clear hb
      clear HJ HI HW
      go_wp2_with fail
      refine (ownC n.pump A c _ _ n.pipes _ hR (by omega) (by omega)).mono ?_
      rintro e V4 ⟨⟨I4, c4, rfl, hc4, hI4⟩, hb⟩
      replace hN := hN.below hb hN.lt; replace hX := hX.below hb hX.lt; replace hR := (hR.below hb (by first | exact Nat.le_refl _ | omega)).mono (Nat.zero_le _) hb.size; replace hE := (hE.below hb (by first | exact Nat.le_refl _ | omega)).mono (Nat.zero_le _) hb.size; replace hB := hB.trans (hb.mono (by first | exact hB.size | omega)); clear n0 nf0 n1 nf1; have n0 := hN.cell 0; have nf0 := hN.frozen 0; have n1 := hN.cell 1; have nf1 := hN.frozen 1; simp at n0 n1; replace nl := hN.lt; clear x0 xf0 x1 xf1 x2 xf2; have x0 := hX.cell 0; have xf0 := hX.frozen 0; have x1 := hX.cell 1; have xf1 := hX.frozen 1; have x2 := hX.cell 2; have xf2 := hX.frozen 2; simp at x0 x1 x2; replace xl := hX.lt; clear hb
      go_wp2_with fail
      refine (rangesM D0 cd0 _ _ n.pipes.length _ _ hE (by omega) (by rw [pairT_len]; omega) (pairT_len _ _ _).symm).mono ?_
      rintro e V5 ⟨⟨J5, c5, rfl, hc5, hJ5⟩, hb⟩
      replace hN := hN.below hb hN.lt; replace hX := hX.below hb hX.lt; replace hR := (hR.below hb (by first | exact Nat.le_refl _ | omega)).mono (Nat.zero_le _) hb.size; replace hE := (hE.below hb (by first | exact Nat.le_refl _ | omega)).mono (Nat.zero_le _) hb.size; replace hI4 := (hI4.below hb (by first | exact Nat.le_refl _ | omega)).mono (Nat.zero_le _) hb.size; replace hB := hB.trans (hb.mono (by first | exact hB.size | omega)); clear n0 nf0 n1 nf1; have n0 := hN.cell 0; have nf0 := hN.frozen 0; have n1 := hN.cell 1; have nf1 := hN.frozen 1; simp at n0 n1; replace nl := hN.lt; clear x0 xf0 x1 xf1 x2 xf2; have x0 := hX.cell 0; have xf0 := hX.frozen 0; have x1 := hX.cell 1; have xf1 := hX.frozen 1; have x2 := hX.cell 2; have xf2 := hX.frozen 2; simp at x0 x1 x2; replace xl := hX.lt; clear hb
      go_wp2_with fail
      have hZ : RdI (V5.alloc (.cells #[.int .i64 (ice : Int)] 3)) 0 (V5.heap.size + 1) (some ⟨V5.heap.size, 0, none⟩) [(ice : Int)] := rd_new (enc := encI) (size := 1) V5 (ice : Int) 3 V5.heap.size rfl
      have hzs : V5.heap.size + 1 ≤ (V5.alloc (.cells #[.int .i64 (ice : Int)] 3)).heap.size := by simp
      have hb : Below V5.heap.size V5 (V5.alloc (.cells #[.int .i64 (ice : Int)] 3)) := (Below.refl _ _).alloc (Nat.le_refl _) _
      generalize V5.alloc (.cells #[.int .i64 (ice : Int)] 3) = V6 at *
      replace hN := hN.below hb hN.lt; replace hX := hX.below hb hX.lt; replace hR := (hR.below hb (by first | exact Nat.le_refl _ | omega)).mono (Nat.zero_le _) hb.size; replace hE := (hE.below hb (by first | exact Nat.le_refl _ | omega)).mono (Nat.zero_le _) hb.size; replace hI4 := (hI4.below hb (by first | exact Nat.le_refl _ | omega)).mono (Nat.zero_le _) hb.size; replace hJ5 := (hJ5.below hb (by first | exact Nat.le_refl _ | omega)).mono (Nat.zero_le _) hb.size; replace hB := hB.trans (hb.mono (by first | exact hB.size | omega)); clear n0 nf0 n1 nf1; have n0 := hN.cell 0; have nf0 := hN.frozen 0; have n1 := hN.cell 1; have nf1 := hN.frozen 1; simp at n0 n1; replace nl := hN.lt; clear x0 xf0 x1 xf1 x2 xf2; have x0 := hX.cell 0; have xf0 := hX.frozen 0; have x1 := hX.cell 1; have xf1 := hX.frozen 1; have x2 := hX.cell 2; have xf2 := hX.frozen 2; simp at x0 x1 x2; replace xl := hX.lt; clear hb
      refine (LoadsX hok HF1.out (frz_one ⟨by omega, by omega⟩) I4 J5 (some ⟨V5.heap.size, 0, none⟩) c4 c5 1 n.pipes.length 1 _ _ _ _ _ _ _ hI4 (by omega) hc4 hJ5 (by omega) rfl hZ (by omega) rfl (by simp) (by unfold maxLen; simp)).mono ?_
      rintro e V7 ⟨⟨L0, cl0, rfl, hL0⟩, hb⟩
      clear hI4 hJ5 hZ hzs
      replace hN := hN.below hb hN.lt; replace hX := hX.below hb hX.lt; replace hR := (hR.below hb (by first | exact Nat.le_refl _ | omega)).mono (Nat.zero_le _) hb.size; replace hE := (hE.below hb (by first | exact Nat.le_refl _ | omega)).mono (Nat.zero_le _) hb.size; replace hB := hB.trans (hb.mono (by first | exact hB.size | omega)); clear n0 nf0 n1 nf1; have n0 := hN.cell 0; have nf0 := hN.frozen 0; have n1 := hN.cell 1; have nf1 := hN.frozen 1; simp at n0 n1; replace nl := hN.lt; clear x0 xf0 x1 xf1 x2 xf2; have x0 := hX.cell 0; have xf0 := hX.frozen 0; have x1 := hX.cell 1; have xf1 := hX.frozen 1; have x2 := hX.cell 2; have xf2 := hX.frozen 2; simp at x0 x1 x2; replace xl := hX.lt; clear hb
      go_wp2_with fail
      refine (ownC n.pump A c _ _ n.pipes _ hR (by omega) (by omega)).mono ?_
      rintro e V8 ⟨⟨I8, c8, rfl, hc8, hI8⟩, hb⟩
      replace hN := hN.below hb hN.lt; replace hX := hX.below hb hX.lt; replace hR := (hR.below hb (by first | exact Nat.le_refl _ | omega)).mono (Nat.zero_le _) hb.size; replace hE := (hE.below hb (by first | exact Nat.le_refl _ | omega)).mono (Nat.zero_le _) hb.size; replace hL0 := (hL0.below hb (by first | exact Nat.le_refl _ | omega)).mono (Nat.zero_le _) hb.size; replace hB := hB.trans (hb.mono (by first | exact hB.size | omega)); clear n0 nf0 n1 nf1; have n0 := hN.cell 0; have nf0 := hN.frozen 0; have n1 := hN.cell 1; have nf1 := hN.frozen 1; simp at n0 n1; replace nl := hN.lt; clear x0 xf0 x1 xf1 x2 xf2; have x0 := hX.cell 0; have xf0 := hX.frozen 0; have x1 := hX.cell 1; have xf1 := hX.frozen 1; have x2 := hX.cell 2; have xf2 := hX.frozen 2; simp at x0 x1 x2; replace xl := hX.lt; clear hb
      go_wp2_with fail
      refine (rangesM D0 cd0 _ _ n.pipes.length _ _ hE (by omega) (by rw [pairT_len]; omega) (pairT_len _ _ _).symm).mono ?_
      rintro e V9 ⟨⟨J9, c9, rfl, hc9, hJ9⟩, hb⟩
      replace hN := hN.below hb hN.lt; replace hX := hX.below hb hX.lt; replace hR := (hR.below hb (by first | exact Nat.le_refl _ | omega)).mono (Nat.zero_le _) hb.size; replace hE := (hE.below hb (by first | exact Nat.le_refl _ | omega)).mono (Nat.zero_le _) hb.size; replace hI8 := (hI8.below hb (by first | exact Nat.le_refl _ | omega)).mono (Nat.zero_le _) hb.size; replace hL0 := (hL0.below hb (by first | exact Nat.le_refl _ | omega)).mono (Nat.zero_le _) hb.size; replace hB := hB.trans (hb.mono (by first | exact hB.size | omega)); clear n0 nf0 n1 nf1; have n0 := hN.cell 0; have nf0 := hN.frozen 0; have n1 := hN.cell 1; have nf1 := hN.frozen 1; simp at n0 n1; replace nl := hN.lt; clear x0 xf0 x1 xf1 x2 xf2; have x0 := hX.cell 0; have xf0 := hX.frozen 0; have x1 := hX.cell 1; have xf1 := hX.frozen 1; have x2 := hX.cell 2; have xf2 := hX.frozen 2; simp at x0 x1 x2; replace xl := hX.lt; clear hb
      go_wp2_with fail
      refine (VacX hok HF1.out (frz_nil _) I8 J9 none c8 c9 0 n.pipes.length 0 _ _ _ _ _ 0 0 hI8 (by omega) hc8 hJ9 (by omega) rfl Rd.nil (Nat.zero_le _) rfl (Nat.le_refl _) (Nat.zero_le _)).mono ?_
      rintro e V10 ⟨⟨L1, cl1, rfl, hL1⟩, hb⟩
      clear hI8 hJ9
      replace hN := hN.below hb hN.lt; replace hX := hX.below hb hX.lt; replace hR := (hR.below hb (by first | exact Nat.le_refl _ | omega)).mono (Nat.zero_le _) hb.size; replace hE := (hE.below hb (by first | exact Nat.le_refl _ | omega)).mono (Nat.zero_le _) hb.size; replace hL0 := (hL0.below hb (by first | exact Nat.le_refl _ | omega)).mono (Nat.zero_le _) hb.size; replace hB := hB.trans (hb.mono (by first | exact hB.size | omega)); clear n0 nf0 n1 nf1; have n0 := hN.cell 0; have nf0 := hN.frozen 0; have n1 := hN.cell 1; have nf1 := hN.frozen 1; simp at n0 n1; replace nl := hN.lt; clear x0 xf0 x1 xf1 x2 xf2; have x0 := hX.cell 0; have xf0 := hX.frozen 0; have x1 := hX.cell 1; have xf1 := hX.frozen 1; have x2 := hX.cell 2; have xf2 := hX.frozen 2; simp at x0 x1 x2; replace xl := hX.lt; clear hb
      go_wp2_with fail
      go_loopw [15, 16] (fun s i wr => ∃ k : Nat, k ≤ n.pipes.length ∧ i = .int .i64 k ∧ s = .int .i64 (sg k (arrF n.pipes f ice)) ∧ Below V10.heap.size V10 wr) (fun _ i _ => n.pipes.length - (intOf i).toNat)
      case atStart => exact ⟨0, Nat.zero_le _, rfl, rfl, Below.refl _ _⟩
      case round =>
        obtain ⟨k, hk, rfl, rfl, hB1⟩ := hrel
        have hz1 := hB1.size
        by_cases hlt : k < n.pipes.length
        · clear n0 n1 nf0 nf1 x0 x1 x2 xf0 xf1 xf2
          have hN2 := hN.below hB1 nl
          have n0 := hN2.cell 0; have nf0 := hN2.frozen 0; have n1 := hN2.cell 1; have nf1 := hN2.frozen 1; simp at n0 n1
          have hkl : (k : Int) < (n.pipes.length : Int) := by omega
          have hsb := sg_rng (a := arrF n.pipes f ice) k (fun j hj => by
            have := HF1.out j (by omega)
            unfold arrF; split <;> omega)
          have hsn := Lib.hid (sg_succ k (arrF n.pipes f ice))
          have hfk := HF1.out k hlt
          have hwv : WayV n k = (wayL n.pipes k, 0) := by unfold WayV; rw [if_pos hok, if_pos (inB_mk ⟨by omega, by omega⟩)]
          have HAF := Lib.hid (show arrF n.pipes f ice k = if memB (wayL n.pipes k) ice then 0 else f k from rfl)
          have hwl := wayL_len n.pipes k
          go_wp2_with fail
          refine (ownC n.pump A c _ _ n.pipes _ (hR.below hB1 (by omega)) (by omega) (by omega)).mono ?_
          rintro e U1 ⟨⟨I, ci, rfl, hci, hI⟩, hb⟩
          have hU1 := hB1.trans (hb.mono hz1)
          have hs1 := hb.size
          go_wp2_with fail
          refine (WayC n I ci _ _ _ hI (by omega) hci hn k).mono ?_
          rintro e U2 ⟨⟨L, cl, rfl, hcl, hW⟩, hb2⟩
          have hU2 := hU1.trans (hb2.mono hU1.size)
          simp only [hwv] at hcl hW ⊢
          clear hwv
          go_wp2_with fail
          refine (has_ L cl _ _ (wayL n.pipes k) ice _ hW (by unfold maxLen; omega)).mono ?_
          rintro e U3 ⟨rfl, rfl⟩
          cases hmb : memB (wayL n.pipes k) ice with
          | true =>
            have HMB := Lib.hid hmb
            clear hmb
            go_wp2_with fail
            exact ⟨⟨k + 1, by omega, by go_num, by rw [hsn.out, HAF.out, HMB.out]; simp, hU2⟩, by simp [intOf]; omega⟩
          | false =>
            have HMB := Lib.hid hmb
            clear hmb
            obtain ⟨eb, eo, rfl, _, _, c0, c1⟩ := RdR.at_ (hE.below hU2 (by omega)) (k := k) (by rw [pairT_len]; omega)
            rw [pairT_at hlt] at c0 c1
            have HS2 := Lib.hid (show sg (k + 1) (arrF n.pipes f ice) = sg k (arrF n.pipes f ice) + f k by rw [hsn.out, HAF.out, HMB.out]; rfl)
            generalize sg k (arrF n.pipes f ice) = s at *
            generalize f k = fk at *
            go_wp2_with fail
            exact ⟨⟨k + 1, by omega, by go_num, by rw [HS2.out], hU2⟩, by simp [intOf]; omega⟩
        · obtain rfl : k = n.pipes.length := by omega
          have HA := Lib.hid (show sg n.pipes.length (arrF n.pipes f ice) = ldV n.pipes f [(ice : Int)] 0 from arrive (netB_tree hok) f hi1 hil)
          rw [HA.out]
          have hb := hB1
          replace hN := hN.below hb hN.lt; replace hX := hX.below hb hX.lt; replace hR := (hR.below hb (by first | exact Nat.le_refl _ | omega)).mono (Nat.zero_le _) hb.size; replace hE := (hE.below hb (by first | exact Nat.le_refl _ | omega)).mono (Nat.zero_le _) hb.size; replace hL0 := (hL0.below hb (by first | exact Nat.le_refl _ | omega)).mono (Nat.zero_le _) hb.size; replace hL1 := (hL1.below hb (by first | exact Nat.le_refl _ | omega)).mono (Nat.zero_le _) hb.size; replace hB := hB.trans (hb.mono (by first | exact hB.size | omega)); clear n0 nf0 n1 nf1; have n0 := hN.cell 0; have nf0 := hN.frozen 0; have n1 := hN.cell 1; have nf1 := hN.frozen 1; simp at n0 n1; replace nl := hN.lt; clear x0 xf0 x1 xf1 x2 xf2; have x0 := hX.cell 0; have xf0 := hX.frozen 0; have x1 := hX.cell 1; have xf1 := hX.frozen 1; have x2 := hX.cell 2; have xf2 := hX.frozen 2; simp at x0 x1 x2; replace xl := hX.lt; clear hb
          obtain ⟨lb, lo, rfl, -, -, z0, z1⟩ := RdR.at_ hL0 (k := 0) (by rw [pairT_len]; omega)
          rw [pairT_at (by omega)] at z0 z1
          simp only [Nat.zero_mul, Nat.add_zero] at z0 z1
          clear HA hlt hk hB1
          obtain ⟨V11, rfl⟩ : ∃ V : World, V = wr := ⟨_, rfl⟩
          have x11 := xl
          go_wp2_with fail
          clear z0 z1
          refine (rangesG D0 cd0 _ _ n.pipes.length _ _ hE (by omega) (by rw [pairT_len]; omega) (pairT_len _ _ _).symm (by omega)).mono ?_
          rintro e V12 ⟨⟨g, cg, rfl, hg1, hg2, hcg, hG⟩, hb⟩
          have kb := hb
          have kN := hN
          have kX := hX
          have kR := hR
          have kE := hE
          have kL0 := hL0
          have kL1 := hL1
          have kB := hB
          replace hN := hN.below hb hN.lt; replace hX := hX.below hb hX.lt; replace hR := (hR.below hb (by first | exact Nat.le_refl _ | omega)).mono (Nat.zero_le _) hb.size; replace hE := (hE.below hb (by first | exact Nat.le_refl _ | omega)).mono (Nat.zero_le _) hb.size; replace hL0 := (hL0.below hb (by first | exact Nat.le_refl _ | omega)).mono (Nat.zero_le _) hb.size; replace hL1 := (hL1.below hb (by first | exact Nat.le_refl _ | omega)).mono (Nat.zero_le _) hb.size; replace hB := hB.trans (hb.mono (by first | exact hB.size | omega)); clear n0 nf0 n1 nf1; have n0 := hN.cell 0; have nf0 := hN.frozen 0; have n1 := hN.cell 1; have nf1 := hN.frozen 1; simp at n0 n1; replace nl := hN.lt; clear x0 xf0 x1 xf1 x2 xf2; have x0 := hX.cell 0; have xf0 := hX.frozen 0; have x1 := hX.cell 1; have xf1 := hX.frozen 1; have x2 := hX.cell 2; have xf2 := hX.frozen 2; simp at x0 x1 x2; replace xl := hX.lt; clear hb
          obtain ⟨gb, go, he, -, -, c0, c1⟩ := RdR.at_ (hG.rd encR_len) (k := j) (by rw [pairT_len]; omega)
          cases he
          rw [pairT_at hjl] at c0 c1
          simp only [Nat.zero_add] at c0 c1
          have q0 := hG.frozen (j * 2)
          have q1 := hG.frozen (j * 2 + 1)
          have hfj := HF1.out j hjl
          have hjn : (j : Int) < (n.pipes.length : Int) := by omega
          have hin : (ice : Int) < (n.pipes.length : Int) := by omega
          obtain ⟨fj, hfx⟩ : ∃ fj, f j = fj := ⟨_, rfl⟩
          rw [hfx] at c0 c1 hfj
          have HFX := Lib.hid hfx
          clear hfx
          obtain ⟨lg0, lg1, lg2, lg3, lg4, lg5⟩ := lt6 (show g < V12.heap.size by omega)
          go_wp2_with fail
          go_region
          obtain ⟨m, hmv, hm0, hm1⟩ : ∃ m : Int, (if fj + a2 < 1000000000 then fj + a2 else 1000000000) = m ∧ fj ≤ m ∧ m ≤ 1000000000 := ⟨_, rfl, by split <;> omega, by split <;> omega⟩
          rw [hmv]
          clear hmv q0 q1 c0 c1 lg0 lg1 lg2 lg3 lg4 lg5
          have hGa := (hG.put (j * 2) (I m)).drew
          rw [show j * 2 = j * 2 + 0 from rfl, flat_set encR_len (y' := ⟨m, fj⟩) (j := 0) (u := I m) (by omega) _ j (by rw [pairT_len]; exact hjl) (by rw [pairT_at hjl]; simp [encR, HFX.out])] at hGa
          rw [Nat.add_zero] at hGa
          have hbb : Below V11.heap.size V11 (V12.setCell ⟨g, j * 2, none⟩ (.int .i64 m)).drew := (kb.setCell (by simp only; exact hg1) _).drew
          have hNa : Blk (V12.setCell ⟨g, j * 2, none⟩ (.int .i64 m)).drew w.heap.size 24 #[.int .i64 n.pump, .slice A n.pipes.length c] := kN.below hbb (by omega)
          have hXa : Blk (V12.setCell ⟨g, j * 2, none⟩ (.int .i64 m)).drew (w.heap.size + 1) 42 #[.int .u16 a0, .int .u16 a1, .int .u16 a2] := kX.below hbb (by omega)
          have hga : g < (V12.setCell ⟨g, j * 2, none⟩ (.int .i64 m)).drew.heap.size := hGa.lt
          generalize (V12.setCell ⟨g, j * 2, none⟩ (.int .i64 m)).drew = V13 at *
          clear hN hX hR hE hL0 hL1 hB n0 n1 nf0 nf1 x0 x1 x2 xf0 xf1 xf2 nl xl hG
          have n0 := hNa.cell 0; have nf0 := hNa.frozen 0; have n1 := hNa.cell 1; have nf1 := hNa.frozen 1; simp at n0 n1
          have x0 := hXa.cell 0; have xf0 := hXa.frozen 0; have x1 := hXa.cell 1; have xf1 := hXa.frozen 1; have x2 := hXa.cell 2; have xf2 := hXa.frozen 2; simp at x0 x1 x2
          obtain ⟨gb, go, he, -, -, c0, c1⟩ := RdR.at_ (hGa.rd encR_len) (k := j) (by rw [List.length_set, pairT_len]; omega)
          cases he
          simp only [List.getElem_set_self, Nat.zero_add] at c0 c1
          have q0 := hGa.frozen (j * 2)
          have q1 := hGa.frozen (j * 2 + 1)
          obtain ⟨lg0, lg1, lg2, lg3, lg4, lg5⟩ := lt6 (show g < V13.heap.size by omega)
          go_wp2_with fail
          have hG := hGa.put (j * 2 + 1) (I m)
          rw [flat_set encR_len (y' := ⟨m, m⟩) (j := 1) (u := I m) (by omega) _ j (by rw [List.length_set, pairT_len]; exact hjl) (by simp [encR]), List.set_set, pairT_set f m hjl] at hG
          have hb : Below V11.heap.size V11 (V13.setCell ⟨g, j * 2 + 1, none⟩ (.int .i64 m)) := hbb.setCell (by simp only; exact hg1) _
          have hN : Blk (V13.setCell ⟨g, j * 2 + 1, none⟩ (.int .i64 m)) w.heap.size 24 #[.int .i64 n.pump, .slice A n.pipes.length c] := kN.below hb (by omega)
          have hX : Blk (V13.setCell ⟨g, j * 2 + 1, none⟩ (.int .i64 m)) (w.heap.size + 1) 42 #[.int .u16 a0, .int .u16 a1, .int .u16 a2] := kX.below hb (by omega)
          have hR := (kR.below hb (Nat.le_refl _)).mono (Nat.zero_le _) hb.size
          have hE := (kE.below hb (Nat.le_refl _)).mono (Nat.zero_le _) hb.size
          have hL0 := (kL0.below hb (Nat.le_refl _)).mono (Nat.zero_le _) hb.size
          have hL1 := (kL1.below hb (Nat.le_refl _)).mono (Nat.zero_le _) hb.size
          have hB := kB.trans (hb.mono (by omega))
          have hgs : V13.heap.size = (V13.setCell ⟨g, j * 2 + 1, none⟩ (.int .i64 m)).heap.size := by simp [World.setCell]
          generalize V13.setCell ⟨g, j * 2 + 1, none⟩ (.int .i64 m) = V14 at *
          clear n0 n1 nf0 nf1 x0 x1 x2 xf0 xf1 xf2 hNa hXa hGa c0 c1 q0 q1 lg0 lg1 lg2 lg3 lg4 lg5 kb kN kX kR kE kL0 kL1 kB hbb hb
          have n0 := hN.cell 0; have nf0 := hN.frozen 0; have n1 := hN.cell 1; have nf1 := hN.frozen 1; simp at n0 n1
          have x0 := hX.cell 0; have xf0 := hX.frozen 0; have x1 := hX.cell 1; have xf1 := hX.frozen 1; have x2 := hX.cell 2; have xf2 := hX.frozen 2; simp at x0 x1 x2
          have nl := hN.lt
          have xl := hX.lt
          have hgl := hG.lt
          have hGr := (hG.rd encR_len).mono (Nat.zero_le _) hgl
          clear hG
          obtain ⟨gF, hgF⟩ : ∃ gF : Nat → Int, gF = fun i => if i = j then m else f i := ⟨_, rfl⟩
          rw [← hgF] at hGr
          have f2 : ∀ k, k < n.pipes.length → 0 ≤ gF k ∧ gF k ≤ 1000000000 := fun k hk => by
            have := HF1.out k hk
            rw [hgF]; simp only; split <;> omega
          have f3 : ∀ k, k < n.pipes.length → f k ≤ gF k := fun k hk => by
            rw [hgF]; simp only; split
            · rename_i h; subst h; rw [HFX.out]; exact hm0
            · exact Int.le_refl _
          have HF2 := Lib.hid f2
          have HF3 := Lib.hid f3
          clear f2 f3 hgF hm0 hm1 HFX hfj
          go_wp2_with fail
          refine (ownC n.pump A c _ _ n.pipes _ hR (by omega) (by omega)).mono ?_
          rintro e V15 ⟨⟨I15, c15, rfl, hc15, hI15⟩, hb⟩
          replace hN := hN.below hb hN.lt; replace hX := hX.below hb hX.lt; replace hR := (hR.below hb (by first | exact Nat.le_refl _ | omega)).mono (Nat.zero_le _) hb.size; replace hE := (hE.below hb (by first | exact Nat.le_refl _ | omega)).mono (Nat.zero_le _) hb.size; replace hL0 := (hL0.below hb (by first | exact Nat.le_refl _ | omega)).mono (Nat.zero_le _) hb.size; replace hL1 := (hL1.below hb (by first | exact Nat.le_refl _ | omega)).mono (Nat.zero_le _) hb.size; replace hGr := (hGr.below hb (by first | exact Nat.le_refl _ | omega)).mono (Nat.zero_le _) hb.size; replace hB := hB.trans (hb.mono (by first | exact hB.size | omega)); clear n0 nf0 n1 nf1; have n0 := hN.cell 0; have nf0 := hN.frozen 0; have n1 := hN.cell 1; have nf1 := hN.frozen 1; simp at n0 n1; replace nl := hN.lt; clear x0 xf0 x1 xf1 x2 xf2; have x0 := hX.cell 0; have xf0 := hX.frozen 0; have x1 := hX.cell 1; have xf1 := hX.frozen 1; have x2 := hX.cell 2; have xf2 := hX.frozen 2; simp at x0 x1 x2; replace xl := hX.lt; clear hb
          go_wp2_with fail
          refine (rangesM (some ⟨g, 0, none⟩) cg _ _ n.pipes.length _ _ hGr (by omega) (by rw [pairT_len]; omega) (pairT_len _ _ _).symm).mono ?_
          rintro e V16 ⟨⟨J16, c16, rfl, hc16, hJ16⟩, hb⟩
          replace hN := hN.below hb hN.lt; replace hX := hX.below hb hX.lt; replace hR := (hR.below hb (by first | exact Nat.le_refl _ | omega)).mono (Nat.zero_le _) hb.size; replace hE := (hE.below hb (by first | exact Nat.le_refl _ | omega)).mono (Nat.zero_le _) hb.size; replace hL0 := (hL0.below hb (by first | exact Nat.le_refl _ | omega)).mono (Nat.zero_le _) hb.size; replace hL1 := (hL1.below hb (by first | exact Nat.le_refl _ | omega)).mono (Nat.zero_le _) hb.size; replace hGr := (hGr.below hb (by first | exact Nat.le_refl _ | omega)).mono (Nat.zero_le _) hb.size; replace hI15 := (hI15.below hb (by first | exact Nat.le_refl _ | omega)).mono (Nat.zero_le _) hb.size; replace hB := hB.trans (hb.mono (by first | exact hB.size | omega)); clear n0 nf0 n1 nf1; have n0 := hN.cell 0; have nf0 := hN.frozen 0; have n1 := hN.cell 1; have nf1 := hN.frozen 1; simp at n0 n1; replace nl := hN.lt; clear x0 xf0 x1 xf1 x2 xf2; have x0 := hX.cell 0; have xf0 := hX.frozen 0; have x1 := hX.cell 1; have xf1 := hX.frozen 1; have x2 := hX.cell 2; have xf2 := hX.frozen 2; simp at x0 x1 x2; replace xl := hX.lt; clear hb
          go_wp2_with fail
          have hZ : RdI (V16.alloc (.cells #[.int .i64 (ice : Int)] 3)) 0 (V16.heap.size + 1) (some ⟨V16.heap.size, 0, none⟩) [(ice : Int)] := rd_new (enc := encI) (size := 1) V16 (ice : Int) 3 V16.heap.size rfl
          have hzs : V16.heap.size + 1 ≤ (V16.alloc (.cells #[.int .i64 (ice : Int)] 3)).heap.size := by simp
          have hb : Below V16.heap.size V16 (V16.alloc (.cells #[.int .i64 (ice : Int)] 3)) := (Below.refl _ _).alloc (Nat.le_refl _) _
          generalize V16.alloc (.cells #[.int .i64 (ice : Int)] 3) = V17 at *
          replace hN := hN.below hb hN.lt; replace hX := hX.below hb hX.lt; replace hR := (hR.below hb (by first | exact Nat.le_refl _ | omega)).mono (Nat.zero_le _) hb.size; replace hE := (hE.below hb (by first | exact Nat.le_refl _ | omega)).mono (Nat.zero_le _) hb.size; replace hL0 := (hL0.below hb (by first | exact Nat.le_refl _ | omega)).mono (Nat.zero_le _) hb.size; replace hL1 := (hL1.below hb (by first | exact Nat.le_refl _ | omega)).mono (Nat.zero_le _) hb.size; replace hGr := (hGr.below hb (by first | exact Nat.le_refl _ | omega)).mono (Nat.zero_le _) hb.size; replace hI15 := (hI15.below hb (by first | exact Nat.le_refl _ | omega)).mono (Nat.zero_le _) hb.size; replace hJ16 := (hJ16.below hb (by first | exact Nat.le_refl _ | omega)).mono (Nat.zero_le _) hb.size; replace hB := hB.trans (hb.mono (by first | exact hB.size | omega)); clear n0 nf0 n1 nf1; have n0 := hN.cell 0; have nf0 := hN.frozen 0; have n1 := hN.cell 1; have nf1 := hN.frozen 1; simp at n0 n1; replace nl := hN.lt; clear x0 xf0 x1 xf1 x2 xf2; have x0 := hX.cell 0; have xf0 := hX.frozen 0; have x1 := hX.cell 1; have xf1 := hX.frozen 1; have x2 := hX.cell 2; have xf2 := hX.frozen 2; simp at x0 x1 x2; replace xl := hX.lt; clear hb
          refine (LoadsX hok HF2.out (frz_one ⟨by omega, by omega⟩) I15 J16 (some ⟨V16.heap.size, 0, none⟩) c15 c16 1 n.pipes.length 1 _ _ _ _ _ _ _ hI15 (by omega) hc15 hJ16 (by omega) rfl hZ (by omega) rfl (by simp) (by unfold maxLen; simp)).mono ?_
          rintro e V18 ⟨⟨L2, cl2, rfl, hL2⟩, hb⟩
          clear hI15 hJ16 hZ hzs
          replace hN := hN.below hb hN.lt; replace hX := hX.below hb hX.lt; replace hR := (hR.below hb (by first | exact Nat.le_refl _ | omega)).mono (Nat.zero_le _) hb.size; replace hE := (hE.below hb (by first | exact Nat.le_refl _ | omega)).mono (Nat.zero_le _) hb.size; replace hL0 := (hL0.below hb (by first | exact Nat.le_refl _ | omega)).mono (Nat.zero_le _) hb.size; replace hL1 := (hL1.below hb (by first | exact Nat.le_refl _ | omega)).mono (Nat.zero_le _) hb.size; replace hGr := (hGr.below hb (by first | exact Nat.le_refl _ | omega)).mono (Nat.zero_le _) hb.size; replace hB := hB.trans (hb.mono (by first | exact hB.size | omega)); clear n0 nf0 n1 nf1; have n0 := hN.cell 0; have nf0 := hN.frozen 0; have n1 := hN.cell 1; have nf1 := hN.frozen 1; simp at n0 n1; replace nl := hN.lt; clear x0 xf0 x1 xf1 x2 xf2; have x0 := hX.cell 0; have xf0 := hX.frozen 0; have x1 := hX.cell 1; have xf1 := hX.frozen 1; have x2 := hX.cell 2; have xf2 := hX.frozen 2; simp at x0 x1 x2; replace xl := hX.lt; clear hb
          go_wp2_with fail
          refine (ownC n.pump A c _ _ n.pipes _ hR (by omega) (by omega)).mono ?_
          rintro e V19 ⟨⟨I19, c19, rfl, hc19, hI19⟩, hb⟩
          replace hN := hN.below hb hN.lt; replace hX := hX.below hb hX.lt; replace hR := (hR.below hb (by first | exact Nat.le_refl _ | omega)).mono (Nat.zero_le _) hb.size; replace hE := (hE.below hb (by first | exact Nat.le_refl _ | omega)).mono (Nat.zero_le _) hb.size; replace hL0 := (hL0.below hb (by first | exact Nat.le_refl _ | omega)).mono (Nat.zero_le _) hb.size; replace hL1 := (hL1.below hb (by first | exact Nat.le_refl _ | omega)).mono (Nat.zero_le _) hb.size; replace hL2 := (hL2.below hb (by first | exact Nat.le_refl _ | omega)).mono (Nat.zero_le _) hb.size; replace hGr := (hGr.below hb (by first | exact Nat.le_refl _ | omega)).mono (Nat.zero_le _) hb.size; replace hB := hB.trans (hb.mono (by first | exact hB.size | omega)); clear n0 nf0 n1 nf1; have n0 := hN.cell 0; have nf0 := hN.frozen 0; have n1 := hN.cell 1; have nf1 := hN.frozen 1; simp at n0 n1; replace nl := hN.lt; clear x0 xf0 x1 xf1 x2 xf2; have x0 := hX.cell 0; have xf0 := hX.frozen 0; have x1 := hX.cell 1; have xf1 := hX.frozen 1; have x2 := hX.cell 2; have xf2 := hX.frozen 2; simp at x0 x1 x2; replace xl := hX.lt; clear hb
          go_wp2_with fail
          refine (rangesM (some ⟨g, 0, none⟩) cg _ _ n.pipes.length _ _ hGr (by omega) (by rw [pairT_len]; omega) (pairT_len _ _ _).symm).mono ?_
          rintro e V20 ⟨⟨J20, c20, rfl, hc20, hJ20⟩, hb⟩
          replace hN := hN.below hb hN.lt; replace hX := hX.below hb hX.lt; replace hR := (hR.below hb (by first | exact Nat.le_refl _ | omega)).mono (Nat.zero_le _) hb.size; replace hE := (hE.below hb (by first | exact Nat.le_refl _ | omega)).mono (Nat.zero_le _) hb.size; replace hL0 := (hL0.below hb (by first | exact Nat.le_refl _ | omega)).mono (Nat.zero_le _) hb.size; replace hL1 := (hL1.below hb (by first | exact Nat.le_refl _ | omega)).mono (Nat.zero_le _) hb.size; replace hL2 := (hL2.below hb (by first | exact Nat.le_refl _ | omega)).mono (Nat.zero_le _) hb.size; replace hGr := (hGr.below hb (by first | exact Nat.le_refl _ | omega)).mono (Nat.zero_le _) hb.size; replace hI19 := (hI19.below hb (by first | exact Nat.le_refl _ | omega)).mono (Nat.zero_le _) hb.size; replace hB := hB.trans (hb.mono (by first | exact hB.size | omega)); clear n0 nf0 n1 nf1; have n0 := hN.cell 0; have nf0 := hN.frozen 0; have n1 := hN.cell 1; have nf1 := hN.frozen 1; simp at n0 n1; replace nl := hN.lt; clear x0 xf0 x1 xf1 x2 xf2; have x0 := hX.cell 0; have xf0 := hX.frozen 0; have x1 := hX.cell 1; have xf1 := hX.frozen 1; have x2 := hX.cell 2; have xf2 := hX.frozen 2; simp at x0 x1 x2; replace xl := hX.lt; clear hb
          go_wp2_with fail
          refine (VacX hok HF2.out (frz_nil _) I19 J20 none c19 c20 0 n.pipes.length 0 _ _ _ _ _ 0 0 hI19 (by omega) hc19 hJ20 (by omega) rfl Rd.nil (Nat.zero_le _) rfl (Nat.le_refl _) (Nat.zero_le _)).mono ?_
          rintro e V21 ⟨⟨L3, cl3, rfl, hL3⟩, hb⟩
          clear hI19 hJ20
          replace hN := hN.below hb hN.lt; replace hX := hX.below hb hX.lt; replace hR := (hR.below hb (by first | exact Nat.le_refl _ | omega)).mono (Nat.zero_le _) hb.size; replace hE := (hE.below hb (by first | exact Nat.le_refl _ | omega)).mono (Nat.zero_le _) hb.size; replace hL0 := (hL0.below hb (by first | exact Nat.le_refl _ | omega)).mono (Nat.zero_le _) hb.size; replace hL1 := (hL1.below hb (by first | exact Nat.le_refl _ | omega)).mono (Nat.zero_le _) hb.size; replace hL2 := (hL2.below hb (by first | exact Nat.le_refl _ | omega)).mono (Nat.zero_le _) hb.size; replace hB := hB.trans (hb.mono (by first | exact hB.size | omega)); clear n0 nf0 n1 nf1; have n0 := hN.cell 0; have nf0 := hN.frozen 0; have n1 := hN.cell 1; have nf1 := hN.frozen 1; simp at n0 n1; replace nl := hN.lt; clear x0 xf0 x1 xf1 x2 xf2; have x0 := hX.cell 0; have xf0 := hX.frozen 0; have x1 := hX.cell 1; have xf1 := hX.frozen 1; have x2 := hX.cell 2; have xf2 := hX.frozen 2; simp at x0 x1 x2; replace xl := hX.lt; clear hb
          clear hGr hgl
          have x21 := xl
          go_wp2_with fail
          refine (ownG n.pump A c _ _ n.pipes _ hR (by omega) (by omega) (by omega)).mono ?_
          rintro e V22 ⟨⟨g2, cw, rfl, hw1, hw2, hcw, hQ⟩, hb⟩
          have kb : Below V21.heap.size V21 (V22.alloc (.cells #[.int .i64 n.pump, .slice (some ⟨g2, 0, none⟩) n.pipes.length cw] 24)) := hb.alloc hb.size _
          have kN := hN
          have kX := hX
          have kR := hR
          have kE := hE
          have kL0 := hL0
          have kL1 := hL1
          have kL2 := hL2
          have kL3 := hL3
          have kB := hB
          replace hN := hN.below hb hN.lt; replace hX := hX.below hb hX.lt; replace hR := (hR.below hb (by first | exact Nat.le_refl _ | omega)).mono (Nat.zero_le _) hb.size; replace hE := (hE.below hb (by first | exact Nat.le_refl _ | omega)).mono (Nat.zero_le _) hb.size; replace hL0 := (hL0.below hb (by first | exact Nat.le_refl _ | omega)).mono (Nat.zero_le _) hb.size; replace hL1 := (hL1.below hb (by first | exact Nat.le_refl _ | omega)).mono (Nat.zero_le _) hb.size; replace hL2 := (hL2.below hb (by first | exact Nat.le_refl _ | omega)).mono (Nat.zero_le _) hb.size; replace hL3 := (hL3.below hb (by first | exact Nat.le_refl _ | omega)).mono (Nat.zero_le _) hb.size; replace hB := hB.trans (hb.mono (by first | exact hB.size | omega)); clear n0 nf0 n1 nf1; have n0 := hN.cell 0; have nf0 := hN.frozen 0; have n1 := hN.cell 1; have nf1 := hN.frozen 1; simp at n0 n1; replace nl := hN.lt; clear x0 xf0 x1 xf1 x2 xf2; have x0 := hX.cell 0; have xf0 := hX.frozen 0; have x1 := hX.cell 1; have xf1 := hX.frozen 1; have x2 := hX.cell 2; have xf2 := hX.frozen 2; simp at x0 x1 x2; replace xl := hX.lt; clear hb
          go_wp2_with fail
          have hM := Blk.new V22 24 #[.int .i64 n.pump, .slice (some ⟨g2, 0, none⟩) n.pipes.length cw]
          have hb : Below V22.heap.size V22 (V22.alloc (.cells #[.int .i64 n.pump, .slice (some ⟨g2, 0, none⟩) n.pipes.length cw] 24)) := (Below.refl _ _).alloc (Nat.le_refl _) _
          replace hQ := hQ.below hb hw2
          generalize V22.alloc (.cells #[.int .i64 n.pump, .slice (some ⟨g2, 0, none⟩) n.pipes.length cw] 24) = V23 at *
          replace hN := hN.below hb hN.lt; replace hX := hX.below hb hX.lt; replace hR := (hR.below hb (by first | exact Nat.le_refl _ | omega)).mono (Nat.zero_le _) hb.size; replace hB := hB.trans (hb.mono (by first | exact hB.size | omega)); clear n0 nf0 n1 nf1; have n0 := hN.cell 0; have nf0 := hN.frozen 0; have n1 := hN.cell 1; have nf1 := hN.frozen 1; simp at n0 n1; replace nl := hN.lt; clear x0 xf0 x1 xf1 x2 xf2; have x0 := hX.cell 0; have xf0 := hX.frozen 0; have x1 := hX.cell 1; have xf1 := hX.frozen 1; have x2 := hX.cell 2; have xf2 := hX.frozen 2; simp at x0 x1 x2; replace xl := hX.lt; clear hb
          have m0 := hM.cell 0; have mf0 := hM.frozen 0; have m1 := hM.cell 1; have mf1 := hM.frozen 1; simp at m0 m1
          have ml := hM.lt
          obtain ⟨gb, go, he, -, -, c0, c1, c2, c3, c4⟩ := RdP.at_ (hQ.rd encP_len) (k := ice) hil
          cases he
          simp only [Nat.zero_add] at c0 c1 c2 c3 c4
          have q2 := hQ.frozen (ice * 5 + 2)
          have hpo := (netB_good hok).2 ice hi1 hil
          rw [pAt_eq hil] at hpo
          have hbo0 := hpo.2.2.1
          have hbo1 := hpo.2.2.2.1
          have hgw : g2 < V23.heap.size := by omega
          obtain ⟨lg0, lg1, lg2, lg3, lg4, lg5⟩ := lt6 (show g2 < V23.heap.size by omega)
          clear c0 c1 c3 c4
          have hrm0 := Int.emod_nonneg a2 (show (9 : Int) ≠ 0 by omega)
          have hrm1 := Int.emod_lt_of_pos a2 (show (0 : Int) < 9 by omega)
          obtain ⟨bo, hbo⟩ : ∃ bo, n.pipes[ice].bore = bo := ⟨_, rfl⟩
          rw [hbo] at c2 hbo0 hbo1
          have HBO := Lib.hid hbo
          clear hbo
          go_region
          obtain ⟨nb, hnb, hnb0, hnb1⟩ : ∃ nb : Int, (if bo + 1 + a2 % 9 < 80 then bo + 1 + a2 % 9 else 80) = nb ∧ bo ≤ nb ∧ nb ≤ 80 := ⟨_, rfl, by split <;> omega, by split <;> omega⟩
          rw [hnb]
          clear hnb q2 c2 lg0 lg1 lg2 lg3 lg4 lg5 hrm0 hrm1 hpo
          have hQa := (hQ.put (ice * 5 + 2) (I nb)).drew
          rw [flat_set encP_len (y' := { n.pipes[ice] with bore := nb }) (j := 2) (u := I nb) (by omega) _ ice hil (by simp [encP])] at hQa
          have hb : Below V21.heap.size V21 (V23.setCell ⟨g2, ice * 5 + 2, none⟩ (.int .i64 nb)).drew := (kb.setCell (by simp only; exact hw1) _).drew
          have hN4 : Blk (V23.setCell ⟨g2, ice * 5 + 2, none⟩ (.int .i64 nb)).drew w.heap.size 24 #[.int .i64 n.pump, .slice A n.pipes.length c] := kN.below hb (by omega)
          have hM4 : Blk (V23.setCell ⟨g2, ice * 5 + 2, none⟩ (.int .i64 nb)).drew V22.heap.size 24 #[.int .i64 n.pump, .slice (some ⟨g2, 0, none⟩) n.pipes.length cw] := (hM.far (p := ⟨g2, ice * 5 + 2, none⟩) (by simp only; omega) _).drew
          have hR4 := (kR.below hb (Nat.le_refl _)).mono (Nat.zero_le _) hb.size
          have hE4 := (kE.below hb (Nat.le_refl _)).mono (Nat.zero_le _) hb.size
          have hL04 := (kL0.below hb (Nat.le_refl _)).mono (Nat.zero_le _) hb.size
          have hL14 := (kL1.below hb (Nat.le_refl _)).mono (Nat.zero_le _) hb.size
          have hL24 := (kL2.below hb (Nat.le_refl _)).mono (Nat.zero_le _) hb.size
          have hL34 := (kL3.below hb (Nat.le_refl _)).mono (Nat.zero_le _) hb.size
          have hB4 := kB.trans (hb.mono (by omega))
          have hgs : (V23.setCell ⟨g2, ice * 5 + 2, none⟩ (.int .i64 nb)).drew.heap.size = V23.heap.size := by simp [World.setCell]
          generalize (V23.setCell ⟨g2, ice * 5 + 2, none⟩ (.int .i64 nb)).drew = V24 at *
          clear n0 n1 nf0 nf1 x0 x1 x2 xf0 xf1 xf2 m0 m1 mf0 mf1 hN hX hR hE hL0 hL1 hL2 hL3 hB hM hQ kb kN kX kR kE kL0 kL1 kL2 kL3 kB hb nl xl
          obtain ⟨n', hn'⟩ : ∃ n' : Net, n' = ⟨n.pump, n.pipes.set ice { n.pipes[ice] with bore := nb }⟩ := ⟨_, rfl⟩
          have hok' : netB n' = true := by rw [hn']; exact netB_wide hok hi1 hil ⟨by omega, by omega⟩
          have hle : n'.pipes.length = n.pipes.length := by rw [hn']; simp
          have hpu : n'.pump = n.pump := by rw [hn']
          have hQr : RdP V24 g2 (g2 + 1) (some ⟨g2, 0, none⟩) n'.pipes := by rw [hn']; exact hQa.rd encP_len
          have hwd : ∀ k, k < n.pipes.length → vacV n.pump n.pipes f [] k ≤ vacV n.pump n'.pipes f [] k := fun k hk => by
            rw [hn']
            exact wide_vac hok hi1 hil (by rw [HBO.out]; exact hnb0) hnb1 HF1.out hk
          have HWD := Lib.hid hwd
          have hqg := hQa.lt
          have hvx : ∀ (X : World) (hX : Below V24.heap.size V24 X) (J : Option Addr) (cj l h : Nat) (hJ : RdR X l h J (pairT f f n.pipes.length)) (hh : h ≤ X.heap.size), Calls Try.prog 24 #[.agg #[.int .i64 n.pump, .slice (some ⟨g2, 0, none⟩) n.pipes.length cw], .slice J n.pipes.length cj, .slice none 0 0] X fun e w' => (∃ D cd, e = .returned (.tuple #[.slice D n.pipes.length cd, .int .i64 0]) ∧ RdR w' X.heap.size w'.heap.size D (pairT (vacV n.pump n'.pipes f []) (vacV n.pump n'.pipes f []) n.pipes.length)) ∧ Below X.heap.size X w' := fun X hX J cj l h hJ hh => by
            have h := VacX (n := n') hok' (f := f) (by rw [hle]; exact HF1.out) (frz_nil _) (some ⟨g2, 0, none⟩) J none cw cj 0 n.pipes.length 0 X g2 (g2 + 1) l h 0 0 (hQr.below hX (by omega)) (by have := hX.size; omega) (by rw [hle]; exact hcw) (by rw [hle]; exact hJ) hh hle.symm Rd.nil (Nat.zero_le _) rfl (Nat.le_refl _) (Nat.zero_le _)
            rw [hle, hpu] at h
            exact h
          have HVX := Lib.hid hvx
          clear hvx hwd hok' hpu hle hQr hQa hn'
          have hgs2 : V23.heap.size ≤ V24.heap.size := by omega
          clear hgs
          have hml := hM4.lt
          have keepC : ∀ X : World, Below V24.heap.size V24 X → X.cell? ⟨V22.heap.size, 0, none⟩ = some (.int .i64 n.pump) ∧ X.cell? ⟨V22.heap.size, 1, none⟩ = some (.slice (some ⟨g2, 0, none⟩) n.pipes.length cw) :=
            fun X hX => ⟨(hM4.below hX hml).cell 0, (hM4.below hX hml).cell 1⟩
          have HK := Lib.hid keepC
          clear keepC
          go_wp2_with fail
          go_region_held3 (fun X => X.cell? ⟨V22.heap.size, 0, none⟩ = some (.int .i64 n.pump) ∧ X.cell? ⟨V22.heap.size, 1, none⟩ = some (.slice (some ⟨g2, 0, none⟩) n.pipes.length cw)) (first | exact HK.out _ hV6 | exact HK.out _ hV5 | exact HK.out _ (Below.refl _ V24).drew)
            (first
              | (go_at_call 18; refine (rangesM D0 cd0 _ _ n.pipes.length _ _ hE4.drew (by show _ ≤ V24.heap.size; omega) (by rw [pairT_len]; omega) (pairT_len _ _ _).symm).mono ?_; rintro e V25 ⟨⟨J, cj, rfl, hcj, hJ⟩, hb5⟩; have hV5 : Below V24.heap.size V24 V25 := (Below.refl _ V24).drew.trans hb5)
              | (go_at_call 24; refine (HVX.out _ hV5 J cj _ _ hJ (Nat.le_refl _)).mono ?_; rintro e V26 ⟨⟨L4, cl4, rfl, hL4⟩, hb6⟩; have hV6 : Below V24.heap.size V24 V26 := hV5.trans (hb6.mono hV5.size)))
          have hN6 := hN4.below hV6 (by omega)
          have hR6 := (hR4.below hV6 (Nat.le_refl _)).mono (Nat.zero_le _) hV6.size
          have h06 := (hL04.below hV6 (Nat.le_refl _)).mono (Nat.zero_le _) hV6.size
          have h16 := (hL14.below hV6 (Nat.le_refl _)).mono (Nat.zero_le _) hV6.size
          have h26 := (hL24.below hV6 (Nat.le_refl _)).mono (Nat.zero_le _) hV6.size
          have h36 := (hL34.below hV6 (Nat.le_refl _)).mono (Nat.zero_le _) hV6.size
          replace hL4 := hL4.mono (Nat.zero_le _) (Nat.le_refl _)
          have hB6 := hB4.trans (hV6.mono hB4.size)
          have n6 := hN6.lt
          dsimp only [Exit.then]
          apply_assumption
          exact arrC n n'.pipes f gF ice A _ _ _ _ _ c _ _ _ _ _ w V26 hok HF1 HF3 HWD hN6 hR6 hB6 h06 h16 h26 h36 hL4
end Go.Proofs.Ytepibjfmeibgcaa
