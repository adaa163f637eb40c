/- The law of ways, walked. -/
import Derived.Test.YtepibjfmeibgcaaCo
import Derived.Test.YtepibjfmeibgcaaRc
namespace Go.Proofs.Ytepibjfmeibgcaa
open Go.RowKit
theorem netB_plen {n : Net} (h : netB n = true) : ∀ j, 0 < j → j < n.pipes.length → 0 ≤ (pAt n.pipes j).length ∧ (pAt n.pipes j).length ≤ 100000 := fun j h0 hj => by
  have := pipeB_ok (netB_pipe h hj h0)
  rw [pAt_eq hj]; exact ⟨by have := this.1; omega, this.2.1⟩
/-- equal, where both lists are the same. -/
theorem equal_refl (A B : Option Addr) (c cb lo hi l2 h2 m : Nat) (a : List Int) (w : World) (hA : RdI w lo hi A a) (hhi : hi ≤ w.heap.size) (hB : RdI w l2 h2 B a) (hh2 : h2 ≤ w.heap.size) (ha : a.length ≤ maxLen) (hm : m = a.length) :
    Calls Try.prog 20 #[.slice A m c, .slice B m cb] w fun e w' => e = .returned (.bool true) ∧ Below w.heap.size w w' := by
  subst hm
  exact (equal_ A B c cb lo hi l2 h2 a a w hA hhi hB hh2 ha ha).mono fun e w' h => ⟨by rw [h.1]; simp, h.2⟩
theorem alikeB_refl (n : Net) : alikeB n n = true := by unfold alikeB; simp
set_option maxHeartbeats 2000000 in
set_option maxRecDepth 100000 in
theorem LineWays_ (n : Net) (a b : Int) (A : Option Addr) (c : Nat) (w : World) (hR : RdP w 0 w.heap.size A n.pipes) (hc : n.pipes.length ≤ c) (hm : c ≤ maxLen) :
    Calls Try.prog 9 #[.agg #[.int .i64 n.pump, .slice A n.pipes.length c], .int .i64 a, .int .i64 b] w fun e w' => e = .returned (.bool true) ∧ Below w.heap.size w w' := by
  have hn : n.pipes.length ≤ maxLen := Nat.le_trans hc hm
  have hm9 : maxLen ≤ 9223372036854775807 := by unfold maxLen; omega
  by_cases hg : 70 < n.pipes.length
  · have hgb := Lib.hid (show greatB n.pipes.length 0 0 = true by unfold greatB; simp [hg])
    go_enter Try.func9, Try.ntmps9
    go_wp2_with fail
    refine (great_ n.pump A none none n.pipes.length 0 0 c 0 0 _ hn (Nat.zero_le _) (Nat.zero_le _)).mono ?_
    rintro e w1 ⟨rfl, hb1⟩
    rw [hgb.out]
    have hB1 : Below w.heap.size w w1 := ((Below.refl _ w).alloc (Nat.le_refl _) _).trans (hb1.mono (by simp))
    go_wp2_with fail
    refine (known_ _).mono ?_
    rintro e w2 ⟨rfl, hb2⟩
    have hB2 := hB1.trans (hb2.mono hB1.size)
    go_wp2_with fail
    go_ret
    exact ⟨rfl, hB2⟩
  · have hgb := Lib.hid (show greatB n.pipes.length 0 0 = false by unfold greatB; simp; omega)
    replace hR := hR.alloc (Nat.le_refl _) (.cells #[.int .i64 n.pump, .slice A n.pipes.length c] 24)
    have hN := Blk.new w 24 #[.int .i64 n.pump, .slice A n.pipes.length c]
    have hB : Below w.heap.size w (w.alloc (.cells #[.int .i64 n.pump, .slice A n.pipes.length c] 24)) := (by repeat (first | exact Below.refl _ _ | exact (Below.refl _ _) | assumption | (refine Below.setCell ?_ (by first | omega | (simp; done) | (simp; omega) | (simp [World.setCell]; done) | (simp [World.setCell]; omega)) _) | (refine Below.alloc ?_ (by first | omega | (simp; done) | (simp; omega) | (simp [World.setCell]; done) | (simp [World.setCell]; omega)) _) | (refine Below.drewN_ ?_ _) | (refine Below.drew ?_)))
    go_enter Try.func9, Try.ntmps9
    go_wp2_with fail
    generalize w.alloc (.cells #[.int .i64 n.pump, .slice A n.pipes.length c] 24) = V at *
    have n0 := hN.cell 0; have nf0 := hN.frozen 0; have n1 := hN.cell 1; have nf1 := hN.frozen 1; simp at n0 n1
    have nl := hN.lt
    refine (great_ n.pump A none none n.pipes.length 0 0 c 0 0 _ hn (Nat.zero_le _) (Nat.zero_le _)).mono ?_
    rintro e V1 ⟨rfl, hb⟩
    rw [hgb.out]
    have hsz := hb.size; replace hN := hN.below hb hN.lt; replace hR := hR.below hb (by first | exact Nat.le_refl _ | omega); replace hB := hB.trans (hb.mono (by first | exact hB.size | omega)); clear n0 nf0 n1 nf1; have n0 := hN.cell 0; have nf0 := hN.frozen 0; have n1 := hN.cell 1; have nf1 := hN.frozen 1; simp at n0 n1; replace nl := hN.lt; clear hb
    go_wp2_with fail
    refine (ownC n.pump A c 0 w.heap.size n.pipes _ hR (by omega) (by omega)).mono ?_
    rintro e V2 ⟨⟨B, c2, rfl, hc2, hI⟩, hb⟩
    have hsz := hb.size; replace hN := hN.below hb hN.lt; replace hR := hR.below hb (by first | exact Nat.le_refl _ | omega); replace hB := hB.trans (hb.mono (by first | exact hB.size | omega)); clear n0 nf0 n1 nf1; have n0 := hN.cell 0; have nf0 := hN.frozen 0; have n1 := hN.cell 1; have nf1 := hN.frozen 1; simp at n0 n1; replace nl := hN.lt; clear hb
    go_wp2_with fail
    have hM := Blk.new V2 24 #[.int .i64 n.pump, .slice B n.pipes.length c2]
    replace hI := hI.alloc (Nat.le_refl _) (.cells #[.int .i64 n.pump, .slice B n.pipes.length c2] 24)
    replace hN := hN.alloc (.cells #[.int .i64 n.pump, .slice B n.pipes.length c2] 24)
    replace hR := hR.alloc (by omega) (.cells #[.int .i64 n.pump, .slice B n.pipes.length c2] 24)
    replace hB := hB.alloc hB.size (.cells #[.int .i64 n.pump, .slice B n.pipes.length c2] 24)
    generalize V2.alloc (.cells #[.int .i64 n.pump, .slice B n.pipes.length c2] 24) = V at *
    clear n0 n1 nf0 nf1
    have n0 := hN.cell 0; have nf0 := hN.frozen 0; have n1 := hN.cell 1; have nf1 := hN.frozen 1; simp at n0 n1
    have m0 := hM.cell 0; have mf0 := hM.frozen 0; have m1 := hM.cell 1; have mf1 := hM.frozen 1; simp at m0 m1
    have ml := hM.lt
    have nl := hN.lt
    refine (check_ n B c2 _ V1.heap.size V2.heap.size hI (by omega) hc2 hn).mono ?_
    rintro e V3 ⟨rfl, hb⟩
    have hsz := hb.size; replace hN := hN.below hb hN.lt; replace hM := hM.below hb hM.lt; replace hR := hR.below hb (by first | exact Nat.le_refl _ | omega); replace hI := hI.below hb (by first | exact Nat.le_refl _ | omega); replace hB := hB.trans (hb.mono (by first | exact hB.size | omega)); clear n0 nf0 n1 nf1; have n0 := hN.cell 0; have nf0 := hN.frozen 0; have n1 := hN.cell 1; have nf1 := hN.frozen 1; simp at n0 n1; replace nl := hN.lt; clear m0 mf0 m1 mf1; have m0 := hM.cell 0; have mf0 := hM.frozen 0; have m1 := hM.cell 1; have mf1 := hM.frozen 1; simp at m0 m1; replace ml := hM.lt; clear hb
    go_wp2_with fail
    refine (WayC n B c2 _ V1.heap.size V2.heap.size hI (by omega) hc2 hn a).mono ?_
    rintro e V4 ⟨⟨L1, k1, rfl, hk1, hW⟩, hb⟩
    have hsz := hb.size; replace hN := hN.below hb hN.lt; replace hM := hM.below hb hM.lt; replace hR := hR.below hb (by first | exact Nat.le_refl _ | omega); replace hI := hI.below hb (by first | exact Nat.le_refl _ | omega); replace hB := hB.trans (hb.mono (by first | exact hB.size | omega)); clear n0 nf0 n1 nf1; have n0 := hN.cell 0; have nf0 := hN.frozen 0; have n1 := hN.cell 1; have nf1 := hN.frozen 1; simp at n0 n1; replace nl := hN.lt; clear m0 mf0 m1 mf1; have m0 := hM.cell 0; have mf0 := hM.frozen 0; have m1 := hM.cell 1; have mf1 := hM.frozen 1; simp at m0 m1; replace ml := hM.lt; clear hb
    go_wp2_with fail
    refine (BehindC n B c2 _ V1.heap.size V2.heap.size hI (by omega) hc2 hn a).mono ?_
    rintro e V5 ⟨⟨L2, k2, rfl, hk2, hH⟩, hb⟩
    have hsz := hb.size; replace hN := hN.below hb hN.lt; replace hM := hM.below hb hM.lt; replace hR := hR.below hb (by first | exact Nat.le_refl _ | omega); replace hI := hI.below hb (by first | exact Nat.le_refl _ | omega); replace hW := hW.below hb (by first | exact Nat.le_refl _ | omega); replace hB := hB.trans (hb.mono (by first | exact hB.size | omega)); clear n0 nf0 n1 nf1; have n0 := hN.cell 0; have nf0 := hN.frozen 0; have n1 := hN.cell 1; have nf1 := hN.frozen 1; simp at n0 n1; replace nl := hN.lt; clear m0 mf0 m1 mf1; have m0 := hM.cell 0; have mf0 := hM.frozen 0; have m1 := hM.cell 1; have mf1 := hM.frozen 1; simp at m0 m1; replace ml := hM.lt; clear hb
    go_wp2_with fail
    refine (BetweenC n B c2 _ V1.heap.size V2.heap.size hI (by omega) hc2 hn a b).mono ?_
    rintro e V6 ⟨rfl, hb⟩
    have hsz := hb.size; replace hN := hN.below hb hN.lt; replace hM := hM.below hb hM.lt; replace hR := hR.below hb (by first | exact Nat.le_refl _ | omega); replace hI := hI.below hb (by first | exact Nat.le_refl _ | omega); replace hW := hW.below hb (by first | exact Nat.le_refl _ | omega); replace hH := hH.below hb (by first | exact Nat.le_refl _ | omega); replace hB := hB.trans (hb.mono (by first | exact hB.size | omega)); clear n0 nf0 n1 nf1; have n0 := hN.cell 0; have nf0 := hN.frozen 0; have n1 := hN.cell 1; have nf1 := hN.frozen 1; simp at n0 n1; replace nl := hN.lt; clear m0 mf0 m1 mf1; have m0 := hM.cell 0; have mf0 := hM.frozen 0; have m1 := hM.cell 1; have mf1 := hM.frozen 1; simp at m0 m1; replace ml := hM.lt; clear hb
    go_wp2_with fail
    refine (alike_ B A c2 c V1.heap.size V2.heap.size 0 w.heap.size n n _ hI (by omega) hR (by omega) hn hn).mono ?_
    rintro e V7 ⟨rfl, hb⟩
    rw [alikeB_refl]
    have hsz := hb.size; replace hN := hN.below hb hN.lt; replace hM := hM.below hb hM.lt; replace hR := hR.below hb (by first | exact Nat.le_refl _ | omega); replace hW := hW.below hb (by first | exact Nat.le_refl _ | omega); replace hH := hH.below hb (by first | exact Nat.le_refl _ | omega); replace hB := hB.trans (hb.mono (by first | exact hB.size | omega)); clear n0 nf0 n1 nf1; have n0 := hN.cell 0; have nf0 := hN.frozen 0; have n1 := hN.cell 1; have nf1 := hN.frozen 1; simp at n0 n1; replace nl := hN.lt; clear m0 mf0 m1 mf1; have m0 := hM.cell 0; have mf0 := hM.frozen 0; have m1 := hM.cell 1; have mf1 := hM.frozen 1; simp at m0 m1; replace ml := hM.lt; clear hb
    go_wp2_with fail
    refine (refNet_ n A c _ 0 w.heap.size hR (by omega) hn).mono ?_
    rintro e V8 ⟨rfl, hb⟩
    have hsz := hb.size; replace hN := hN.below hb hN.lt; replace hM := hM.below hb hM.lt; replace hR := hR.below hb (by first | exact Nat.le_refl _ | omega); replace hW := hW.below hb (by first | exact Nat.le_refl _ | omega); replace hH := hH.below hb (by first | exact Nat.le_refl _ | omega); replace hB := hB.trans (hb.mono (by first | exact hB.size | omega)); clear n0 nf0 n1 nf1; have n0 := hN.cell 0; have nf0 := hN.frozen 0; have n1 := hN.cell 1; have nf1 := hN.frozen 1; simp at n0 n1; replace nl := hN.lt; clear m0 mf0 m1 mf1; have m0 := hM.cell 0; have mf0 := hM.frozen 0; have m1 := hM.cell 1; have mf1 := hM.frozen 1; simp at m0 m1; replace ml := hM.lt; clear hb
    clear hM m0 m1 mf0 mf1 hI
    cases hok : netB n with
    | false =>
      simp only [WayV, BehindV, BetweenV, chk, hok] at hk1 hk2 hW hH ⊢
      go_wp2_with fail
      refine (known_ _).mono ?_
      rintro e w2 ⟨rfl, hb2⟩
      go_wp2_with fail
      go_ret
      exact ⟨rfl, hB.trans (hb2.mono hB.size)⟩
    | true =>
      have hln := netB_len hok
      have ht := netB_tree hok
      have hpl := netB_plen hok
      cases hin : inB 0 (n.pipes.length - 1) a with
      | false =>
        have hin2 : inAll 0 (n.pipes.length - 1) [a, b] = false := by rw [inAll_two, hin]; rfl
        simp only [WayV, BehindV, BetweenV, chk, hok, hin, hin2] at hk1 hk2 hW hH ⊢
        have hout := inB_false hin
        by_cases ha0 : a < 0
        · clear hout
          go_wp2_with fail
          refine (known_ _).mono ?_
          rintro e w2 ⟨rfl, hb2⟩
          go_wp2_with fail
          go_ret
          exact ⟨rfl, hB.trans (hb2.mono hB.size)⟩
        · have ha1 : (n.pipes.length : Int) ≤ a := by omega
          clear hout
          go_wp2_with fail
          refine (known_ _).mono ?_
          rintro e w2 ⟨rfl, hb2⟩
          go_wp2_with fail
          go_ret
          exact ⟨rfl, hB.trans (hb2.mono hB.size)⟩
      | true =>
        have hina := inB_true hin
        have ha0 : ¬ a < 0 := by omega
        have ha1 : ¬ (n.pipes.length : Int) ≤ a := by omega
        have ha2 : 0 ≤ a ∧ a < (n.pipes.length : Int) := by omega
        simp only [WayV, BehindV, chk, hok, hin, if_true] at hk1 hk2 hW hH ⊢
        have hwl := wayL_len n.pipes a
        rw [trues_way ht ha2.1] at hk2 hH ⊢
        have hbl : (behT n.pipes a n.pipes.length).length ≤ n.pipes.length := by
          unfold behT
          have := List.length_filter_le (fun (i : Nat) => onB n.pipes a (i : Int)) (List.range n.pipes.length)
          rw [List.length_range] at this
          rw [List.length_map]; exact this
        go_wp2_with fail
        refine (refWay_ n a A c _ 0 w.heap.size hR (by omega) (by omega) ht ha2.1 ha2.2).mono ?_
        rintro e V9 ⟨⟨C1, q1, rfl, hq1, hW2⟩, hb⟩
        have hsz := hb.size; replace hN := hN.below hb hN.lt; replace hR := hR.below hb (by first | exact Nat.le_refl _ | omega); replace hW := hW.below hb (by first | exact Nat.le_refl _ | omega); replace hH := hH.below hb (by first | exact Nat.le_refl _ | omega); replace hB := hB.trans (hb.mono (by first | exact hB.size | omega)); clear n0 nf0 n1 nf1; have n0 := hN.cell 0; have nf0 := hN.frozen 0; have n1 := hN.cell 1; have nf1 := hN.frozen 1; simp at n0 n1; replace nl := hN.lt; clear hb
        go_wp2_with fail
        refine (equal_refl L1 C1 k1 q1 _ _ _ _ _ (wayL n.pipes a) _ hW (by omega) hW2 (by omega) (by omega) rfl).mono ?_
        rintro e V10 ⟨rfl, hb⟩
        have hsz := hb.size; replace hN := hN.below hb hN.lt; replace hR := hR.below hb (by first | exact Nat.le_refl _ | omega); replace hH := hH.below hb (by first | exact Nat.le_refl _ | omega); replace hB := hB.trans (hb.mono (by first | exact hB.size | omega)); clear n0 nf0 n1 nf1; have n0 := hN.cell 0; have nf0 := hN.frozen 0; have n1 := hN.cell 1; have nf1 := hN.frozen 1; simp at n0 n1; replace nl := hN.lt; clear hb
        go_wp2_with fail
        refine (refBehind_ n a A c _ 0 w.heap.size hR (by omega) (by omega) ht).mono ?_
        rintro e V11 ⟨⟨C2, q2, rfl, hq2, hH2⟩, hb⟩
        have hsz := hb.size; replace hN := hN.below hb hN.lt; replace hR := hR.below hb (by first | exact Nat.le_refl _ | omega); replace hH := hH.below hb (by first | exact Nat.le_refl _ | omega); replace hB := hB.trans (hb.mono (by first | exact hB.size | omega)); clear n0 nf0 n1 nf1; have n0 := hN.cell 0; have nf0 := hN.frozen 0; have n1 := hN.cell 1; have nf1 := hN.frozen 1; simp at n0 n1; replace nl := hN.lt; clear hb
        go_wp2_with fail
        refine (equal_refl L2 C2 k2 q2 _ _ _ _ _ (behT n.pipes a n.pipes.length) _ hH (by omega) hH2 (by omega) (by omega) rfl).mono ?_
        rintro e V12 ⟨rfl, hb⟩
        have hsz := hb.size; replace hN := hN.below hb hN.lt; replace hR := hR.below hb (by first | exact Nat.le_refl _ | omega); replace hB := hB.trans (hb.mono (by first | exact hB.size | omega)); clear n0 nf0 n1 nf1; have n0 := hN.cell 0; have nf0 := hN.frozen 0; have n1 := hN.cell 1; have nf1 := hN.frozen 1; simp at n0 n1; replace nl := hN.lt; clear hb
        clear hW hW2 hH hH2
        cases hib : inB 0 (n.pipes.length - 1) b with
        | false =>
          have hin2 : inAll 0 (n.pipes.length - 1) [a, b] = false := by rw [inAll_two, hin, hib]; rfl
          have hout := inB_false hib
          simp only [BetweenV, hok, hin2, if_true]
          by_cases hb0 : b < 0
          · clear hout
            go_wp2_with fail
            refine (known_ _).mono ?_
            rintro e w2 ⟨rfl, hb2⟩
            go_wp2_with fail
            go_ret
            exact ⟨rfl, hB.trans (hb2.mono hB.size)⟩
          · have hb1 : (n.pipes.length : Int) ≤ b := by omega
            clear hout
            go_wp2_with fail
            refine (known_ _).mono ?_
            rintro e w2 ⟨rfl, hb2⟩
            go_wp2_with fail
            go_ret
            exact ⟨rfl, hB.trans (hb2.mono hB.size)⟩
        | true =>
          have hin2 : inAll 0 (n.pipes.length - 1) [a, b] = true := by rw [inAll_two, hin, hib]; rfl
          have hinb := inB_true hib
          have hb0 : ¬ b < 0 := by omega
          have hb1 : ¬ (n.pipes.length : Int) ≤ b := by omega
          have hb2 : 0 ≤ b ∧ b < (n.pipes.length : Int) := by omega
          simp only [BetweenV, hok, hin2, if_true]
          rw [betL_dB ht ha2.1 hb2.1 ha2.2 hb2.2]
          go_wp2_with fail
          refine (refBetween_ n a b A c _ 0 w.heap.size hR (by omega) (by omega) (by omega) ht hpl ha2.1 ha2.2 hb2.1 hb2.2).mono ?_
          rintro e V13 ⟨rfl, hb⟩
          have hsz := hb.size; replace hN := hN.below hb hN.lt; replace hB := hB.trans (hb.mono (by first | exact hB.size | omega)); clear n0 nf0 n1 nf1; have n0 := hN.cell 0; have nf0 := hN.frozen 0; have n1 := hN.cell 1; have nf1 := hN.frozen 1; simp at n0 n1; replace nl := hN.lt; clear hb
          go_wp2_with fail
          refine (known_ _).mono ?_
          rintro e w2 ⟨rfl, hb2⟩
          go_wp2_with fail
          go_ret
          exact ⟨rfl, hB.trans (hb2.mono hB.size)⟩
end Go.Proofs.Ytepibjfmeibgcaa
