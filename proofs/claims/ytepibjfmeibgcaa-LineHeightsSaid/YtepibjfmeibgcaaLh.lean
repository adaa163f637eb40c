/- The law of heights, walked. -/
import Derived.Test.YtepibjfmeibgcaaCo
namespace Go.Proofs.Ytepibjfmeibgcaa
open Go.RowKit
set_option maxHeartbeats 2000000 in
set_option maxRecDepth 100000 in
theorem LineHeights_ (n : Net) (A : Option Addr) (c : Nat) (w : World) (hR : RdP w 0 w.heap.size A n.pipes) (hc : n.pipes.length ≤ c) (hm : c ≤ maxLen) :
    Calls Try.prog 6 #[.agg #[.int .i64 n.pump, .slice A n.pipes.length c]] w fun e w' => e = .returned (.bool true) ∧ Below w.heap.size w w' := by
  have hn : n.pipes.length ≤ maxLen := Nat.le_trans hc hm
  have hm9 : maxLen ≤ 9223372036854775807 := by unfold maxLen; omega
  by_cases hg : 70 < n.pipes.length
  · have hgb := Lib.hid (show greatB n.pipes.length 0 0 = true by unfold greatB; simp [hg])
    go_enter Try.func6, Try.ntmps6
    go_wp2_with fail
    refine (great_ n.pump A none none n.pipes.length 0 0 c 0 0 _ hn (Nat.zero_le _) (Nat.zero_le _)).mono ?_
    rintro e w1 ⟨rfl, hb1⟩
    rw [hgb.out]
    have hB1 : Below w.heap.size w w1 := ((Below.refl _ w).alloc (Nat.le_refl _) _).trans (hb1.mono (by simp))
    go_wp2_with fail
    refine (known_ _).mono ?_
    rintro e w2 ⟨rfl, hb2⟩
    have hB2 := hB1.trans (hb2.mono hB1.size)
    go_wp2_with fail
    go_ret
    exact ⟨rfl, hB2⟩
  · have hgb := Lib.hid (show greatB n.pipes.length 0 0 = false by unfold greatB; simp; omega)
    have hRW := hR.alloc (Nat.le_refl _) (.cells #[.int .i64 n.pump, .slice A n.pipes.length c] 24)
    have hN := Blk.new w 24 #[.int .i64 n.pump, .slice A n.pipes.length c]
    have hB : Below w.heap.size w (w.alloc (.cells #[.int .i64 n.pump, .slice A n.pipes.length c] 24)) := (by repeat (first | exact Below.refl _ _ | exact (Below.refl _ _) | assumption | (refine Below.setCell ?_ (by first | omega | (simp; done) | (simp; omega) | (simp [World.setCell]; done) | (simp [World.setCell]; omega)) _) | (refine Below.alloc ?_ (by first | omega | (simp; done) | (simp; omega) | (simp [World.setCell]; done) | (simp [World.setCell]; omega)) _) | (refine Below.drewN_ ?_ _) | (refine Below.drew ?_)))
    go_enter Try.func6, Try.ntmps6
    go_wp2_with fail
    generalize w.alloc (.cells #[.int .i64 n.pump, .slice A n.pipes.length c] 24) = V at *
    refine (great_ n.pump A none none n.pipes.length 0 0 c 0 0 _ hn (Nat.zero_le _) (Nat.zero_le _)).mono ?_
    rintro e V1 ⟨rfl, hb⟩
    rw [hgb.out]
    have hN1 := hN.below hb hN.lt
    have hR1 := hRW.below hb (Nat.le_of_lt hN.lt)
    have hB1 := hB.trans (hb.mono hB.size)
    have hl1 := hN1.lt
    have n0 := hN1.cell 0; have nf0 := hN1.frozen 0; have n1 := hN1.cell 1; have nf1 := hN1.frozen 1; simp at n0 n1
    clear hb hN hRW hB
    go_wp2_with fail
    refine (ownC n.pump A c 0 w.heap.size n.pipes _ hR1 (Nat.le_of_lt hl1) (by omega)).mono ?_
    rintro e V2 ⟨⟨B, c2, rfl, hc2, hRB⟩, hb⟩
    have hN2 := hN1.below hb hl1
    have hR2 := hR1.below hb (Nat.le_of_lt hl1)
    have hB2 := hB1.trans (hb.mono hB1.size)
    have hl2 := hN2.lt
    clear n0 n1 nf0 nf1
    have n0 := hN2.cell 0; have nf0 := hN2.frozen 0; have n1 := hN2.cell 1; have nf1 := hN2.frozen 1; simp at n0 n1
    clear hb hN1 hR1 hB1 hl1
    go_wp2_with fail
    refine (HeightsC n B c2 V2 _ _ hRB (Nat.le_refl _) hc2 hn).mono ?_
    rintro e V3 ⟨⟨H, ch, rfl, hch, hRH⟩, hb⟩
    have hN3 := hN2.below hb hl2
    have hR3 := hR2.below hb (Nat.le_of_lt hl2)
    have hB3 := hB2.trans (hb.mono hB2.size)
    have hl3 := hN3.lt
    clear n0 n1 nf0 nf1
    have n0 := hN3.cell 0; have nf0 := hN3.frozen 0; have n1 := hN3.cell 1; have nf1 := hN3.frozen 1; simp at n0 n1
    have hz2 := hB2.size
    clear hb hN2 hR2 hB2 hl2
    go_wp2_with fail
    refine (ownC n.pump A c 0 w.heap.size n.pipes _ hR3 (Nat.le_of_lt hl3) (by omega)).mono ?_
    rintro e V4 ⟨⟨B4, c4, rfl, hc4, hRB4⟩, hb⟩
    have hN4 := hN3.below hb hl3
    have hR4 := hR3.below hb (Nat.le_of_lt hl3)
    have hB4 := hB3.trans (hb.mono hB3.size)
    have hRH4 := hRH.below hb (Nat.le_refl _)
    have hz34 := hb.size
    have hl4 := hN4.lt
    clear n0 n1 nf0 nf1
    have n0 := hN4.cell 0; have nf0 := hN4.frozen 0; have n1 := hN4.cell 1; have nf1 := hN4.frozen 1; simp at n0 n1
    clear hb hN3 hR3 hB3 hl3
    go_wp2_with fail
    refine (ClimbsC n B4 c4 V4 _ _ hRB4 (Nat.le_refl _) hc4 hn).mono ?_
    rintro e V5 ⟨⟨C, cc, rfl, hcc, hRC⟩, hb⟩
    have hN5 := hN4.below hb hl4
    have hR5 := hR4.below hb (Nat.le_of_lt hl4)
    have hB5 := hB4.trans (hb.mono hB4.size)
    have hRH5 := hRH4.below hb hz34
    have hz45 := hb.size
    have hl5 := hN5.lt
    clear n0 n1 nf0 nf1
    have n0 := hN5.cell 0; have nf0 := hN5.frozen 0; have n1 := hN5.cell 1; have nf1 := hN5.frozen 1; simp at n0 n1
    clear hb hN4 hR4 hB4 hl4
    go_wp2_with fail
    refine (refNet_ n A c _ 0 w.heap.size hR5 (Nat.le_of_lt hl5) hn).mono ?_
    rintro e V6 ⟨rfl, hb⟩
    have hN6 := hN5.below hb hl5
    have hR6 := hR5.below hb (Nat.le_of_lt hl5)
    have hB6 := hB5.trans (hb.mono hB5.size)
    have hRH6 := hRH5.below hb (by omega)
    have hRC6 := hRC.below hb (Nat.le_refl _)
    have hz56 := hb.size
    have hl6 := hN6.lt
    clear n0 n1 nf0 nf1
    have n0 := hN6.cell 0; have nf0 := hN6.frozen 0; have n1 := hN6.cell 1; have nf1 := hN6.frozen 1; simp at n0 n1
    clear hb hN5 hR5 hB5 hl5 hRB hRB4 hRH hRH4 hRH5 hRC
    cases hok : netB n with
    | false =>
      simp only [HeightsV, ClimbsV, hok] at hRH6 hRC6 hch hcc ⊢
      go_wp2_with (go_at_call 15; refine (known_ _).mono ?_; rintro e w2 ⟨rfl, hb2⟩)
      go_ret
      exact ⟨rfl, hB6.trans (hb2.mono hB6.size)⟩
    | true =>
      have hln := netB_len hok
      have ht := netB_tree hok
      have hd := netB_drop hok
      simp only [HeightsV, ClimbsV, hok, if_true] at hRH6 hRC6 hch hcc ⊢
      have hhl : (heightsL n.pipes).length = n.pipes.length := by unfold heightsL; rw [hts_length]; simp; omega
      have hcl : (climbsL n.pipes).length = n.pipes.length := by unfold climbsL; rw [(clF_len _ _ _ _).1]; simp; omega
      rw [hhl, hcl]
      have hmm : (n.pipes.length : Int) ≤ 60 := by omega
      go_wp2_with fail
      go_loopw [7] (fun i wr => ∃ k : Nat, k ≤ n.pipes.length ∧ i = .int .i64 k ∧ Below V6.heap.size V6 wr) (fun i _ => n.pipes.length - (intOf i).toNat)
      case atStart => exact ⟨0, by omega, rfl, Below.refl _ _⟩
      case round =>
        obtain ⟨k, hk, rfl, hBr⟩ := hrel
        have hzr := hBr.size
        have hNr := hN6.below hBr hl6
        clear n0 n1 nf0 nf1
        have n0 := hNr.cell 0; have nf0 := hNr.frozen 0; have n1 := hNr.cell 1; have nf1 := hNr.frozen 1; simp at n0 n1
        by_cases hlt : k < n.pipes.length
        · have hRr := hR6.below hBr (Nat.le_of_lt hl6)
          obtain ⟨b1, o1, rfl, _, hb1, ck⟩ := RdI.at_ (hRH6.below hBr (by omega)) (show k < (heightsL n.pipes).length by omega)
          obtain ⟨b2, o2, rfl, _, hb2, cj⟩ := RdI.at_ (hRC6.below hBr (by omega)) (show k < (climbsL n.pipes).length by omega)
          have e1 : (heightsL n.pipes)[k] = hgtL n.pipes (k : Int) := by
            rw [← heightsL_way ht hd.2 hlt, List.getD_eq_getElem?_getD, List.getElem?_eq_getElem (by omega)]; rfl
          have e2 : (climbsL n.pipes)[k] = climbL n.pipes (k : Int) := by
            rw [← climbsL_way ht hd.2 hlt, List.getD_eq_getElem?_getD, List.getElem?_eq_getElem (by omega)]; rfl
          rw [e1] at ck
          rw [e2] at cj
          clear e1 e2
          have hkl : (k : Int) < (n.pipes.length : Int) := by omega
          have hwz : w.heap.size < wr.heap.size := by omega
          have hbz1 : b1 < wr.heap.size := by omega
          have hbz2 : b2 < wr.heap.size := by omega
          have keepC : ∀ V : World, Below wr.heap.size wr V → V.cell? ⟨w.heap.size, 0, none⟩ = some (.int .i64 n.pump) ∧ V.cell? ⟨w.heap.size, 1, none⟩ = some (.slice A n.pipes.length c) ∧ V.cell? ⟨b1, o1 + k, none⟩ = some (.int .i64 (hgtL n.pipes k)) ∧ V.cell? ⟨b2, o2 + k, none⟩ = some (.int .i64 (climbL n.pipes k)) :=
            fun V hV => ⟨(hV.cell hwz).trans n0, (hV.cell hwz).trans n1, (hV.cell hbz1).trans ck, (hV.cell hbz2).trans cj⟩
          have HK := Lib.hid keepC
          clear keepC
          go_wp2_with fail
          apply wp_rel (R := fun V => Below wr.heap.size wr V)
          · go_region_held3 (fun V => V.cell? ⟨w.heap.size, 0, none⟩ = some (.int .i64 n.pump) ∧ V.cell? ⟨w.heap.size, 1, none⟩ = some (.slice A n.pipes.length c) ∧ V.cell? ⟨b1, o1 + k, none⟩ = some (.int .i64 (hgtL n.pipes k)) ∧ V.cell? ⟨b2, o2 + k, none⟩ = some (.int .i64 (climbL n.pipes k))) (first | exact HK.out _ hBB | exact HK.out _ (Below.refl _ wr).drew)
              (first
                | (go_at_call 33; refine (refHeight_ n _ A c _ 0 w.heap.size (by first | exact hRr.drew | exact hRr.below hBB (by omega)) (by first | omega | (have := hBB.size; omega) | (show w.heap.size ≤ wr.heap.size; omega)) hln.2 ht hd.1 (by omega) (by omega)).mono ?_; rintro e w2 ⟨rfl, hb2⟩; have hBB : Below wr.heap.size wr w2 := (by first | exact (Below.trans hBB (hb2.mono hBB.size)) | exact ((Below.refl _ wr).drew.trans hb2)))
                | (go_at_call 34; refine (refClimb_ n _ A c _ 0 w.heap.size (by first | exact hRr.drew | exact hRr.below hBB (by omega)) (by first | omega | (have := hBB.size; omega) | (show w.heap.size ≤ wr.heap.size; omega)) hln.2 ht hd.1 (by omega) (by omega)).mono ?_; rintro e w2 ⟨rfl, hb2⟩; have hBB : Below wr.heap.size wr w2 := (by first | exact (Below.trans hBB (hb2.mono hBB.size)) | exact ((Below.refl _ wr).drew.trans hb2))))
            all_goals exact ⟨rfl, rfl, hBB⟩
          · intro V hV
            go_wp2_with fail
            exact ⟨⟨k + 1, by omega, by go_num, hBr.trans (hV.mono hzr)⟩, by simp [intOf]; omega⟩
        · obtain rfl : k = n.pipes.length := by omega
          go_wp2_with fail
          refine (known_ _).mono ?_
          rintro e w2 ⟨rfl, hb2⟩
          go_wp2_with fail
          go_ret
          exact ⟨rfl, hB6.trans ((hBr.trans (hb2.mono hzr)).mono hB6.size)⟩
end Go.Proofs.Ytepibjfmeibgcaa
