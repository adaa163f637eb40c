/- What the reference's Flows returns. -/
import Derived.Test.YtepibjfmeibgcaaRv
namespace Go.Proofs.Ytepibjfmeibgcaa
open Go.RowKit
set_option linter.unusedVariables false
set_option maxHeartbeats 2000000 in
set_option maxRecDepth 100000 in
theorem refFlows_ (n : Net) (rs : List Rng) (zs : List Int) (A B C : Option Addr) (c cb cz l2 h2 l3 h3 : Nat) (w : World) (hF : RdR w l2 h2 B rs) (hh2 : h2 ≤ w.heap.size) (hZ : RdI w l3 h3 C zs) (hh3 : h3 ≤ w.heap.size)
    (hn : n.pipes.length ≤ 60) (hrn : rs.length ≤ 1000000000) (hzl : zs.length ≤ 1000000000) :
    Calls Try.prog 40 #[.agg #[.int .i64 n.pump, .slice A n.pipes.length c], .slice B rs.length cb, .slice C zs.length cz] w fun e w' => e = .returned (.int .i64 (chkF n.pipes.length rs zs)) ∧ Below w.heap.size w w' := by
  by_cases hl : rs.length = n.pipes.length
  rotate_left
  · have HC := Lib.hid (chkF_len (frozen := zs) hl)
    have hne : ((rs.length : Int) != (n.pipes.length : Int)) = true := by simp; omega
    clear hl
    go_enter Try.func40, Try.ntmps40
    go_wp2_with fail
    go_ret
    exact ⟨ret_int (by rw [HC.out]), (by repeat (first | exact Below.refl _ _ | exact (Below.refl _ _) | assumption | (refine Below.setCell ?_ (by first | omega | (simp; done) | (simp; omega) | (simp [World.setCell]; done) | (simp [World.setCell]; omega)) _) | (refine Below.alloc ?_ (by first | omega | (simp; done) | (simp; omega) | (simp [World.setCell]; done) | (simp [World.setCell]; omega)) _) | (refine Below.drewN_ ?_ _) | (refine Below.drew ?_)))⟩
  have hne : ((rs.length : Int) != (n.pipes.length : Int)) = false := by rw [hl]; simp
  have HL := Lib.hid hl
  clear hl
  go_enter Try.func40, Try.ntmps40
  go_wp2_with fail
  go_loopw [7] (fun i wr => ∃ k : Nat, k ≤ rs.length ∧ i = .int .i64 k ∧ flowsB (rs.take k) = true ∧ Blk wr w.heap.size 24 #[.int .i64 n.pump, .slice A n.pipes.length c] ∧ Below w.heap.size w wr) (fun i _ => rs.length - (intOf i).toNat)
  case atStart => exact ⟨0, Nat.zero_le _, rfl, rfl, Blk.new _ _ _, (by repeat (first | exact Below.refl _ _ | exact (Below.refl _ _) | assumption | (refine Below.setCell ?_ (by first | omega | (simp; done) | (simp; omega) | (simp [World.setCell]; done) | (simp [World.setCell]; omega)) _) | (refine Below.alloc ?_ (by first | omega | (simp; done) | (simp; omega) | (simp [World.setCell]; done) | (simp [World.setCell]; omega)) _) | (refine Below.drewN_ ?_ _) | (refine Below.drew ?_)))⟩
  case round =>
    obtain ⟨k, hk, rfl, hall, hN, hB⟩ := hrel
    have HALL := Lib.hid hall
    clear hall
    have hz := hB.size
    by_cases hlt : k < rs.length
    · have hkl : (k : Int) < (rs.length : Int) := by omega
      obtain ⟨bb, off, rfl, _, hbb, c0, c1⟩ := RdR.at_ (hF.below hB hh2) hlt
      have hs := Lib.hid (flowsB_snoc rs k hlt)
      by_cases h1 : rs[k].low < 0
      · have HF := Lib.hid (flowsB_false rs k hlt (by unfold flowB inB; simp; omega))
        have HC := Lib.hid (chkF_bad (frozen := zs) HL.out HF.out)
        go_wp2_with fail
        go_quiet (fail)
        go_wp2_with fail
        go_ret
        exact ⟨ret_int (by rw [HC.out]), (by repeat (first | exact Below.refl _ _ | exact (hB) | assumption | (refine Below.setCell ?_ (by first | omega | (simp; done) | (simp; omega) | (simp [World.setCell]; done) | (simp [World.setCell]; omega)) _) | (refine Below.alloc ?_ (by first | omega | (simp; done) | (simp; omega) | (simp [World.setCell]; done) | (simp [World.setCell]; omega)) _) | (refine Below.drewN_ ?_ _) | (refine Below.drew ?_)))⟩
      · have h1 : 0 ≤ rs[k].low := by omega
        by_cases h2 : rs[k].high < rs[k].low
        · have HF := Lib.hid (flowsB_false rs k hlt (by unfold flowB inB; simp; omega))
          have HC := Lib.hid (chkF_bad (frozen := zs) HL.out HF.out)
          go_wp2_with fail
          go_quiet (fail)
          go_wp2_with fail
          go_ret
          exact ⟨ret_int (by rw [HC.out]), (by repeat (first | exact Below.refl _ _ | exact (hB) | assumption | (refine Below.setCell ?_ (by first | omega | (simp; done) | (simp; omega) | (simp [World.setCell]; done) | (simp [World.setCell]; omega)) _) | (refine Below.alloc ?_ (by first | omega | (simp; done) | (simp; omega) | (simp [World.setCell]; done) | (simp [World.setCell]; omega)) _) | (refine Below.drewN_ ?_ _) | (refine Below.drew ?_)))⟩
        · have h2 : rs[k].low ≤ rs[k].high := by omega
          by_cases h3 : 1000000000 < rs[k].high
          · have HF := Lib.hid (flowsB_false rs k hlt (by unfold flowB inB; simp; omega))
            have HC := Lib.hid (chkF_bad (frozen := zs) HL.out HF.out)
            go_wp2_with fail
            go_quiet (fail)
            go_wp2_with fail
            go_ret
            exact ⟨ret_int (by rw [HC.out]), (by repeat (first | exact Below.refl _ _ | exact (hB) | assumption | (refine Below.setCell ?_ (by first | omega | (simp; done) | (simp; omega) | (simp [World.setCell]; done) | (simp [World.setCell]; omega)) _) | (refine Below.alloc ?_ (by first | omega | (simp; done) | (simp; omega) | (simp [World.setCell]; done) | (simp [World.setCell]; omega)) _) | (refine Below.drewN_ ?_ _) | (refine Below.drew ?_)))⟩
          · have h3 : rs[k].high ≤ 1000000000 := by omega
            have HF := Lib.hid (show flowB rs[k] = true by unfold flowB inB; simp; omega)
            go_wp2_with fail
            go_quiet (fail)
            go_wp2_with fail
            exact ⟨⟨k + 1, by omega, by go_num, by rw [hs.out, HALL.out, HF.out]; rfl, hN.drewN _, Below.drewN_ hB _⟩, by simp [intOf]; omega⟩
    · obtain rfl : k = rs.length := by omega
      have HB : Hid (flowsB rs = true) := Lib.hid (by have := HALL.out; rwa [List.take_length] at this)
      have HC := Lib.hid (chkF_frz (frozen := zs) HL.out HB.out)
      have HW := Lib.hid (IntWalk.i64_in ((n.pipes.length : Int) - 1) (by omega))
      obtain ⟨wo, rfl⟩ : ∃ wo : World, wo = wr := ⟨_, rfl⟩
      go_wp2_with fail
      go_loopw [8] (fun i wr => ∃ k : Nat, k ≤ zs.length ∧ i = .int .i64 k ∧ frzF n.pipes.length (zs.drop k) (zs.take k) = frzF n.pipes.length zs [] ∧ Blk wr w.heap.size 24 #[.int .i64 n.pump, .slice A n.pipes.length c] ∧ Below w.heap.size w wr) (fun i _ => zs.length - (intOf i).toNat)
      case atStart => exact ⟨0, Nat.zero_le _, rfl, rfl, hN, hB⟩
      case round =>
        clear hN hB hz
        obtain ⟨k, hk, rfl, hall, hN, hB⟩ := hrel
        have HALL2 := Lib.hid hall
        clear hall
        have hz := hB.size
        have hnl := hN.lt
        have n0 := hN.cell 0; have nf0 := hN.frozen 0; have n1 := hN.cell 1; have nf1 := hN.frozen 1; simp at n0 n1
        by_cases hlt : k < zs.length
        · have hkl : (k : Int) < (zs.length : Int) := by omega
          obtain ⟨bb, off, rfl, _, hbb, c0⟩ := RdI.at_ (hZ.below hB hh3) hlt
          have keepC : ∀ V : World, Below wr.heap.size wr V → V.cell? ⟨w.heap.size, 1, none⟩ = some (.slice A n.pipes.length c) ∧ V.cell? ⟨bb, off + k, none⟩ = some (.int .i64 zs[k]) :=
            fun V hV => ⟨(hV.cell hnl).trans n1, (hV.cell (by simp only; omega)).trans c0⟩
          have HK := Lib.hid keepC
          clear keepC
          cases hin : inB 1 (n.pipes.length - 1) zs[k] with
          | false =>
            have hf := Lib.hid (frzF_none n.pipes.length zs k hlt hin)
            have HIN := Lib.hid hin
            clear hin
            go_wp2_with fail
            apply wp_rel (R := fun V => Below wr.heap.size wr V)
            · go_region_held3 (fun V => V.cell? ⟨w.heap.size, 1, none⟩ = some (.slice A n.pipes.length c) ∧ V.cell? ⟨bb, off + k, none⟩ = some (.int .i64 zs[k])) (exact HK.out _ (Below.refl _ wr).drew)
                (first | (go_at_call 74; rw [HW.out]; refine (refIn_ _ _ _ _).mono ?_; rintro e w' ⟨rfl, rfl⟩; rw [HIN.out]))
              all_goals exact ⟨rfl, rfl, (Below.refl _ wr).drew⟩
            · intro V hV
              have hBV := hB.trans (hV.mono hz)
              have hNV := hN.below hV hnl
              go_wp2_with fail
              go_ret
              exact ⟨ret_int (by rw [HC.out, ← HALL2.out, hf.out]), hBV⟩
          | true =>
            have HIN := Lib.hid hin
            clear hin
            obtain ⟨wq, rfl⟩ : ∃ wq : World, wq = wr := ⟨_, rfl⟩
            go_wp2_with fail
            apply wp_rel (R := fun V => Below wq.heap.size wq V)
            · go_region_held3 (fun V => V.cell? ⟨w.heap.size, 1, none⟩ = some (.slice A n.pipes.length c) ∧ V.cell? ⟨bb, off + k, none⟩ = some (.int .i64 zs[k])) (exact HK.out _ (Below.refl _ wq).drew)
                (first | (go_at_call 74; rw [HW.out]; refine (refIn_ _ _ _ _).mono ?_; rintro e w' ⟨rfl, rfl⟩; rw [HIN.out]))
              all_goals exact ⟨rfl, rfl, (Below.refl _ wq).drew⟩
            · intro V hV
              have hBV := hB.trans (hV.mono hz)
              have hNV := hN.below hV hnl
              go_wp2_with fail
              go_loopw [9] (fun j wi => ∃ m : Nat, m ≤ k ∧ j = .int .i64 m ∧ memB (zs.take m) zs[k] = false ∧ Blk wi w.heap.size 24 #[.int .i64 n.pump, .slice A n.pipes.length c] ∧ Below w.heap.size w wi) (fun j _ => k - (intOf j).toNat)
              case atStart => exact ⟨0, Nat.zero_le _, rfl, rfl, hNV, hBV⟩
              case round =>
                clear hNV hBV hV hN hB hz hnl n0 n1 nf0 nf1 c0 HK
                obtain ⟨m, hm, rfl, hmm, hN, hB⟩ := hrel
                have HMM := Lib.hid hmm
                clear hmm
                have hz := hB.size
                by_cases hmk : m < k
                · have hml : m < zs.length := by omega
                  have hmi : (m : Int) < (zs.length : Int) := by omega
                  obtain ⟨b1, o1, he1, _, _, c0⟩ := RdI.at_ (hZ.below hB hh3) hlt
                  cases he1
                  obtain ⟨b2, o2, he2, _, _, c1⟩ := RdI.at_ (hZ.below hB hh3) hml
                  cases he2
                  by_cases he : zs[m] = zs[k]
                  · have hbe : (zs[m] == zs[k]) = true := by simp [he]
                    have hf := Lib.hid (frzF_twice n.pipes.length zs k hlt HIN.out (by rw [← he, memB_iff, List.mem_take_iff_getElem]; exact ⟨m, by omega, rfl⟩))
                    have HE := Lib.hid he
                    clear he
                    go_wp2_with fail
                    go_quiet (fail)
                    go_wp2_with fail
                    go_ret
                    exact ⟨ret_int (by rw [HC.out, ← HALL2.out, hf.out]), (by repeat (first | exact Below.refl _ _ | exact (hB) | assumption | (refine Below.setCell ?_ (by first | omega | (simp; done) | (simp; omega) | (simp [World.setCell]; done) | (simp [World.setCell]; omega)) _) | (refine Below.alloc ?_ (by first | omega | (simp; done) | (simp; omega) | (simp [World.setCell]; done) | (simp [World.setCell]; omega)) _) | (refine Below.drewN_ ?_ _) | (refine Below.drew ?_)))⟩
                  · have hbe : (zs[m] == zs[k]) = false := by simp [he]
                    have hsn := Lib.hid (memB_snoc hml HMM.out (Ne.symm he))
                    clear he
                    go_wp2_with fail
                    go_quiet (fail)
                    go_wp2_with fail
                    exact ⟨⟨m + 1, by omega, by go_num, hsn.out, by first | exact hN.drewN _ | exact hN.drew | exact hN, (by repeat (first | exact Below.refl _ _ | exact (hB) | assumption | (refine Below.setCell ?_ (by first | omega | (simp; done) | (simp; omega) | (simp [World.setCell]; done) | (simp [World.setCell]; omega)) _) | (refine Below.alloc ?_ (by first | omega | (simp; done) | (simp; omega) | (simp [World.setCell]; done) | (simp [World.setCell]; omega)) _) | (refine Below.drewN_ ?_ _) | (refine Below.drew ?_)))⟩, by simp [intOf]; omega⟩
                · obtain rfl : m = k := by omega
                  have hf := Lib.hid (frzF_step n.pipes.length zs m hlt HIN.out HMM.out)
                  go_wp2_with fail
                  exact ⟨⟨m + 1, by omega, by go_num, by rw [← hf.out, HALL2.out], hN, hB⟩, by simp [intOf]; omega⟩
        · obtain rfl : k = zs.length := by omega
          go_wp2
          go_ret
          have := HALL2.out
          rw [List.drop_length] at this
          exact ⟨ret_int (by rw [HC.out, ← this]; rfl), hB⟩
end Go.Proofs.Ytepibjfmeibgcaa
