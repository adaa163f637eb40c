/- What the reference's On, Behind and Between return. -/
import Derived.Test.YtepibjfmeibgcaaRb
import Derived.Test.YtepibjfmeibgcaaRq
namespace Go.Proofs.Ytepibjfmeibgcaa
open Go.RowKit
set_option maxHeartbeats 1000000 in
set_option maxRecDepth 100000 in
theorem refOn_ (n : Net) (node of : Int) (A : Option Addr) (c : Nat) (w : World) (lo hi : Nat) (hR : RdP w lo hi A n.pipes) (hhi : hi ≤ w.heap.size) (hn : n.pipes.length ≤ 60) (ht : Tree n.pipes) (h0 : 0 ≤ of) (h1 : of < n.pipes.length) :
    Calls Try.prog 82 #[.agg #[.int .i64 n.pump, .slice A n.pipes.length c], .int .i64 node, .int .i64 of] w fun e w' => e = .returned (.bool (onB n.pipes node of)) ∧ Below w.heap.size w w' := by
  have hwl := wayL_len n.pipes of
  have hob := Lib.hid (show onB n.pipes node of = memB (wayL n.pipes of) node from rfl)
  go_enter Try.func82, Try.ntmps82
  go_wp2_with fail
  refine (refWay_ n of A c _ lo hi (hR.alloc hhi _) (by simp; omega) hn ht h0 h1).mono ?_
  rintro e w1 ⟨⟨B, cap, rfl, hcap, hW⟩, hb⟩
  have hB1 := Below.step (B := w.heap.size) (a := w) (by repeat (first | exact Below.refl _ _ | exact (Below.refl _ _) | assumption | (refine Below.setCell ?_ (by first | omega | (simp; done) | (simp; omega) | (simp [World.setCell]; done) | (simp [World.setCell]; omega)) _) | (refine Below.alloc ?_ (by first | omega | (simp; done) | (simp; omega) | (simp [World.setCell]; done) | (simp [World.setCell]; omega)) _) | (refine Below.drewN_ ?_ _) | (refine Below.drew ?_))) hb (by first | omega | (simp; done) | (simp; omega) | (simp [World.setCell]; done) | (simp [World.setCell]; omega))
  have hz1 := hb.size
  simp only [World.size_alloc] at hz1
  generalize wayL n.pipes of = way at *
  go_wp2_with fail
  go_loop [8] (fun i => ∃ k : Nat, k ≤ way.length ∧ i = .int .i64 k ∧ memB (way.take k) node = false) (fun i => way.length - (intOf i).toNat)
  case atStart => exact ⟨0, by omega, rfl, rfl⟩
  case round =>
    obtain ⟨k, hk, rfl, hm⟩ := hrel
    have HM := Lib.hid hm
    clear hm
    by_cases hlt : k < way.length
    · obtain ⟨b1, o1, rfl, _, _, cw⟩ := RdI.at_ hW hlt
      have hkl : (k : Int) < (way.length : Int) := by omega
      by_cases he : way[k] = node
      · have hbe : (way[k] == node) = true := by simp [he]
        have hmem := Lib.hid (show memB way node = true from he ▸ memB_at hlt)
        clear he
        go_wp2
        go_ret
        exact ⟨ret_bool (by rw [hob.out, hmem.out]), hB1⟩
      · have hbe : (way[k] == node) = false := by simp [he]
        have hsn := Lib.hid (memB_snoc hlt HM.out (Ne.symm he))
        clear he
        go_wp2
        exact ⟨⟨k + 1, by omega, by go_num, hsn.out⟩, by simp [intOf]; omega⟩
    · obtain rfl : k = way.length := by omega
      go_wp2
      go_ret
      have := HM.out
      rw [List.take_length] at this
      exact ⟨ret_bool (by rw [hob.out, this]), hB1⟩
set_option maxHeartbeats 1000000 in
set_option maxRecDepth 100000 in
theorem refBehind_ (n : Net) (node : Int) (A : Option Addr) (c : Nat) (w : World) (lo hi : Nat) (hR : RdP w lo hi A n.pipes) (hhi : hi ≤ w.heap.size) (hn : n.pipes.length ≤ 60) (ht : Tree n.pipes) :
    Calls Try.prog 47 #[.agg #[.int .i64 n.pump, .slice A n.pipes.length c], .int .i64 node] w fun e w' => RetL w.heap.size e w' (behT n.pipes node n.pipes.length) ∧ Below w.heap.size w w' := by
  obtain ⟨i0, ei0, ez0, ez1, ez2⟩ := info_parts infoInt
  go_enter Try.func47, Try.ntmps47
  go_wp2_with fail
  go_loopw [5, 6] (fun v i wr => ∃ k : Nat, k ≤ n.pipes.length ∧ i = .int .i64 k ∧ wr.ownsRow (w.heap.size + 1) 3 1 v (behT n.pipes node k).length ((behT n.pipes node k).map I) ∧ Blk wr w.heap.size 24 #[.int .i64 n.pump, .slice A n.pipes.length c] ∧ Below w.heap.size w wr ∧ w.heap.size + 1 ≤ wr.heap.size) (fun _ i _ => n.pipes.length - (intOf i).toNat)
  case atStart => exact ⟨0, by omega, rfl, by simpa [behT] using owns_empty1 _ (w.heap.size + 1) _ _ (by simp) (by simp), (Blk.new _ _ _).alloc _, (by repeat (first | exact Below.refl _ _ | exact (Below.refl _ _) | assumption | (refine Below.setCell ?_ (by first | omega | (simp; done) | (simp; omega) | (simp [World.setCell]; done) | (simp [World.setCell]; omega)) _) | (refine Below.alloc ?_ (by first | omega | (simp; done) | (simp; omega) | (simp [World.setCell]; done) | (simp [World.setCell]; omega)) _) | (refine Below.drewN_ ?_ _) | (refine Below.drew ?_))), by simp⟩
  case round =>
    obtain ⟨k, hk, rfl, hrow, hN, hB, hz⟩ := hrel
    have hnl := hN.lt
    have hbl : (behT n.pipes node k).length ≤ k := by
      unfold behT
      have := List.length_filter_le (fun (i : Nat) => onB n.pipes node (i : Int)) (List.range k)
      rw [List.length_range] at this
      rw [List.length_map]; exact this
    have HS := Lib.hid (behT_succ n.pipes node k)
    have n0 := hN.cell 0; have nf0 := hN.frozen 0; have n1 := hN.cell 1; have nf1 := hN.frozen 1; simp at n0 n1
    by_cases hlt : k < n.pipes.length
    · have hkl : (k : Int) < (n.pipes.length : Int) := by omega
      go_wp2_with fail
      refine (refOn_ n node _ A c _ lo hi (hR.below hB hhi) (by omega) hn ht (by omega) hkl).mono ?_
      rintro e w1 ⟨rfl, hb⟩
      have hrow1 := hrow.kept (w' := w1) (row := none) ⟨hb.os, hb.tape, hb.output, hb.size, fun j hj _ => hb.block j hj⟩ (by cases u5.ownBlock <;> simp)
      have hN1 := hN.below hb hnl
      have hz1 := hb.size
      have hB1 := hB.trans (hb.mono (by omega))
      generalize behT n.pipes node k = L at *
      cases hon : onB n.pipes node (k : Int) with
      | false =>
        have HON := Lib.hid hon
        clear hon
        go_wp2_with fail
        exact ⟨⟨k + 1, by omega, by go_num, by rw [HS.out, HON.out]; simpa using hrow1, hN1, hB1, by omega⟩, by simp [intOf]; omega⟩
      | true =>
        have HON := Lib.hid hon
        clear hon
        go_wp2_with (at_builtin; (refine wpList_append_own _ rfl _ _ 31 rfl (w.heap.size + 1) 3 i0 (.int .i64 0) 1 8 Try.underlying31 ei0 ez0 ez1 ez2 rfl (by decide) _ _ _ rfl (hrow1.alloc _) ⟨w1.heap.size, 0, none⟩ 1 1 [.int .i64 k] rfl rfl (cell_one_new _ _ _) (by simp [Value.oneCell']) (by unfold maxLen; omega) (by omega) (by simp; omega) ?_); intro v' w3 hown' hgrow _)
        have hbw : Below (w.heap.size + 1) w1 w3 := ((Below.refl _ w1).alloc (by omega) _).grown hgrow (by simp; omega) (fun r e => (hrow1.lt r e).1)
        exact ⟨⟨k + 1, by omega, by go_num, by rw [HS.out, HON.out]; simpa using hown', hN1.below hbw (by omega), hB1.trans (hbw.mono (by omega)), by have := hbw.size; omega⟩, by simp [intOf]; omega⟩
    · obtain rfl : k = n.pipes.length := by omega
      go_wp2
      go_ret
      obtain ⟨A', c', rfl, h3, h4⟩ := ownsRow_rdI hrow
      exact ⟨⟨A', c', rfl, h3, h4.mono (by omega) (Nat.le_refl _)⟩, hB⟩
theorem apart_bd {ps : List Pipe} (hl : ∀ j, 0 < j → j < ps.length → 0 ≤ (pAt ps j).length ∧ (pAt ps j).length ≤ 100000) (a b : Int) {j : Nat} (hj : j < ps.length) : 0 ≤ apart ps a b j ∧ apart ps a b j ≤ 100000 := by
  unfold apart
  split
  · exact hl j (by omega) hj
  · omega
theorem sg_apart_bd {ps : List Pipe} (hl : ∀ j, 0 < j → j < ps.length → 0 ≤ (pAt ps j).length ∧ (pAt ps j).length ≤ 100000) (a b : Int) : ∀ k, k ≤ ps.length → 0 ≤ sg k (apart ps a b) ∧ sg k (apart ps a b) ≤ k * 100000 := by
  intro k
  induction k with
  | zero => intro _; simp [sg]
  | succ k ih =>
    intro hk
    have h1 := ih (by omega)
    have h2 := apart_bd hl a b (show k < ps.length by omega)
    rw [sg_succ]; omega
set_option maxHeartbeats 2000000 in
set_option maxRecDepth 100000 in
theorem refBetween_ (n : Net) (a b : Int) (A : Option Addr) (c : Nat) (w : World) (lo hi : Nat) (hR : RdP w lo hi A n.pipes) (hhi : hi ≤ w.heap.size) (hn : n.pipes.length ≤ 60) (hn1 : 1 ≤ n.pipes.length) (ht : Tree n.pipes) (hl : ∀ j, 0 < j → j < n.pipes.length → 0 ≤ (pAt n.pipes j).length ∧ (pAt n.pipes j).length ≤ 100000)
    (a0 : 0 ≤ a) (a1 : a < n.pipes.length) (b0 : 0 ≤ b) (b1 : b < n.pipes.length) :
    Calls Try.prog 48 #[.agg #[.int .i64 n.pump, .slice A n.pipes.length c], .int .i64 a, .int .i64 b] w fun e w' => e = .returned (.int .i64 (dB n.pipes a b)) ∧ Below w.heap.size w w' := by
  have hdb := Lib.hid (show dB n.pipes a b = sg n.pipes.length (apart n.pipes a b) from rfl)
  have h00 := Lib.hid (show sg 1 (apart n.pipes a b) = 0 by rw [sg_succ]; simp [sg, apart])
  go_enter Try.func48, Try.ntmps48
  go_wp2_with fail
  go_loopw [7, 8] (fun s i wr => ∃ k : Nat, 1 ≤ k ∧ k ≤ n.pipes.length ∧ i = .int .i64 k ∧ s = .int .i64 (sg k (apart n.pipes a b)) ∧ Blk wr w.heap.size 24 #[.int .i64 n.pump, .slice A n.pipes.length c] ∧ Below w.heap.size w wr) (fun _ i _ => n.pipes.length - (intOf i).toNat)
  case atStart => exact ⟨1, Nat.le_refl _, hn1, rfl, by rw [h00.out], Blk.new _ _ _, (by repeat (first | exact Below.refl _ _ | exact (Below.refl _ _) | assumption | (refine Below.setCell ?_ (by first | omega | (simp; done) | (simp; omega) | (simp [World.setCell]; done) | (simp [World.setCell]; omega)) _) | (refine Below.alloc ?_ (by first | omega | (simp; done) | (simp; omega) | (simp [World.setCell]; done) | (simp [World.setCell]; omega)) _) | (refine Below.drewN_ ?_ _) | (refine Below.drew ?_)))⟩
  case round =>
    obtain ⟨k, hk1, hk, rfl, rfl, hN, hB⟩ := hrel
    have hnl := hN.lt
    have hsb := sg_apart_bd hl a b k hk
    have HS := Lib.hid (sg_succ k (apart n.pipes a b))
    have n0 := hN.cell 0; have nf0 := hN.frozen 0; have n1 := hN.cell 1; have nf1 := hN.frozen 1; simp at n0 n1
    by_cases hlt : k < n.pipes.length
    · have hkl : (k : Int) < (n.pipes.length : Int) := by omega
      have hab := Lib.hid (show apart n.pipes a b k = if 0 < k ∧ onB n.pipes k a ≠ onB n.pipes k b then (pAt n.pipes k).length else 0 from rfl)
      have hpl := hl k (by omega) hlt
      obtain ⟨bb, off, rfl, _, hbb, c0, c1, c2, c3, c4⟩ := RdP.at_ (hR.below hB hhi) hlt
      rw [← pAt_eq hlt] at c1
      clear c0 c2 c3 c4
      have hRr := hR.below hB hhi
      have hzz := hB.size
      have keepC : ∀ V : World, Below wr.heap.size wr V → V.cell? ⟨w.heap.size, 0, none⟩ = some (.int .i64 n.pump) ∧ V.cell? ⟨w.heap.size, 1, none⟩ = some (.slice (some ⟨bb, off, none⟩) n.pipes.length c) :=
        fun V hV => ⟨(hV.cell hnl).trans n0, (hV.cell hnl).trans n1⟩
      have HK := Lib.hid keepC
      clear keepC
      go_wp2_with fail
      apply wp_rel (R := fun V => Below wr.heap.size wr V)
      · go_region_held3 (fun V => V.cell? ⟨w.heap.size, 0, none⟩ = some (.int .i64 n.pump) ∧ V.cell? ⟨w.heap.size, 1, none⟩ = some (.slice (some ⟨bb, off, none⟩) n.pipes.length c)) (first | exact HK.out _ hBB | exact HK.out _ (Below.refl _ wr).drew)
          (first | (go_at_call 82; refine (refOn_ n _ _ _ c _ lo hi (by first | exact hRr.drew | exact hRr.below hBB (by omega)) (by first | omega | (have := hBB.size; omega) | (show hi ≤ wr.heap.size; omega)) hn ht (by omega) (by omega)).mono ?_; rintro e w2 ⟨rfl, hb2⟩; have hBB : Below wr.heap.size wr w2 := (by first | exact (Below.trans hBB (hb2.mono hBB.size)) | exact ((Below.refl _ wr).drew.trans hb2))))
        all_goals exact ⟨rfl, rfl, hBB⟩
      · intro V hV
        have hNV := hN.below hV hnl
        have hBV := hB.trans (hV.mono hzz)
        have v1 : V.cell? ⟨w.heap.size, 1, none⟩ = _ := (hV.cell hnl).trans n1
        have vc : V.cell? ⟨bb, off + k * 5 + 1, none⟩ = _ := (hV.cell (by simp only; omega)).trans c1
        generalize sg k (apart n.pipes a b) = s at *
        cases ho1 : onB n.pipes (k : Int) a <;> cases ho2 : onB n.pipes (k : Int) b
        all_goals
          have HO1 := Lib.hid ho1
          have HO2 := Lib.hid ho2
          clear ho1 ho2
          go_wp2_with fail
          exact ⟨⟨k + 1, by omega, by omega, by go_num, by rw [HS.out, hab.out, HO1.out, HO2.out]; first | (rw [if_pos ⟨by omega, by decide⟩]) | (rw [if_neg (by simp)]; simp), hNV, hBV⟩, by simp [intOf]; omega⟩
    · obtain rfl : k = n.pipes.length := by omega
      go_wp2
      go_ret
      exact ⟨ret_int (by rw [hdb.out]), hB⟩
end Go.Proofs.Ytepibjfmeibgcaa
