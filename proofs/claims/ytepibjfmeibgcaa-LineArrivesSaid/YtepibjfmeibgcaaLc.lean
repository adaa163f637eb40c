/- The law of what arrives: its last statements. -/
import Derived.Test.YtepibjfmeibgcaaAq
namespace Go.Proofs.Ytepibjfmeibgcaa
open Go.RowKit
set_option linter.unusedVariables false
/-- What follows the first so many statements. -/
def restC : Nat → Code → Code
  | 0, c => c
  | n + 1, .seq _ d => restC n d
  | _, c => c
set_option maxHeartbeats 4000000 in
set_option maxRecDepth 100000 in
theorem arrC (n : Net) (pq : List Pipe) (f gF : Nat → Int) (ice : Nat) (A L0 L1 L2 L3 L4 : Option Addr) (c cl0 cl1 cl2 cl3 cl4 : Nat) (w V26 : World) (hok : netB n = true) (HF1 : Hid (∀ k, k < n.pipes.length → 0 ≤ f k ∧ f k ≤ 1000000000)) (HF3 : Hid (∀ k, k < n.pipes.length → f k ≤ gF k)) (HWD : Hid (∀ k, k < n.pipes.length → vacV n.pump n.pipes f [] k ≤ vacV n.pump pq f [] k))
    (hN6 : Blk V26 w.heap.size 24 #[.int .i64 n.pump, .slice A n.pipes.length c]) (hR6 : RdP V26 0 V26.heap.size A n.pipes) (hB6 : Below w.heap.size w V26)
    (h06 : RdR V26 0 V26.heap.size L0 (pairT (ldV n.pipes f [(ice : Int)]) (ldV n.pipes f [(ice : Int)]) n.pipes.length)) (h16 : RdR V26 0 V26.heap.size L1 (pairT (vacV n.pump n.pipes f []) (vacV n.pump n.pipes f []) n.pipes.length))
    (h26 : RdR V26 0 V26.heap.size L2 (pairT (ldV n.pipes gF [(ice : Int)]) (ldV n.pipes gF [(ice : Int)]) n.pipes.length)) (h36 : RdR V26 0 V26.heap.size L3 (pairT (vacV n.pump n.pipes gF []) (vacV n.pump n.pipes gF []) n.pipes.length))
    (hL4 : RdR V26 0 V26.heap.size L4 (pairT (vacV n.pump pq f []) (vacV n.pump pq f []) n.pipes.length)) {t0 t1 t2 t4 t5 t6 t7 t8 t9 t10 t15 t16 t17 t18 t19 t22 t25 t26 t27 t28 t29 t30 t31 t32 t33 t34 t35 t36 t37 t38 t39 t40 t41 t42 t43 t44 t45 t46 t47 t48 t49 t50 t51 t52 t53 t54 t55 t56 t57 t58 t59 t60 t61 t62 t63 t64 t65 t66 t67 t68 t69 t70 t71 t72 t73 t74 t75 t76 t77 t78 t79 t80 t81 t82 t83 t84 t85 t86 t87 t88 t89 t90 t91 t92 t93 t94 t95 t96 t97 t98 t99 t100 t101 t102 t103 t104 t105 t106 t107 t108 t109 t110 t111 t112 t113 t114 t115 t116 t117 t118 t119 t120 t121 t122 t123 t124 t125 t126 t127 t128 t129 t130 t131 t132 t133 t134 t135 t136 t137 t138 t139 t140 t141 t142 t143 t144 t145 t146 t147 t148 t149 t150 t151 t152 t153 t154 t155 t156 t157 t158 t159 t160 t161 t162 t163 t164 t165 t166 t167 t168 t169 t170 t171 t172 t173 t174 t175 t176 t177 t178 t179 t180 t181 t182 t183 t184 t185 t186 t187 t188 t189 t190 t191 t192 t193 t194 t195 t196 t197 t198 t199 t200 t201 t202 t203 t204 t205 t206 t207 t208 t209 t210 t211 t212 t213 t214 t215 t216 t217 t218 t219 t220 t221 t222 t223 t224 t225 t226 t227 t228 t229 t230 t231 t232 t233 t234 t235 t236 t237 t238 t239 t240 t241 t242 t243 t244 t245 t246 t247 t248 t249 t250 t251 t252 t253 t254 t255 t256 t257 t258 t259 t260 t261 t262 t263 t264 t265 t266 t267 t268 t269 t270 t271 t272 t273 t274 t275 t276 t277 t278 t279 t280 t281 t282 t283 t284 t285 t286 t287 t288 t289 t290 t291 t292 t293 t294 t295 t296 t297 t298 t299 t300 t301 t302 t303 t304 t305 t306 t307 t308 t309 t310 t311 t312 t313 t314 : Value} :
    Code.wp Try.prog (restC 19 (Try.f4.body.getD .skip)) (bodyPost Try.prog Try.f4 (fun e w' => e = .returned (.bool true) ∧ Below w.heap.size w w')) ⟨#[t0, t1, t2, (.pointer (some ⟨w.heap.size, 0, none⟩)), t4, t5, t6, t7, t8, t9, t10, (.slice L0 n.pipes.length cl0), (.int .i64 0), (.slice L1 n.pipes.length cl1), (.int .i64 0), t15, t16, t17, t18, t19, (.slice L2 n.pipes.length cl2), (.slice L3 n.pipes.length cl3), t22, (.slice L4 n.pipes.length cl4), (.int .i64 0), t25, t26, t27, t28, t29, t30, t31, t32, t33, t34, t35, t36, t37, t38, t39, t40, t41, t42, t43, t44, t45, t46, t47, t48, t49, t50, t51, t52, t53, t54, t55, t56, t57, t58, t59, t60, t61, t62, t63, t64, t65, t66, t67, t68, t69, t70, t71, t72, t73, t74, t75, t76, t77, t78, t79, t80, t81, t82, t83, t84, t85, t86, t87, t88, t89, t90, t91, t92, t93, t94, t95, t96, t97, t98, t99, t100, t101, t102, t103, t104, t105, t106, t107, t108, t109, t110, t111, t112, t113, t114, t115, t116, t117, t118, t119, t120, t121, t122, t123, t124, t125, t126, t127, t128, t129, t130, t131, t132, t133, t134, t135, t136, t137, t138, t139, t140, t141, t142, t143, t144, t145, t146, t147, t148, t149, t150, t151, t152, t153, t154, t155, t156, t157, t158, t159, t160, t161, t162, t163, t164, t165, t166, t167, t168, t169, t170, t171, t172, t173, t174, t175, t176, t177, t178, t179, t180, t181, t182, t183, t184, t185, t186, t187, t188, t189, t190, t191, t192, t193, t194, t195, t196, t197, t198, t199, t200, t201, t202, t203, t204, t205, t206, t207, t208, t209, t210, t211, t212, t213, t214, t215, t216, t217, t218, t219, t220, t221, t222, t223, t224, t225, t226, t227, t228, t229, t230, t231, t232, t233, t234, t235, t236, t237, t238, t239, t240, t241, t242, t243, t244, t245, t246, t247, t248, t249, t250, t251, t252, t253, t254, t255, t256, t257, t258, t259, t260, t261, t262, t263, t264, t265, t266, t267, t268, t269, t270, t271, t272, t273, t274, t275, t276, t277, t278, t279, t280, t281, t282, t283, t284, t285, t286, t287, t288, t289, t290, t291, t292, t293, t294, t295, t296, t297, t298, t299, t300, t301, t302, t303, t304, t305, t306, t307, t308, t309, t310, t311, t312, t313, t314], []⟩ V26 := by
  simp only [restC, Try.f4, Option.getD_some]
  have hln := netB_len hok
  have n6 := hN6.lt
  go_wp2_with fail
  go_loopw [25] (fun i wr => ∃ k : Nat, k ≤ n.pipes.length ∧ i = .int .i64 k ∧ Below V26.heap.size V26 wr) (fun i _ => n.pipes.length - (intOf i).toNat)
  case atStart => exact ⟨0, Nat.zero_le _, rfl, Below.refl _ _⟩
  case round =>
    obtain ⟨k, hk, rfl, hB1⟩ := hrel
    have hz1 := hB1.size
    have hBw := hB6.trans (hB1.mono hB6.size)
    by_cases hlt : k < n.pipes.length
    · have hNr := hN6.below hB1 n6
      have n0 := hNr.cell 0; have nf0 := hNr.frozen 0; have n1 := hNr.cell 1; have nf1 := hNr.frozen 1; simp at n0 n1
      have hkl : (k : Int) < (n.pipes.length : Int) := by omega
      have ht := netB_tree hok
      have hnk := netB_good hok
      have htk := ht k hlt
      have hlsb := fun j (h0 : 0 < j) (hj : j < n.pipes.length) => (lossZ_bd (hnk.2 j h0 hj) (ldV_bd [] ht hln.2 HF1.out hj).1 (ldV_bd [] ht hln.2 HF1.out hj).2).1
      have e1 : decide (ldV n.pipes gF [(ice : Int)] k < ldV n.pipes f [(ice : Int)] k) = false := decide_eq_false (Int.not_lt.2 (ldV_mono HF3.out hlt))
      have e2 : decide (vacV n.pump n.pipes f [] k < vacV n.pump n.pipes gF [] k) = false := decide_eq_false (Int.not_lt.2 (vacV_le rfl (fun _ _ => rfl) ht ht gF f [] (fun i h0 hi => loss_more (hnk.2 i h0 hi) (ldV_mono HF3.out hi)) k hlt))
      have e3 : decide (vacV n.pump pq f [] k < vacV n.pump n.pipes f [] k) = false := decide_eq_false (Int.not_lt.2 (HWD.out k hlt))
      obtain ⟨b0, o0, rfl, -, -, c0, -⟩ := RdR.at_ (h06.below hB1 (Nat.le_refl _)) (k := k) (by rw [pairT_len]; omega)
      obtain ⟨b1, o1, rfl, -, -, c1, -⟩ := RdR.at_ (h16.below hB1 (Nat.le_refl _)) (k := k) (by rw [pairT_len]; omega)
      obtain ⟨b2, o2, rfl, -, -, c2, -⟩ := RdR.at_ (h26.below hB1 (Nat.le_refl _)) (k := k) (by rw [pairT_len]; omega)
      obtain ⟨b3, o3, rfl, -, -, c3, -⟩ := RdR.at_ (h36.below hB1 (Nat.le_refl _)) (k := k) (by rw [pairT_len]; omega)
      obtain ⟨b4, o4, rfl, -, -, c4, -⟩ := RdR.at_ (hL4.below hB1 (Nat.le_refl _)) (k := k) (by rw [pairT_len]; omega)
      rw [pairT_at hlt] at c0 c1 c2 c3 c4
      dsimp only at c0 c1 c2 c3 c4
      by_cases hk0 : k = 0
      · have e5 : decide ((0 : Int) < (k : Int)) = false := decide_eq_false (by omega)
        have e6 : decide (0 < k) = false := decide_eq_false (by omega)
        clear hk0
        clear htk ht hnk hlsb hNr hN6 hR6 h06 h16 h26 h36 hL4 hB6 hBw HWD HF1 HF3 hok n6
        obtain ⟨y1, g1⟩ : ∃ y, vacV n.pump n.pipes f [] k = y := ⟨_, rfl⟩
        obtain ⟨y2, g2'⟩ : ∃ y, vacV n.pump n.pipes gF [] k = y := ⟨_, rfl⟩
        obtain ⟨y3, g3'⟩ : ∃ y, vacV n.pump pq f [] k = y := ⟨_, rfl⟩
        obtain ⟨y4, g4'⟩ : ∃ y, ldV n.pipes f [(ice : Int)] k = y := ⟨_, rfl⟩
        obtain ⟨y5, g5'⟩ : ∃ y, ldV n.pipes gF [(ice : Int)] k = y := ⟨_, rfl⟩
        rw [g5', g4'] at e1
        rw [g1, g2'] at e2
        rw [g3', g1] at e3
        rw [g4'] at c0
        rw [g1] at c1
        rw [g5'] at c2
        rw [g2'] at c3
        rw [g3'] at c4
        clear g1 g2' g3' g4' g5'
        go_wp2_with fail
        go_big_quiet (fail)
        go_wp2_with fail
        exact ⟨⟨k + 1, by omega, by go_num, (by repeat (first | exact Below.refl _ _ | exact (hB1) | assumption | (refine Below.setCell ?_ (by first | omega | (simp; done) | (simp; omega) | (simp [World.setCell]; done) | (simp [World.setCell]; omega)) _) | (refine Below.alloc ?_ (by first | omega | (simp; done) | (simp; omega) | (simp [World.setCell]; done) | (simp [World.setCell]; omega)) _) | (refine Below.drewN_ ?_ _) | (refine Below.drew ?_)))⟩, by simp [intOf]; omega⟩
      · obtain ⟨pn, hpn⟩ : ∃ pn : Nat, par n.pipes k = (pn : Int) := ⟨(par n.pipes k).toNat, by
          have : par n.pipes k ≠ -1 := fun h => hk0 (htk.2.2.1 h)
          omega⟩
        have hpl : pn < k := by omega
        have hpnl : (pn : Int) < (n.pipes.length : Int) := by omega
        have hdn := vacV_down (pump := n.pump) ht f [] hnk.1.1 hlsb (show 0 < k by omega) hlt
        rw [hpn, Int.toNat_natCast] at hdn
        have e4 : decide (vacV n.pump n.pipes f [] pn < vacV n.pump n.pipes f [] k) = false := decide_eq_false (Int.not_lt.2 hdn)
        have e5 : decide ((0 : Int) < (k : Int)) = true := decide_eq_true (by omega)
        have e6 : decide (0 < k) = true := decide_eq_true (by omega)
        obtain ⟨bp, op, rfl, -, -, p0, -⟩ := RdP.at_ (hR6.below hB1 (Nat.le_refl _)) (k := k) hlt
        rw [← par_nat hlt, hpn] at p0
        obtain ⟨b1', o1', he, -, -, c5, -⟩ := RdR.at_ (h16.below hB1 (Nat.le_refl _)) (k := pn) (by rw [pairT_len]; omega)
        cases he
        rw [pairT_at (by omega)] at c5
        dsimp only at c5
        clear hpn hdn
        clear htk ht hnk hlsb hNr hN6 hR6 h06 h16 h26 h36 hL4 hB6 hBw HWD HF1 HF3 hok n6
        obtain ⟨y1, g1⟩ : ∃ y, vacV n.pump n.pipes f [] k = y := ⟨_, rfl⟩
        obtain ⟨y6, g6⟩ : ∃ y, vacV n.pump n.pipes f [] pn = y := ⟨_, rfl⟩
        rw [g6] at c5 e4
        rw [g1] at e4
        clear g6
        obtain ⟨y2, g2'⟩ : ∃ y, vacV n.pump n.pipes gF [] k = y := ⟨_, rfl⟩
        obtain ⟨y3, g3'⟩ : ∃ y, vacV n.pump pq f [] k = y := ⟨_, rfl⟩
        obtain ⟨y4, g4'⟩ : ∃ y, ldV n.pipes f [(ice : Int)] k = y := ⟨_, rfl⟩
        obtain ⟨y5, g5'⟩ : ∃ y, ldV n.pipes gF [(ice : Int)] k = y := ⟨_, rfl⟩
        rw [g5', g4'] at e1
        rw [g1, g2'] at e2
        rw [g3', g1] at e3
        rw [g4'] at c0
        rw [g1] at c1
        rw [g5'] at c2
        rw [g2'] at c3
        rw [g3'] at c4
        clear g1 g2' g3' g4' g5'
        go_wp2_with fail
        go_big_quiet (fail)
        go_wp2_with fail
        exact ⟨⟨k + 1, by omega, by go_num, (by repeat (first | exact Below.refl _ _ | exact (hB1) | assumption | (refine Below.setCell ?_ (by first | omega | (simp; done) | (simp; omega) | (simp [World.setCell]; done) | (simp [World.setCell]; omega)) _) | (refine Below.alloc ?_ (by first | omega | (simp; done) | (simp; omega) | (simp [World.setCell]; done) | (simp [World.setCell]; omega)) _) | (refine Below.drewN_ ?_ _) | (refine Below.drew ?_)))⟩, by simp [intOf]; omega⟩
    · obtain rfl : k = n.pipes.length := by omega
      go_wp2_with fail
      refine (known_ _).mono ?_
      rintro e w2 ⟨rfl, hb2⟩
      go_wp2_with fail
      go_ret
      exact ⟨rfl, hBw.trans (hb2.mono hBw.size)⟩
end Go.Proofs.Ytepibjfmeibgcaa
