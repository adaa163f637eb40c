/- TrunkRotas: the shell. -/
import Derived.Test.YtbpblhmigijkaaaTrl
import Derived.Test.YtbpblhmigijkaaaTh
import Derived.Test.YtbpblhmigijkaaaSx
namespace Go.Proofs.Ytbpblhmigijkaaa
open Go.RowKit Go.ChangeShapes Go.WideShapes Go.ChangeAt Go.Deep Go.Joins
set_option linter.unusedVariables false
theorem rowTrunkRotas0 {w : World} {n : Nat} {cs : List Value} (h : RowOk w (n + 2) [.int .i64, .int .i64, .int .i64, .int .i64, .int .i64, .int .i64, .lst (ints 3)] cs) : ∃ (t : TreeV) (A1 : Option Addr) (c1 : Nat), cs = [.int .i64 t.year, .int .i64 t.glo, .int .i64 t.ghi, .int .i64 t.wlo, .int .i64 t.whi, .int .i64 t.health, .slice A1 t.holes.length c1] ∧ (Cells w 3 eH A1 t.holes) ∧ (t.holes.length ≤ c1) ∧ (c1 ≤ maxLen) := by
 obtain ⟨hl, hc⟩ := h
 match cs, hl with
 | [u0, u1, u2, u3, u4, u5, u6], _ =>
  obtain ⟨z0, e0, w0⟩ := hc 0 _ _ rfl rfl
  obtain ⟨z1, e1, w1⟩ := hc 1 _ _ rfl rfl
  obtain ⟨z2, e2, w2⟩ := hc 2 _ _ rfl rfl
  obtain ⟨z3, e3, w3⟩ := hc 3 _ _ rfl rfl
  obtain ⟨z4, e4, w4⟩ := hc 4 _ _ rfl rfl
  obtain ⟨z5, e5, w5⟩ := hc 5 _ _ rfl rfl
  obtain ⟨A1, c1, z6, e6, hc1, hm1, hR1⟩ := ck_holes (hc 6 _ _ rfl rfl)
  subst e0 e1 e2 e3 e4 e5 e6
  exact ⟨⟨z0, z1, z2, z3, z4, z5, z6⟩, A1, c1, rfl, hR1, hc1, hm1⟩
theorem rowTrunkRotas1 {w : World} {n : Nat} {cs : List Value} (h : RowOk w (n + 2) [.int .i64, .int .i64, .int .i64, .int .i64, .int .i64, .int .i64, .int .i64, .int .i64, .int .i64, .lst (ints 2), .int .i64, .int .i64, .int .i64, .int .i64, .int .i64, .int .i64] cs) : ∃ (r : RuleV) (A2 : Option Addr) (c2 : Nat), cs = [.int .i64 r.slo, .int .i64 r.shi, .int .i64 r.ulo, .int .i64 r.uhi, .int .i64 r.hlo, .int .i64 r.hhi, .int .i64 r.apart, .int .i64 r.blo, .int .i64 r.bhi, .slice A2 r.sizes.length c2, .int .i64 r.n0, .int .i64 r.n1, .int .i64 r.n2, .int .i64 r.n3, .int .i64 r.n4, .int .i64 r.opn] ∧ (Cells w 2 eZ A2 r.sizes) ∧ (r.sizes.length ≤ c2) ∧ (c2 ≤ maxLen) := by
 obtain ⟨hl, hc⟩ := h
 match cs, hl with
 | [u0, u1, u2, u3, u4, u5, u6, u7, u8, u9, u10, u11, u12, u13, u14, u15], _ =>
  obtain ⟨z0, e0, w0⟩ := hc 0 _ _ rfl rfl
  obtain ⟨z1, e1, w1⟩ := hc 1 _ _ rfl rfl
  obtain ⟨z2, e2, w2⟩ := hc 2 _ _ rfl rfl
  obtain ⟨z3, e3, w3⟩ := hc 3 _ _ rfl rfl
  obtain ⟨z4, e4, w4⟩ := hc 4 _ _ rfl rfl
  obtain ⟨z5, e5, w5⟩ := hc 5 _ _ rfl rfl
  obtain ⟨z6, e6, w6⟩ := hc 6 _ _ rfl rfl
  obtain ⟨z7, e7, w7⟩ := hc 7 _ _ rfl rfl
  obtain ⟨z8, e8, w8⟩ := hc 8 _ _ rfl rfl
  obtain ⟨A2, c2, z9, e9, hc2, hm2, hR2⟩ := ck_sizes (hc 9 _ _ rfl rfl)
  obtain ⟨z10, e10, w10⟩ := hc 10 _ _ rfl rfl
  obtain ⟨z11, e11, w11⟩ := hc 11 _ _ rfl rfl
  obtain ⟨z12, e12, w12⟩ := hc 12 _ _ rfl rfl
  obtain ⟨z13, e13, w13⟩ := hc 13 _ _ rfl rfl
  obtain ⟨z14, e14, w14⟩ := hc 14 _ _ rfl rfl
  obtain ⟨z15, e15, w15⟩ := hc 15 _ _ rfl rfl
  subst e0 e1 e2 e3 e4 e5 e6 e7 e8 e9 e10 e11 e12 e13 e14 e15
  exact ⟨⟨z0, z1, z2, z3, z4, z5, z6, z7, z8, z9, z10, z11, z12, z13, z14, z15⟩, A2, c2, rfl, hR2, hc2, hm2⟩
theorem rowTrunkRotas2 {w : World} {n : Nat} {cs : List Value} (h : RowOk w (n + 2) [.int .i64, .int .i64, .lst (ints 1), .int .i64] cs) : ∃ (y : Int) (m : Int) (hs : List Int) (ys : Int) (A3 : Option Addr) (c3 : Nat), cs = [.int .i64 y, .int .i64 m, .slice A3 hs.length c3, .int .i64 ys] ∧ (Cells w 1 eI A3 hs) ∧ (hs.length ≤ c3) ∧ (c3 ≤ maxLen) ∧ (-9223372036854775808 ≤ y ∧ y ≤ 9223372036854775807) ∧ (-9223372036854775808 ≤ m ∧ m ≤ 9223372036854775807) ∧ (-9223372036854775808 ≤ ys ∧ ys ≤ 9223372036854775807) := by
 obtain ⟨hl, hc⟩ := h
 match cs, hl with
 | [u0, u1, u2, u3], _ =>
  obtain ⟨z0, e0, w0⟩ := hc 0 _ _ rfl rfl
  obtain ⟨z1, e1, w1⟩ := hc 1 _ _ rfl rfl
  obtain ⟨A3, c3, z2, e2, hc3, hm3, hR3⟩ := ck_nums (hc 2 _ _ rfl rfl)
  obtain ⟨z3, e3, w3⟩ := hc 3 _ _ rfl rfl
  subst e0 e1 e2 e3
  exact ⟨z0, z1, z2, z3, A3, c3, rfl, hR3, hc3, hm3, bounds_i64 w0, bounds_i64 w1, bounds_i64 w3⟩
theorem TrunkRotas_ (W : World) (t : TreeV) (A1 : Option Addr) (c1 : Nat) (hR1 : Cells W 3 eH A1 t.holes) (hc1 : t.holes.length ≤ c1) (hm1 : c1 ≤ maxLen) (r : RuleV) (A2 : Option Addr) (c2 : Nat) (hR2 : Cells W 2 eZ A2 r.sizes) (hc2 : r.sizes.length ≤ c2) (hm2 : c2 ≤ maxLen) (y : Int) (m : Int) (hs : List Int) (ys : Int) (A3 : Option Addr) (c3 : Nat) (hR3 : Cells W 1 eI A3 hs) (hc3 : hs.length ≤ c3) (hm3 : c3 ≤ maxLen) (hy : -9223372036854775808 ≤ y ∧ y ≤ 9223372036854775807) (hm : -9223372036854775808 ≤ m ∧ m ≤ 9223372036854775807) (hys : -9223372036854775808 ≤ ys ∧ ys ≤ 9223372036854775807) :
  Calls Try.prog 10 #[.agg #[.int .i64 t.year, .int .i64 t.glo, .int .i64 t.ghi, .int .i64 t.wlo, .int .i64 t.whi, .int .i64 t.health, .slice A1 t.holes.length c1], .agg #[.int .i64 r.slo, .int .i64 r.shi, .int .i64 r.ulo, .int .i64 r.uhi, .int .i64 r.hlo, .int .i64 r.hhi, .int .i64 r.apart, .int .i64 r.blo, .int .i64 r.bhi, .slice A2 r.sizes.length c2, .int .i64 r.n0, .int .i64 r.n1, .int .i64 r.n2, .int .i64 r.n3, .int .i64 r.n4, .int .i64 r.opn], .agg #[.int .i64 y, .int .i64 m, .slice A3 hs.length c3, .int .i64 ys]] W fun e W' => e = .returned (.bool true) ∧ Below W.heap.size W W' :=
 (calls_of_fr (rotas_fr t r y m hs ys (by unfold maxLen at *; omega) (by unfold maxLen at *; omega) (by unfold maxLen at *; omega)) (nuL [.slice A1 t.holes.length c1, .slice A2 r.sizes.length c2, .slice A3 hs.length c3]) W
  (nuL_one (by intro v hv; simp at hv; rcases hv with rfl | rfl | rfl <;> rfl))
  ⟨ro_cells hc1 (fun _ => rfl) hR1, ro_cells hc2 (fun _ => rfl) hR2, ro_cells hc3 (fun _ => rfl) hR3, trivial⟩).mono fun e w' ⟨⟨_, h⟩, hb⟩ => ⟨h, hb⟩
set_option maxRecDepth 100000 in
theorem trunkRotas_lifted (os : Os) (started : os.Started) (H : Type) (enc : TypeId × Value → H) :
  ReturnsInHanded {} Try.checked os 10 .any (Rows.trunkRotasSpec.pre6 enc Try.prog Try.f10 Rows.trunkRotasRow.domain false) (Rows.trunkRotasSpec.post enc Try.prog Try.f10 false true false false) := by
 refine returnsInHanded_of_change (C := Try.checked) own_none started (by kernel_rfl) Try.func10
  (ChangeSpec.witness6 (enc := enc) (C := Try.checked) false ⟨#[], #[.agg #[.int .i64 0, .int .i64 0, .int .i64 0, .int .i64 0, .int .i64 0, .int .i64 0, .slice none 0 0], .agg #[.int .i64 0, .int .i64 0, .int .i64 0, .int .i64 0, .int .i64 0, .int .i64 0, .int .i64 0, .int .i64 0, .int .i64 0, .slice none 0 0, .int .i64 0, .int .i64 0, .int .i64 0, .int .i64 0, .int .i64 0, .int .i64 0], .agg #[.int .i64 0, .int .i64 0, .slice none 0 0, .int .i64 0]], []⟩ 8 (by kernel_rfl) (by kernel_rfl) (by kernel_rfl) (by kernel_rfl)) ?_
 intro W base args ds gs before hval0 hW hcnd _
 have hval : ∀ (j : Nat) t v, Try.f10.params[j]? = some t → args[j]? = some v → Value.okWide Try.prog W .any base t v := hval0
 have hW' := hW
 obtain ⟨p, q, hA0, hV, rfl, hfz, hnd⟩ := hW
 have hA : DataW.TrodAll enc Try.prog W 0 (fun _ => true) true Try.f10.params.toList args.toList ds p := hA0
 rw [Try.params10] at hA hval
 obtain ⟨v0, vs0, d0, ds0, p0, q0, hargs, rfl, rfl, h0, r0⟩ := trodAll_cons hA
 obtain ⟨v1, vs1, d1, ds1, p1, q1, rfl, rfl, rfl, h1, r1⟩ := trodAll_cons r0
 obtain ⟨v2, vs2, d2, ds2, p2, q2, rfl, rfl, rfl, h2, r2⟩ := trodAll_cons r1
 obtain ⟨rfl, rfl, rfl⟩ := trodAll_nil r2
 obtain rfl : args = #[v0, v1, v2] := by cases args; simp_all
 obtain ⟨rfl, rfl⟩ := trodVars_none hV
 have lt0 : ∀ x ∈ p0, x.block < W.heap.size := by obtain ⟨m, hm⟩ := h0; exact DataW.trod_lt m _ _ _ hm
 have lt1 : ∀ x ∈ p1, x.block < W.heap.size := by obtain ⟨m, hm⟩ := h1; exact DataW.trod_lt m _ _ _ hm
 have lt2 : ∀ x ∈ p2, x.block < W.heap.size := by obtain ⟨m, hm⟩ := h2; exact DataW.trod_lt m _ _ _ hm
 obtain ⟨cs0, rfl, hw0⟩ := open_st (n := 6) (ks := [.int .i64, .int .i64, .int .i64, .int .i64, .int .i64, .int .i64, .lst (ints 3)]) Try.underlying26 (by kernel_rfl) (hval 0 _ v0 rfl rfl) h0
 obtain ⟨t, A1, c1, rfl, hR1, hc1, hm1⟩ := rowTrunkRotas0 hw0
 obtain ⟨cs1, rfl, hw1⟩ := open_st (n := 6) (ks := [.int .i64, .int .i64, .int .i64, .int .i64, .int .i64, .int .i64, .int .i64, .int .i64, .int .i64, .lst (ints 2), .int .i64, .int .i64, .int .i64, .int .i64, .int .i64, .int .i64]) Try.underlying30 (by kernel_rfl) (hval 1 _ v1 rfl rfl) h1
 obtain ⟨r, A2, c2, rfl, hR2, hc2, hm2⟩ := rowTrunkRotas1 hw1
 obtain ⟨cs2, rfl, hw2⟩ := open_st (n := 6) (ks := [.int .i64, .int .i64, .lst (ints 1), .int .i64]) Try.underlying101 (by kernel_rfl) (hval 2 _ v2 rfl rfl) h2
 obtain ⟨y, m, hs, ys, A3, c3, rfl, hR3, hc3, hm3, hy, hm, hys⟩ := rowTrunkRotas2 hw2
 clear hA0 hval0
 refine (TrunkRotas_ W t A1 c1 hR1 hc1 hm1 r A2 c2 hR2 hc2 hm2 y m hs ys A3 c3 hR3 hc3 hm3 hy hm hys).mono fun e W' ⟨he, bel⟩ => ?_
 subst he
 exact ⟨_, rfl, _, _, _, [], _, [], hW', trodAll_mk1 (shut_bool Try.underlying4 _), (trodAll_cons_mk (Below.trod laid_out (by kernel_rfl) (of_decide_eq_true (by kernel_rfl)) h0 bel lt0) (trodAll_cons_mk (Below.trod laid_out (by kernel_rfl) (of_decide_eq_true (by kernel_rfl)) h1 bel lt1) (trodAll_cons_mk (Below.trod laid_out (by kernel_rfl) (of_decide_eq_true (by kernel_rfl)) h2 bel lt2) trodAll_mk0))), rfl, bel.frame _, fun h => by cases h⟩
theorem trunkRotas_holds : Rows.TrunkRotasSaid :=
 OpenClaim.holds_of_wide 10 Try.f10 rfl rfl rfl rfl rfl rfl rfl ⟨rfl, rfl, rfl, rfl, rfl⟩ rfl rfl rfl rfl rfl (by kernel_rfl) Try.func10 (by kernel_rfl)
  (of_decide_eq_true (by kernel_rfl)) (by unfold Func.isWrapper; first | (rw [if_pos (by decide +kernel)]; kernel_rfl) | (rw [if_neg (by decide +kernel)]; exact ⟨rfl, rfl⟩))
  (fun os started H enc _ => trunkRotas_lifted os started H enc)
end Go.Proofs.Ytbpblhmigijkaaa
