/- TrunkHeals: the shell. -/
import Derived.Test.YtbpblhmigijkaaaThl
import Derived.Test.YtbpblhmigijkaaaTh2
import Derived.Test.YtbpblhmigijkaaaSx
namespace Go.Proofs.Ytbpblhmigijkaaa
open Go.RowKit Go.ChangeShapes Go.WideShapes Go.ChangeAt Go.Deep Go.Joins
set_option linter.unusedVariables false
theorem rowTrunkHeals0 {w : World} {n : Nat} {cs : List Value} (h : RowOk w (n + 2) [.int .i64, .int .i64, .int .i64, .int .i64, .int .i64, .int .i64, .lst (ints 3), .int .i64, .int .i64, .int .i64, .int .i64, .int .i64, .int .i64, .int .i64, .int .i64, .int .i64, .lst (ints 2), .int .i64, .int .i64, .int .i64, .int .i64, .int .i64, .int .i64] cs) : ∃ (t : TreeV) (r : RuleV) (A1 : Option Addr) (c1 : Nat) (A2 : Option Addr) (c2 : Nat), cs = [.int .i64 t.year, .int .i64 t.glo, .int .i64 t.ghi, .int .i64 t.wlo, .int .i64 t.whi, .int .i64 t.health, .slice A1 t.holes.length c1, .int .i64 r.slo, .int .i64 r.shi, .int .i64 r.ulo, .int .i64 r.uhi, .int .i64 r.hlo, .int .i64 r.hhi, .int .i64 r.apart, .int .i64 r.blo, .int .i64 r.bhi, .slice A2 r.sizes.length c2, .int .i64 r.n0, .int .i64 r.n1, .int .i64 r.n2, .int .i64 r.n3, .int .i64 r.n4, .int .i64 r.opn] ∧ (Cells w 3 eH A1 t.holes) ∧ (Cells w 2 eZ A2 r.sizes) ∧ (t.holes.length ≤ c1) ∧ (r.sizes.length ≤ c2) ∧ (c1 ≤ maxLen) ∧ (c2 ≤ maxLen) := by
  obtain ⟨hl, hc⟩ := h
  match cs, hl with
  | [u0, u1, u2, u3, u4, u5, u6, u7, u8, u9, u10, u11, u12, u13, u14, u15, u16, u17, u18, u19, u20, u21, u22], _ =>
    obtain ⟨z0, e0, w0⟩ := hc 0 _ _ rfl rfl
    obtain ⟨z1, e1, w1⟩ := hc 1 _ _ rfl rfl
    obtain ⟨z2, e2, w2⟩ := hc 2 _ _ rfl rfl
    obtain ⟨z3, e3, w3⟩ := hc 3 _ _ rfl rfl
    obtain ⟨z4, e4, w4⟩ := hc 4 _ _ rfl rfl
    obtain ⟨z5, e5, w5⟩ := hc 5 _ _ rfl rfl
    obtain ⟨A1, c1, z6, e6, hc1, hm1, hR1⟩ := ck_holes (hc 6 _ _ rfl rfl)
    obtain ⟨z7, e7, w7⟩ := hc 7 _ _ rfl rfl
    obtain ⟨z8, e8, w8⟩ := hc 8 _ _ rfl rfl
    obtain ⟨z9, e9, w9⟩ := hc 9 _ _ rfl rfl
    obtain ⟨z10, e10, w10⟩ := hc 10 _ _ rfl rfl
    obtain ⟨z11, e11, w11⟩ := hc 11 _ _ rfl rfl
    obtain ⟨z12, e12, w12⟩ := hc 12 _ _ rfl rfl
    obtain ⟨z13, e13, w13⟩ := hc 13 _ _ rfl rfl
    obtain ⟨z14, e14, w14⟩ := hc 14 _ _ rfl rfl
    obtain ⟨z15, e15, w15⟩ := hc 15 _ _ rfl rfl
    obtain ⟨A2, c2, z16, e16, hc2, hm2, hR2⟩ := ck_sizes (hc 16 _ _ rfl rfl)
    obtain ⟨z17, e17, w17⟩ := hc 17 _ _ rfl rfl
    obtain ⟨z18, e18, w18⟩ := hc 18 _ _ rfl rfl
    obtain ⟨z19, e19, w19⟩ := hc 19 _ _ rfl rfl
    obtain ⟨z20, e20, w20⟩ := hc 20 _ _ rfl rfl
    obtain ⟨z21, e21, w21⟩ := hc 21 _ _ rfl rfl
    obtain ⟨z22, e22, w22⟩ := hc 22 _ _ rfl rfl
    subst e0 e1 e2 e3 e4 e5 e6 e7 e8 e9 e10 e11 e12 e13 e14 e15 e16 e17 e18 e19 e20 e21 e22
    exact ⟨⟨z0, z1, z2, z3, z4, z5, z6⟩, ⟨z7, z8, z9, z10, z11, z12, z13, z14, z15, z16, z17, z18, z19, z20, z21, z22⟩, A1, c1, A2, c2, rfl, hR1, hR2, hc1, hc2, hm1, hm2⟩
theorem rowTrunkHeals1 {w : World} {n : Nat} {cs : List Value} (h : RowOk w (n + 2) [.int .i64, .int .i64, .int .i64] cs) : ∃ (a0 : Int) (a1 : Int) (a2 : Int) , cs = [.int .i64 a0, .int .i64 a1, .int .i64 a2] ∧ (-9223372036854775808 ≤ a0 ∧ a0 ≤ 9223372036854775807) ∧ (-9223372036854775808 ≤ a1 ∧ a1 ≤ 9223372036854775807) ∧ (-9223372036854775808 ≤ a2 ∧ a2 ≤ 9223372036854775807) := by
  obtain ⟨hl, hc⟩ := h
  match cs, hl with
  | [u0, u1, u2], _ =>
    obtain ⟨z0, e0, w0⟩ := hc 0 _ _ rfl rfl
    obtain ⟨z1, e1, w1⟩ := hc 1 _ _ rfl rfl
    obtain ⟨z2, e2, w2⟩ := hc 2 _ _ rfl rfl
    subst e0 e1 e2
    exact ⟨z0, z1, z2, rfl, bounds_i64 w0, bounds_i64 w1, bounds_i64 w2⟩
theorem rowTrunkHeals2 {w : World} {n : Nat} {cs : List Value} (h : RowOk w (n + 2) [.int .u8, .lst (bytes 1), .lst (bytes 1), .lst (bytes 1)] cs) : ∃ (g : Int) (sd : List Int) (up : List Int) (hl : List Int) (A3 : Option Addr) (c3 : Nat) (A4 : Option Addr) (c4 : Nat) (A5 : Option Addr) (c5 : Nat), cs = [.int .u8 g, .slice A3 sd.length c3, .slice A4 up.length c4, .slice A5 hl.length c5] ∧ (∀ q, q ∈ sd → 0 ≤ q ∧ q < 256) ∧ (∀ q, q ∈ up → 0 ≤ q ∧ q < 256) ∧ (∀ q, q ∈ hl → 0 ≤ q ∧ q < 256) ∧ (Cells w 1 eU A3 sd) ∧ (Cells w 1 eU A4 up) ∧ (Cells w 1 eU A5 hl) ∧ (sd.length ≤ c3) ∧ (up.length ≤ c4) ∧ (hl.length ≤ c5) ∧ (c3 ≤ maxLen) ∧ (c4 ≤ maxLen) ∧ (c5 ≤ maxLen) ∧ (0 ≤ g ∧ g < 256) := by
  obtain ⟨hl, hc⟩ := h
  match cs, hl with
  | [u0, u1, u2, u3], _ =>
    obtain ⟨z0, e0, w0⟩ := hc 0 _ _ rfl rfl
    obtain ⟨A3, c3, z1, e1, hc3, hm3, hR3, hb3⟩ := ck_bytes (hc 1 _ _ rfl rfl)
    obtain ⟨A4, c4, z2, e2, hc4, hm4, hR4, hb4⟩ := ck_bytes (hc 2 _ _ rfl rfl)
    obtain ⟨A5, c5, z3, e3, hc5, hm5, hR5, hb5⟩ := ck_bytes (hc 3 _ _ rfl rfl)
    subst e0 e1 e2 e3
    exact ⟨z0, z1, z2, z3, A3, c3, A4, c4, A5, c5, rfl, hb3, hb4, hb5, hR3, hR4, hR5, hc3, hc4, hc5, hm3, hm4, hm5, bounds_u8 w0⟩
theorem TrunkHeals_ (W : World) (t : TreeV) (r : RuleV) (A1 : Option Addr) (c1 : Nat) (A2 : Option Addr) (c2 : Nat) (hR1 : Cells W 3 eH A1 t.holes) (hR2 : Cells W 2 eZ A2 r.sizes) (hc1 : t.holes.length ≤ c1) (hc2 : r.sizes.length ≤ c2) (hm1 : c1 ≤ maxLen) (hm2 : c2 ≤ maxLen) (a0 : Int) (a1 : Int) (a2 : Int)  (ha0 : -9223372036854775808 ≤ a0 ∧ a0 ≤ 9223372036854775807) (ha1 : -9223372036854775808 ≤ a1 ∧ a1 ≤ 9223372036854775807) (ha2 : -9223372036854775808 ≤ a2 ∧ a2 ≤ 9223372036854775807) (g : Int) (sd : List Int) (up : List Int) (hl : List Int) (A3 : Option Addr) (c3 : Nat) (A4 : Option Addr) (c4 : Nat) (A5 : Option Addr) (c5 : Nat) (hb3 : ∀ q, q ∈ sd → 0 ≤ q ∧ q < 256) (hb4 : ∀ q, q ∈ up → 0 ≤ q ∧ q < 256) (hb5 : ∀ q, q ∈ hl → 0 ≤ q ∧ q < 256) (hR3 : Cells W 1 eU A3 sd) (hR4 : Cells W 1 eU A4 up) (hR5 : Cells W 1 eU A5 hl) (hc3 : sd.length ≤ c3) (hc4 : up.length ≤ c4) (hc5 : hl.length ≤ c5) (hm3 : c3 ≤ maxLen) (hm4 : c4 ≤ maxLen) (hm5 : c5 ≤ maxLen) (hg : 0 ≤ g ∧ g < 256) :
    Calls Try.prog 8 #[.agg #[.int .i64 t.year, .int .i64 t.glo, .int .i64 t.ghi, .int .i64 t.wlo, .int .i64 t.whi, .int .i64 t.health, .slice A1 t.holes.length c1, .int .i64 r.slo, .int .i64 r.shi, .int .i64 r.ulo, .int .i64 r.uhi, .int .i64 r.hlo, .int .i64 r.hhi, .int .i64 r.apart, .int .i64 r.blo, .int .i64 r.bhi, .slice A2 r.sizes.length c2, .int .i64 r.n0, .int .i64 r.n1, .int .i64 r.n2, .int .i64 r.n3, .int .i64 r.n4, .int .i64 r.opn], .agg #[.int .i64 a0, .int .i64 a1, .int .i64 a2], .agg #[.int .u8 g, .slice A3 sd.length c3, .slice A4 up.length c4, .slice A5 hl.length c5]] W fun e W' => e = .returned (.bool true) ∧ Below W.heap.size W W' :=
  (calls_of_fr (heals_fr t r a0 a1 a2 g sd up hl (by unfold maxLen at *; omega) (by unfold maxLen at *; omega) (by unfold maxLen at *; omega) (by unfold maxLen at *; omega) (by unfold maxLen at *; omega) hb3 hb4 hb5 hg) (nuL [.slice A1 t.holes.length c1, .slice A2 r.sizes.length c2, .slice A3 sd.length c3, .slice A4 up.length c4, .slice A5 hl.length c5]) W
    (nuL_one (by intro v hv; simp at hv; rcases hv with rfl | rfl | rfl | rfl | rfl <;> rfl))
    ⟨ro_cells hc1 (fun _ => rfl) hR1, ro_cells hc2 (fun _ => rfl) hR2, ro_cells hc3 (fun _ => rfl) hR3, ro_cells hc4 (fun _ => rfl) hR4, ro_cells hc5 (fun _ => rfl) hR5, trivial⟩).mono fun e w' ⟨⟨_, h⟩, hb⟩ => ⟨h, hb⟩
set_option maxRecDepth 100000 in
theorem trunkHeals_lifted (os : Os) (started : os.Started) (H : Type) (enc : TypeId × Value → H) :
    ReturnsInHanded {} Try.checked os 8 .any (Rows.trunkHealsSpec.pre6 enc Try.prog Try.f8 Rows.trunkHealsRow.domain false) (Rows.trunkHealsSpec.post enc Try.prog Try.f8 false true false false) := by
  refine returnsInHanded_of_change (C := Try.checked) own_none started (by kernel_rfl) Try.func8
    (ChangeSpec.witness6 (enc := enc) (C := Try.checked) false ⟨#[], #[.agg #[.int .i64 0, .int .i64 0, .int .i64 0, .int .i64 0, .int .i64 0, .int .i64 0, .slice none 0 0, .int .i64 0, .int .i64 0, .int .i64 0, .int .i64 0, .int .i64 0, .int .i64 0, .int .i64 0, .int .i64 0, .int .i64 0, .slice none 0 0, .int .i64 0, .int .i64 0, .int .i64 0, .int .i64 0, .int .i64 0, .int .i64 0], .agg #[.int .i64 0, .int .i64 0, .int .i64 0], .agg #[.int .u8 0, .slice none 0 0, .slice none 0 0, .slice none 0 0]], []⟩ 8 (by kernel_rfl) (by kernel_rfl) (by kernel_rfl) (by kernel_rfl)) ?_
  intro W base args ds gs before hval0 hW hcnd _
  have hval : ∀ (j : Nat) t v, Try.f8.params[j]? = some t → args[j]? = some v → Value.okWide Try.prog W .any base t v := hval0
  have hW' := hW
  obtain ⟨p, q, hA0, hV, rfl, hfz, hnd⟩ := hW
  have hA : DataW.TrodAll enc Try.prog W 0 (fun _ => true) true Try.f8.params.toList args.toList ds p := hA0
  rw [Try.params8] at hA hval
  obtain ⟨v0, vs0, d0, ds0, p0, q0, hargs, rfl, rfl, h0, r0⟩ := trodAll_cons hA
  obtain ⟨v1, vs1, d1, ds1, p1, q1, rfl, rfl, rfl, h1, r1⟩ := trodAll_cons r0
  obtain ⟨v2, vs2, d2, ds2, p2, q2, rfl, rfl, rfl, h2, r2⟩ := trodAll_cons r1
  obtain ⟨rfl, rfl, rfl⟩ := trodAll_nil r2
  obtain rfl : args = #[v0, v1, v2] := by cases args; simp_all
  obtain ⟨rfl, rfl⟩ := trodVars_none hV
  have lt0 : ∀ x ∈ p0, x.block < W.heap.size := by obtain ⟨m, hm⟩ := h0; exact DataW.trod_lt m _ _ _ hm
  have lt1 : ∀ x ∈ p1, x.block < W.heap.size := by obtain ⟨m, hm⟩ := h1; exact DataW.trod_lt m _ _ _ hm
  have lt2 : ∀ x ∈ p2, x.block < W.heap.size := by obtain ⟨m, hm⟩ := h2; exact DataW.trod_lt m _ _ _ hm
  obtain ⟨cs0, rfl, hw0⟩ := open_st (n := 6) (ks := [.int .i64, .int .i64, .int .i64, .int .i64, .int .i64, .int .i64, .lst (ints 3), .int .i64, .int .i64, .int .i64, .int .i64, .int .i64, .int .i64, .int .i64, .int .i64, .int .i64, .lst (ints 2), .int .i64, .int .i64, .int .i64, .int .i64, .int .i64, .int .i64]) Try.underlying68 (by kernel_rfl) (hval 0 _ v0 rfl rfl) h0
  obtain ⟨t, r, A1, c1, A2, c2, rfl, hR1, hR2, hc1, hc2, hm1, hm2⟩ := rowTrunkHeals0 hw0
  obtain ⟨cs1, rfl, hw1⟩ := open_ar (n := 6) (ks := [.int .i64, .int .i64, .int .i64]) Try.underlying51 (by kernel_rfl) (hval 1 _ v1 rfl rfl) h1
  obtain ⟨a0, a1, a2, rfl, ha0, ha1, ha2⟩ := rowTrunkHeals1 hw1
  obtain ⟨cs2, rfl, hw2⟩ := open_st (n := 6) (ks := [.int .u8, .lst (bytes 1), .lst (bytes 1), .lst (bytes 1)]) Try.underlying85 (by kernel_rfl) (hval 2 _ v2 rfl rfl) h2
  obtain ⟨g, sd, up, hl, A3, c3, A4, c4, A5, c5, rfl, hb3, hb4, hb5, hR3, hR4, hR5, hc3, hc4, hc5, hm3, hm4, hm5, hg⟩ := rowTrunkHeals2 hw2
  clear hA0 hval0
  refine (TrunkHeals_ W t r A1 c1 A2 c2 hR1 hR2 hc1 hc2 hm1 hm2 a0 a1 a2 ha0 ha1 ha2 g sd up hl A3 c3 A4 c4 A5 c5 hb3 hb4 hb5 hR3 hR4 hR5 hc3 hc4 hc5 hm3 hm4 hm5 hg).mono fun e W' ⟨he, bel⟩ => ?_
  subst he
  exact ⟨_, rfl, _, _, _, [], _, [], hW', trodAll_mk1 (shut_bool Try.underlying4 _), (trodAll_cons_mk (Below.trod laid_out (by kernel_rfl) (of_decide_eq_true (by kernel_rfl)) h0 bel lt0) (trodAll_cons_mk (Below.trod laid_out (by kernel_rfl) (of_decide_eq_true (by kernel_rfl)) h1 bel lt1) (trodAll_cons_mk (Below.trod laid_out (by kernel_rfl) (of_decide_eq_true (by kernel_rfl)) h2 bel lt2) trodAll_mk0))), rfl, bel.frame _, fun h => by cases h⟩
theorem trunkHeals_holds : Rows.TrunkHealsSaid :=
  OpenClaim.holds_of_wide 8 Try.f8 rfl rfl rfl rfl rfl rfl rfl ⟨rfl, rfl, rfl, rfl, rfl⟩ rfl rfl rfl rfl rfl (by kernel_rfl) Try.func8 (by kernel_rfl)
    (of_decide_eq_true (by kernel_rfl)) (by unfold Func.isWrapper; first | (rw [if_pos (by decide +kernel)]; kernel_rfl) | (rw [if_neg (by decide +kernel)]; exact ⟨rfl, rfl⟩))
    (fun os started H enc _ => trunkHeals_lifted os started H enc)
end Go.Proofs.Ytbpblhmigijkaaa
