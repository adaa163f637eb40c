/- TrunkVerifies: the shell. -/
import Derived.Test.YtbpblhmigijkaaaTvl
import Derived.Test.YtbpblhmigijkaaaTh
import Derived.Test.YtbpblhmigijkaaaSx
namespace Go.Proofs.Ytbpblhmigijkaaa
open Go.RowKit Go.ChangeShapes Go.WideShapes Go.ChangeAt Go.Deep Go.Joins
set_option linter.unusedVariables false
theorem rowTrunkVerifies0 {w : World} {n : Nat} {cs : List Value} (h : RowOk w (n + 2) [.int .i64, .int .i64, .int .i64, .int .i64, .int .i64, .int .i64, .lst (ints 3), .int .i64, .int .i64, .int .i64, .int .i64, .int .i64, .int .i64, .int .i64, .int .i64, .int .i64, .lst (ints 2), .int .i64, .int .i64, .int .i64, .int .i64, .int .i64, .int .i64] cs) : ∃ (t : TreeV) (r : RuleV) (A1 : Option Addr) (c1 : Nat) (A2 : Option Addr) (c2 : Nat), cs = [.int .i64 t.year, .int .i64 t.glo, .int .i64 t.ghi, .int .i64 t.wlo, .int .i64 t.whi, .int .i64 t.health, .slice A1 t.holes.length c1, .int .i64 r.slo, .int .i64 r.shi, .int .i64 r.ulo, .int .i64 r.uhi, .int .i64 r.hlo, .int .i64 r.hhi, .int .i64 r.apart, .int .i64 r.blo, .int .i64 r.bhi, .slice A2 r.sizes.length c2, .int .i64 r.n0, .int .i64 r.n1, .int .i64 r.n2, .int .i64 r.n3, .int .i64 r.n4, .int .i64 r.opn] ∧ (Cells w 3 eH A1 t.holes) ∧ (Cells w 2 eZ A2 r.sizes) ∧ (t.holes.length ≤ c1) ∧ (r.sizes.length ≤ c2) ∧ (c1 ≤ maxLen) ∧ (c2 ≤ maxLen) := by
  obtain ⟨hl, hc⟩ := h
  match cs, hl with
  | [u0, u1, u2, u3, u4, u5, u6, u7, u8, u9, u10, u11, u12, u13, u14, u15, u16, u17, u18, u19, u20, u21, u22], _ =>
    obtain ⟨z0, e0, w0⟩ := hc 0 _ _ rfl rfl
    obtain ⟨z1, e1, w1⟩ := hc 1 _ _ rfl rfl
    obtain ⟨z2, e2, w2⟩ := hc 2 _ _ rfl rfl
    obtain ⟨z3, e3, w3⟩ := hc 3 _ _ rfl rfl
    obtain ⟨z4, e4, w4⟩ := hc 4 _ _ rfl rfl
    obtain ⟨z5, e5, w5⟩ := hc 5 _ _ rfl rfl
    obtain ⟨A1, c1, z6, e6, hc1, hm1, hR1⟩ := ck_holes (hc 6 _ _ rfl rfl)
    obtain ⟨z7, e7, w7⟩ := hc 7 _ _ rfl rfl
    obtain ⟨z8, e8, w8⟩ := hc 8 _ _ rfl rfl
    obtain ⟨z9, e9, w9⟩ := hc 9 _ _ rfl rfl
    obtain ⟨z10, e10, w10⟩ := hc 10 _ _ rfl rfl
    obtain ⟨z11, e11, w11⟩ := hc 11 _ _ rfl rfl
    obtain ⟨z12, e12, w12⟩ := hc 12 _ _ rfl rfl
    obtain ⟨z13, e13, w13⟩ := hc 13 _ _ rfl rfl
    obtain ⟨z14, e14, w14⟩ := hc 14 _ _ rfl rfl
    obtain ⟨z15, e15, w15⟩ := hc 15 _ _ rfl rfl
    obtain ⟨A2, c2, z16, e16, hc2, hm2, hR2⟩ := ck_sizes (hc 16 _ _ rfl rfl)
    obtain ⟨z17, e17, w17⟩ := hc 17 _ _ rfl rfl
    obtain ⟨z18, e18, w18⟩ := hc 18 _ _ rfl rfl
    obtain ⟨z19, e19, w19⟩ := hc 19 _ _ rfl rfl
    obtain ⟨z20, e20, w20⟩ := hc 20 _ _ rfl rfl
    obtain ⟨z21, e21, w21⟩ := hc 21 _ _ rfl rfl
    obtain ⟨z22, e22, w22⟩ := hc 22 _ _ rfl rfl
    subst e0 e1 e2 e3 e4 e5 e6 e7 e8 e9 e10 e11 e12 e13 e14 e15 e16 e17 e18 e19 e20 e21 e22
    exact ⟨⟨z0, z1, z2, z3, z4, z5, z6⟩, ⟨z7, z8, z9, z10, z11, z12, z13, z14, z15, z16, z17, z18, z19, z20, z21, z22⟩, A1, c1, A2, c2, rfl, hR1, hR2, hc1, hc2, hm1, hm2⟩
theorem TrunkVerifies_ (W : World) (t : TreeV) (r : RuleV) (A1 : Option Addr) (c1 : Nat) (A2 : Option Addr) (c2 : Nat) (hR1 : Cells W 3 eH A1 t.holes) (hR2 : Cells W 2 eZ A2 r.sizes) (hc1 : t.holes.length ≤ c1) (hc2 : r.sizes.length ≤ c2) (hm1 : c1 ≤ maxLen) (hm2 : c2 ≤ maxLen) (y : Int) (hy : -9223372036854775808 ≤ y ∧ y ≤ 9223372036854775807) (p : List (List Spt)) (A3 : Option Addr) (c3 : Nat) (hc3 : p.length ≤ c3) (hm3 : c3 ≤ maxLen) (hll : ∀ q, q ∈ p → q.length ≤ maxLen) (hR3 : (Cn.ro 1 p.length (LstL 2 eS p)).owned = false ∧ ∀ ν, (Cn.ro 1 p.length (LstL 2 eS p)).holds ν W (fun b => 0 ≤ b ∧ b < W.heap.size) (.slice A3 p.length c3)) :
    Calls Try.prog 11 #[.agg #[.int .i64 t.year, .int .i64 t.glo, .int .i64 t.ghi, .int .i64 t.wlo, .int .i64 t.whi, .int .i64 t.health, .slice A1 t.holes.length c1, .int .i64 r.slo, .int .i64 r.shi, .int .i64 r.ulo, .int .i64 r.uhi, .int .i64 r.hlo, .int .i64 r.hhi, .int .i64 r.apart, .int .i64 r.blo, .int .i64 r.bhi, .slice A2 r.sizes.length c2, .int .i64 r.n0, .int .i64 r.n1, .int .i64 r.n2, .int .i64 r.n3, .int .i64 r.n4, .int .i64 r.opn], .int .i64 y, .slice A3 p.length c3] W fun e W' => e = .returned (.bool true) ∧ Below W.heap.size W W' :=
  (calls_of_fr (verifies_fr t r y p (by unfold maxLen at *; omega) (by unfold maxLen at *; omega) (by unfold maxLen at *; omega) (fun q hq => by have := hll q hq; unfold maxLen at *; omega)) (nuL [.slice A1 t.holes.length c1, .slice A2 r.sizes.length c2, .slice A3 p.length c3]) W
    (nuL_one (by intro v hv; simp at hv; rcases hv with rfl | rfl | rfl <;> rfl))
    ⟨ro_cells hc1 (fun _ => rfl) hR1, ro_cells hc2 (fun _ => rfl) hR2, ⟨hR3.1, hR3.2 _⟩, trivial⟩).mono fun e w' ⟨⟨_, h⟩, hb⟩ => ⟨h, hb⟩
set_option maxRecDepth 100000 in
theorem trunkVerifies_lifted (os : Os) (started : os.Started) (H : Type) (enc : TypeId × Value → H) :
    ReturnsInHanded {} Try.checked os 11 .any (Rows.trunkVerifiesSpec.pre6 enc Try.prog Try.f11 Rows.trunkVerifiesRow.domain false) (Rows.trunkVerifiesSpec.post enc Try.prog Try.f11 false true false false) := by
  refine returnsInHanded_of_change (C := Try.checked) own_none started (by kernel_rfl) Try.func11
    (ChangeSpec.witness6 (enc := enc) (C := Try.checked) false ⟨#[], #[.agg #[.int .i64 0, .int .i64 0, .int .i64 0, .int .i64 0, .int .i64 0, .int .i64 0, .slice none 0 0, .int .i64 0, .int .i64 0, .int .i64 0, .int .i64 0, .int .i64 0, .int .i64 0, .int .i64 0, .int .i64 0, .int .i64 0, .slice none 0 0, .int .i64 0, .int .i64 0, .int .i64 0, .int .i64 0, .int .i64 0, .int .i64 0], .int .i64 0, .slice none 0 0], []⟩ 8 (by kernel_rfl) (by kernel_rfl) (by kernel_rfl) (by kernel_rfl)) ?_
  intro W base args ds gs before hval0 hW hcnd _
  have hval : ∀ (j : Nat) t v, Try.f11.params[j]? = some t → args[j]? = some v → Value.okWide Try.prog W .any base t v := hval0
  have hW' := hW
  obtain ⟨p, q, hA0, hV, rfl, hfz, hnd⟩ := hW
  have hA : DataW.TrodAll enc Try.prog W 0 (fun _ => true) true Try.f11.params.toList args.toList ds p := hA0
  rw [Try.params11] at hA hval
  obtain ⟨v0, vs0, d0, ds0, p0, q0, hargs, rfl, rfl, h0, r0⟩ := trodAll_cons hA
  obtain ⟨v1, vs1, d1, ds1, p1, q1, rfl, rfl, rfl, h1, r1⟩ := trodAll_cons r0
  obtain ⟨v2, vs2, d2, ds2, p2, q2, rfl, rfl, rfl, h2, r2⟩ := trodAll_cons r1
  obtain ⟨rfl, rfl, rfl⟩ := trodAll_nil r2
  obtain rfl : args = #[v0, v1, v2] := by cases args; simp_all
  obtain ⟨rfl, rfl⟩ := trodVars_none hV
  have lt0 : ∀ x ∈ p0, x.block < W.heap.size := by obtain ⟨m, hm⟩ := h0; exact DataW.trod_lt m _ _ _ hm
  have lt2 : ∀ x ∈ p2, x.block < W.heap.size := by obtain ⟨m, hm⟩ := h2; exact DataW.trod_lt m _ _ _ hm
  obtain ⟨cs0, rfl, hw0⟩ := open_st (n := 6) (ks := [.int .i64, .int .i64, .int .i64, .int .i64, .int .i64, .int .i64, .lst (ints 3), .int .i64, .int .i64, .int .i64, .int .i64, .int .i64, .int .i64, .int .i64, .int .i64, .int .i64, .lst (ints 2), .int .i64, .int .i64, .int .i64, .int .i64, .int .i64, .int .i64]) Try.underlying68 (by kernel_rfl) (hval 0 _ v0 rfl rfl) h0
  obtain ⟨t, r, A1, c1, A2, c2, rfl, hR1, hR2, hc1, hc2, hm1, hm2⟩ := rowTrunkVerifies0 hw0
  obtain ⟨y, rfl, rfl, rfl, w1⟩ := open_int Try.underlying3 (hval 1 _ v1 rfl rfl) h1
  have hy := bounds_i64 w1
  obtain ⟨A3, c3, p, rfl, hc3, hm3, hll, hR3⟩ := ck_plan (open_sl (n := 5) (el := [.lst (ints 2)]) Try.underlying102 (by kernel_rfl) (okWide_cells Try.underlying102 (hval 2 _ v2 rfl rfl)) h2)
  clear hA0 hval0
  refine (TrunkVerifies_ W t r A1 c1 A2 c2 hR1 hR2 hc1 hc2 hm1 hm2 y hy p A3 c3 hc3 hm3 hll hR3).mono fun e W' ⟨he, bel⟩ => ?_
  subst he
  exact ⟨_, rfl, _, _, _, [], _, [], hW', trodAll_mk1 (shut_bool Try.underlying4 _), (trodAll_cons_mk (Below.trod laid_out (by kernel_rfl) (of_decide_eq_true (by kernel_rfl)) h0 bel lt0) (trodAll_cons_mk (shut_int Try.underlying3 w1) (trodAll_cons_mk (Below.trod laid_out (by kernel_rfl) (of_decide_eq_true (by kernel_rfl)) h2 bel lt2) trodAll_mk0))), rfl, bel.frame _, fun h => by cases h⟩
theorem trunkVerifies_holds : Rows.TrunkVerifiesSaid :=
  OpenClaim.holds_of_wide 11 Try.f11 rfl rfl rfl rfl rfl rfl rfl ⟨rfl, rfl, rfl, rfl, rfl⟩ rfl rfl rfl rfl rfl (by kernel_rfl) Try.func11 (by kernel_rfl)
    (of_decide_eq_true (by kernel_rfl)) (by unfold Func.isWrapper; first | (rw [if_pos (by decide +kernel)]; kernel_rfl) | (rw [if_neg (by decide +kernel)]; exact ⟨rfl, rfl⟩))
    (fun os started H enc _ => trunkVerifies_lifted os started H enc)
end Go.Proofs.Ytbpblhmigijkaaa
