/- TrunkTells: the shell. -/
import Derived.Test.YtbpblhmigijkaaaTt
import Derived.Test.YtbpblhmigijkaaaTg
import Derived.Test.YtbpblhmigijkaaaSx
namespace Go.Proofs.Ytbpblhmigijkaaa
open Go.RowKit Go.ChangeShapes Go.WideShapes Go.ChangeAt Go.Deep Go.Joins
theorem TrunkTells_ (W : World) (t : TreeV) (A0 : Option Addr) (c0 : Nat) (hR0 : Cells W 3 eH A0 t.holes) (hc0 : t.holes.length ≤ c0) (hm0 : c0 ≤ maxLen) (r : RuleV) (A1 : Option Addr) (c1 : Nat) (hR1 : Cells W 2 eZ A1 r.sizes) (hc1 : r.sizes.length ≤ c1) (hm1 : c1 ≤ maxLen) (y : Int) (hy : -9223372036854775808 ≤ y ∧ y ≤ 9223372036854775807) :
    Calls Try.prog 3 #[.agg #[.int .i64 t.year, .int .i64 t.glo, .int .i64 t.ghi, .int .i64 t.wlo, .int .i64 t.whi, .int .i64 t.health, .slice A0 t.holes.length c0], .agg #[.int .i64 r.slo, .int .i64 r.shi, .int .i64 r.ulo, .int .i64 r.uhi, .int .i64 r.hlo, .int .i64 r.hhi, .int .i64 r.apart, .int .i64 r.blo, .int .i64 r.bhi, .slice A1 r.sizes.length c1, .int .i64 r.n0, .int .i64 r.n1, .int .i64 r.n2, .int .i64 r.n3, .int .i64 r.n4, .int .i64 r.opn], .int .i64 y] W fun e W' => e = .returned (.bool true) ∧ Below W.heap.size W W' :=
  (calls_of_fr (tells_fr t r y (by unfold maxLen at *; omega) (by unfold maxLen at *; omega)) (nuL [.slice A0 t.holes.length c0, .slice A1 r.sizes.length c1]) W
    (nuL_one (by intro v hv; simp at hv; rcases hv with rfl | rfl <;> rfl))
    ⟨ro_cells hc0 (fun _ => rfl) hR0, ro_cells hc1 (fun _ => rfl) hR1, trivial⟩).mono fun e w' ⟨⟨_, h⟩, hb⟩ => ⟨h, hb⟩
set_option maxRecDepth 100000 in
theorem trunkTells_lifted (os : Os) (started : os.Started) (H : Type) (enc : TypeId × Value → H) :
    ReturnsInHanded {} Try.checked os 3 .any (Rows.trunkTellsSpec.pre6 enc Try.prog Try.f3 Rows.trunkTellsRow.domain false) (Rows.trunkTellsSpec.post enc Try.prog Try.f3 false true false false) := by
  refine returnsInHanded_of_change (C := Try.checked) own_none started (by kernel_rfl) Try.func3
    (ChangeSpec.witness6 (enc := enc) (C := Try.checked) false ⟨#[], #[.agg #[.int .i64 0, .int .i64 0, .int .i64 0, .int .i64 0, .int .i64 0, .int .i64 0, .slice none 0 0], .agg #[.int .i64 0, .int .i64 0, .int .i64 0, .int .i64 0, .int .i64 0, .int .i64 0, .int .i64 0, .int .i64 0, .int .i64 0, .slice none 0 0, .int .i64 0, .int .i64 0, .int .i64 0, .int .i64 0, .int .i64 0, .int .i64 0], .int .i64 0], []⟩ 8 (by kernel_rfl) (by kernel_rfl) (by kernel_rfl) (by kernel_rfl)) ?_
  intro W base args ds gs before hval0 hW hcnd _
  have hval : ∀ (j : Nat) t v, Try.f3.params[j]? = some t → args[j]? = some v → Value.okWide Try.prog W .any base t v := hval0
  have hW' := hW
  obtain ⟨p, q, hA0, hV, rfl, hfz, hnd⟩ := hW
  have hA : DataW.TrodAll enc Try.prog W 0 (fun _ => true) true Try.f3.params.toList args.toList ds p := hA0
  rw [Try.params3] at hA hval
  obtain ⟨v0, vs0, d0, ds0, p0, q0, hargs, rfl, rfl, h0, r0⟩ := trodAll_cons hA
  obtain ⟨v1, vs1, d1, ds1, p1, q1, rfl, rfl, rfl, h1, r1⟩ := trodAll_cons r0
  obtain ⟨v2, vs2, d2, ds2, p2, q2, rfl, rfl, rfl, h2, r2⟩ := trodAll_cons r1
  obtain ⟨rfl, rfl, rfl⟩ := trodAll_nil r2
  obtain rfl : args = #[v0, v1, v2] := by cases args; simp_all
  obtain ⟨rfl, rfl⟩ := trodVars_none hV
  have lt0 : ∀ x ∈ p0, x.block < W.heap.size := by obtain ⟨m, hm⟩ := h0; exact DataW.trod_lt m _ _ _ hm
  have lt1 : ∀ x ∈ p1, x.block < W.heap.size := by obtain ⟨m, hm⟩ := h1; exact DataW.trod_lt m _ _ _ hm
  obtain ⟨cs0, rfl, hw0⟩ := open_st (n := 6) (ks := [.int .i64, .int .i64, .int .i64, .int .i64, .int .i64, .int .i64, .lst (ints 3)]) Try.underlying26 (by kernel_rfl) (hval 0 _ v0 rfl rfl) h0
  obtain ⟨t, A0, c0, rfl, hc0, hm0, hR0, -⟩ := row_tree hw0
  obtain ⟨cs1, rfl, hw1⟩ := open_st (n := 6) (ks := [.int .i64, .int .i64, .int .i64, .int .i64, .int .i64, .int .i64, .int .i64, .int .i64, .int .i64, .lst (ints 2), .int .i64, .int .i64, .int .i64, .int .i64, .int .i64, .int .i64]) Try.underlying30 (by kernel_rfl) (hval 1 _ v1 rfl rfl) h1
  obtain ⟨r, A1, c1, rfl, hc1, hm1, hR1, -⟩ := row_rule hw1
  obtain ⟨y, rfl, rfl, rfl, w2⟩ := open_int Try.underlying3 (hval 2 _ v2 rfl rfl) h2
  have hy := bounds_i64 w2
  clear hA0 hval0
  refine (TrunkTells_ W t A0 c0 hR0 hc0 hm0 r A1 c1 hR1 hc1 hm1 y hy).mono fun e W' ⟨he, bel⟩ => ?_
  subst he
  exact ⟨_, rfl, _, _, _, [], _, [], hW', trodAll_mk1 (shut_bool Try.underlying4 _), (trodAll_cons_mk (Below.trod laid_out (by kernel_rfl) (of_decide_eq_true (by kernel_rfl)) h0 bel lt0) (trodAll_cons_mk (Below.trod laid_out (by kernel_rfl) (of_decide_eq_true (by kernel_rfl)) h1 bel lt1) (trodAll_cons_mk (shut_int Try.underlying3 w2) trodAll_mk0))), rfl, bel.frame _, fun h => by cases h⟩
theorem trunkTells_holds : Rows.TrunkTellsSaid :=
  OpenClaim.holds_of_wide 3 Try.f3 rfl rfl rfl rfl rfl rfl rfl ⟨rfl, rfl, rfl, rfl, rfl⟩ rfl rfl rfl rfl rfl (by kernel_rfl) Try.func3 (by kernel_rfl)
    (of_decide_eq_true (by kernel_rfl)) (by unfold Func.isWrapper; first | (rw [if_pos (by decide +kernel)]; kernel_rfl) | (rw [if_neg (by decide +kernel)]; exact ⟨rfl, rfl⟩))
    (fun os started H enc _ => trunkTells_lifted os started H enc)
end Go.Proofs.Ytbpblhmigijkaaa
