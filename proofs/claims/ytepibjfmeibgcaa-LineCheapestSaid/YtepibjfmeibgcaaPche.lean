/- LineCheapest: the shell. -/
import Derived.Test.YtepibjfmeibgcaaQd
import Derived.Test.YtepibjfmeibgcaaSw
namespace Go.Proofs.Ytepibjfmeibgcaa
open Go.RowKit Go.ChangeShapes Go.WideShapes Go.ChangeAt Go.Deep Go.Joins
theorem LineCheapest_ (W : World) (n : Net) (A0 : Option Addr) (c0 : Nat) (hR0 : RdP W 0 W.heap.size A0 n.pipes) (hc0 : n.pipes.length ≤ c0) (hm0 : c0 ≤ maxLen) (flows : List Rng) (A1 : Option Addr) (c1 : Nat) (hR1 : RdR W 0 W.heap.size A1 flows) (hc1 : flows.length ≤ c1) (hm1 : c1 ≤ maxLen) (bores : List Bor) (A2 : Option Addr) (c2 : Nat) (need : Int) (hR2 : RdO W 0 W.heap.size A2 bores) (hc2 : bores.length ≤ c2) (hm2 : c2 ≤ maxLen) :
    Calls Try.prog 5 #[.agg #[.int .i64 n.pump, .slice A0 n.pipes.length c0], .slice A1 flows.length c1, .agg #[.slice A2 bores.length c2, .int .i64 need]] W fun e W' => e = .returned (.bool true) ∧ Below W.heap.size W W' :=
  (calls_of_fr (cheapest_fr n flows bores need (by omega) (by omega) (by omega)) (nuL [.slice A0 n.pipes.length c0, .slice A1 flows.length c1, .slice A2 bores.length c2]) W
    (nuL_one (by intro v hv; simp at hv; rcases hv with rfl | rfl | rfl <;> rfl))
    ⟨ro_P rfl hc0 hR0, ro_R rfl hc1 hR1, ro_O rfl hc2 hR2, trivial⟩).mono fun e w' ⟨⟨_, h⟩, hb⟩ => ⟨h, hb⟩
set_option maxRecDepth 100000 in
theorem lineCheapest_lifted (os : Os) (started : os.Started) (H : Type) (enc : TypeId × Value → H) :
    ReturnsInHanded {} Try.checked os 5 .any (Rows.lineCheapestSpec.pre6 enc Try.prog Try.f5 Rows.lineCheapestRow.domain false) (Rows.lineCheapestSpec.post enc Try.prog Try.f5 false true false false) := by
  refine returnsInHanded_of_change (C := Try.checked) own_none started (by kernel_rfl) Try.func5
    (ChangeSpec.witness6 (enc := enc) (C := Try.checked) false ⟨#[], #[.agg #[.int .i64 0, .slice none 0 0], .slice none 0 0, .agg #[.slice none 0 0, .int .i64 0]], []⟩ 8 (by kernel_rfl) (by kernel_rfl) (by kernel_rfl) (by kernel_rfl)) ?_
  intro W base args ds gs before hval0 hW hcnd _
  have hval : ∀ (j : Nat) t v, Try.f5.params[j]? = some t → args[j]? = some v → Value.okWide Try.prog W .any base t v := hval0
  have hW' := hW
  obtain ⟨p, q, hA0, hV, rfl, hfz, hnd⟩ := hW
  have hA : DataW.TrodAll enc Try.prog W 0 (fun _ => true) true Try.f5.params.toList args.toList ds p := hA0
  rw [Try.params5] at hA hval
  obtain ⟨v0, vs0, d0, ds0, p0, q0, hargs, rfl, rfl, h0, r0⟩ := trodAll_cons hA
  obtain ⟨v1, vs1, d1, ds1, p1, q1, rfl, rfl, rfl, h1, r1⟩ := trodAll_cons r0
  obtain ⟨v2, vs2, d2, ds2, p2, q2, rfl, rfl, rfl, h2, r2⟩ := trodAll_cons r1
  obtain ⟨rfl, rfl, rfl⟩ := trodAll_nil r2
  obtain rfl : args = #[v0, v1, v2] := by cases args; simp_all
  obtain ⟨rfl, rfl⟩ := trodVars_none hV
  have lt0 : ∀ x ∈ p0, x.block < W.heap.size := by obtain ⟨m, hm⟩ := h0; exact DataW.trod_lt m _ _ _ hm
  have lt1 : ∀ x ∈ p1, x.block < W.heap.size := by obtain ⟨m, hm⟩ := h1; exact DataW.trod_lt m _ _ _ hm
  have lt2 : ∀ x ∈ p2, x.block < W.heap.size := by obtain ⟨m, hm⟩ := h2; exact DataW.trod_lt m _ _ _ hm
  obtain ⟨n, A0, c0, rfl, hc0, hm0, hR0⟩ := open_net (hval 0 _ v0 rfl rfl) h0
  obtain ⟨A1, flows, c1, rfl, hc1, hm1, hR1⟩ := open_rs (hval 1 _ v1 rfl rfl) h1
  obtain ⟨A2, bores, c2, need, rfl, hc2, hm2, hR2⟩ := open_wanted (hval 2 _ v2 rfl rfl) h2
  clear hA0 hval0
  refine (LineCheapest_ W n A0 c0 hR0 hc0 hm0 flows A1 c1 hR1 hc1 hm1 bores A2 c2 need hR2 hc2 hm2).mono fun e W' ⟨he, bel⟩ => ?_
  subst he
  exact ⟨_, rfl, _, _, _, [], _, [], hW', trodAll_mk1 (shut_bool Try.underlying4 _), (trodAll_cons_mk (Below.trod laid_out (by kernel_rfl) (of_decide_eq_true (by kernel_rfl)) h0 bel lt0) (trodAll_cons_mk (Below.trod laid_out (by kernel_rfl) (of_decide_eq_true (by kernel_rfl)) h1 bel lt1) (trodAll_cons_mk (Below.trod laid_out (by kernel_rfl) (of_decide_eq_true (by kernel_rfl)) h2 bel lt2) trodAll_mk0))), rfl, bel.frame _, fun h => by cases h⟩
theorem lineCheapest_holds : Rows.LineCheapestSaid :=
  OpenClaim.holds_of_wide 5 Try.f5 rfl rfl rfl rfl rfl rfl rfl ⟨rfl, rfl, rfl, rfl, rfl⟩ rfl rfl rfl rfl rfl (by kernel_rfl) Try.func5 (by kernel_rfl)
    (of_decide_eq_true (by kernel_rfl)) (by unfold Func.isWrapper; first | (rw [if_pos (by decide +kernel)]; kernel_rfl) | (rw [if_neg (by decide +kernel)]; exact ⟨rfl, rfl⟩))
    (fun os started H enc _ => lineCheapest_lifted os started H enc)
end Go.Proofs.Ytepibjfmeibgcaa
