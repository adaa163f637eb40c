/- The six lists of loads and vacuums, of the drawn flows and of the ends, agree as they should. No condition: any tubing, any flows, any frozen pipes and picks. -/
import Derived.Test.YtepibjfmeibgcaaB4
import Derived.Test.YtepibjfmeibgcaaC1
import Derived.Test.YtepibjfmeibgcaaSo
namespace Go.Proofs.Ytepibjfmeibgcaa
open Go.RowKit Go.ChangeShapes Go.WideShapes Go.ChangeAt Go.Deep Go.Joins
theorem LineTruths_ (n : Net) (flows : List Rng) (fz pk : List Int) (A B Z U : Option Addr) (c cb cz cu : Nat) (W : World) (hR : RdP W 0 W.heap.size A n.pipes) (hc : n.pipes.length ≤ c) (hm : c ≤ maxLen) (hF : RdR W 0 W.heap.size B flows) (hcb : flows.length ≤ cb) (hmb : cb ≤ maxLen)
    (hZ : Rd8 W 0 W.heap.size Z fz) (hcz : fz.length ≤ cz) (hmz : cz ≤ maxLen) (hU : RdU W 0 W.heap.size U pk) (hcu : pk.length ≤ cu) (hmu : cu ≤ maxLen) (hfb : ∀ x ∈ fz, 0 ≤ x ∧ x ≤ 255) (hpb : ∀ x ∈ pk, 0 ≤ x ∧ x ≤ 65535) :
    Calls Try.prog 8 #[.agg #[.int .i64 n.pump, .slice A n.pipes.length c], .slice B flows.length cb, .agg #[.slice Z fz.length cz, .slice U pk.length cu]] W fun e W' => e = .returned (.bool true) ∧ Below W.heap.size W W' :=
  (calls_of_fr (truths_fr n flows fz pk (by omega) (by omega) (by omega) (by omega) hfb hpb) (nuL [.slice A n.pipes.length c, .slice B flows.length cb, .slice Z fz.length cz, .slice U pk.length cu]) W
    (nuL_one (by intro v hv; simp at hv; rcases hv with rfl | rfl | rfl | rfl <;> rfl))
    ⟨ro_P rfl hc hR, ro_R rfl hcb hF, ro_8 rfl hcz hZ, ro_U rfl hcu hU, trivial⟩).mono fun e w' ⟨⟨_, h⟩, hb⟩ => ⟨h, hb⟩
set_option maxRecDepth 100000 in
theorem lineTruths_lifted (os : Os) (started : os.Started) (H : Type) (enc : TypeId × Value → H) :
    ReturnsInHanded {} Try.checked os 8 .any (Rows.lineTruthsSpec.pre6 enc Try.prog Try.f8 Rows.lineTruthsRow.domain false) (Rows.lineTruthsSpec.post enc Try.prog Try.f8 false true false false) := by
  refine returnsInHanded_of_change (C := Try.checked) own_none started (by kernel_rfl) Try.func8
    (ChangeSpec.witness6 (enc := enc) (C := Try.checked) false ⟨#[], #[.agg #[.int .i64 0, .slice none 0 0], .slice none 0 0, .agg #[.slice none 0 0, .slice none 0 0]], []⟩ 8 (by kernel_rfl) (by kernel_rfl) (by kernel_rfl) (by kernel_rfl)) ?_
  intro W base args ds gs before hval0 hW hcnd _
  have hval : ∀ (j : Nat) t v, Try.f8.params[j]? = some t → args[j]? = some v → Value.okWide Try.prog W .any base t v := hval0
  have hW' := hW
  obtain ⟨p, q, hA0, hV, rfl, hfz, hnd⟩ := hW
  have hA : DataW.TrodAll enc Try.prog W 0 (fun _ => true) true Try.f8.params.toList args.toList ds p := hA0
  rw [Try.params8] at hA hval
  obtain ⟨v0, vs0, d0, ds0, p0, q0, hargs, rfl, rfl, h0, r0⟩ := trodAll_cons hA
  obtain ⟨v1, vs1, d1, ds1, p1, q1, rfl, rfl, rfl, h1, r1⟩ := trodAll_cons r0
  obtain ⟨v2, vs2, d2, ds2, p2, q2, rfl, rfl, rfl, h2, r2⟩ := trodAll_cons r1
  obtain ⟨rfl, rfl, rfl⟩ := trodAll_nil r2
  obtain rfl : args = #[v0, v1, v2] := by cases args; simp_all
  obtain ⟨rfl, rfl⟩ := trodVars_none hV
  have lt0 : ∀ x ∈ p0, x.block < W.heap.size := by obtain ⟨m, hm⟩ := h0; exact DataW.trod_lt m _ _ _ hm
  have lt1 : ∀ x ∈ p1, x.block < W.heap.size := by obtain ⟨m, hm⟩ := h1; exact DataW.trod_lt m _ _ _ hm
  have lt2 : ∀ x ∈ p2, x.block < W.heap.size := by obtain ⟨m, hm⟩ := h2; exact DataW.trod_lt m _ _ _ hm
  obtain ⟨n, A, c, rfl, hc, hm, hR⟩ := open_net (hval 0 _ v0 rfl rfl) h0
  obtain ⟨B, rs, cb, rfl, hcb, hmb, hF⟩ := open_rs (hval 1 _ v1 rfl rfl) h1
  obtain ⟨Z, U, zs, pk, cz, cu, rfl, hcz, hmz, hcu, hmu, hZ, hU, hzb, hub⟩ := open_truths (hval 2 _ v2 rfl rfl) h2
  clear hA0 hval0
  refine (LineTruths_ n rs zs pk A B Z U c cb cz cu W hR hc hm hF hcb hmb hZ hcz hmz hU hcu hmu hzb hub).mono fun e W' ⟨he, bel⟩ => ?_
  subst he
  exact ⟨_, rfl, _, _, _, [], _, [], hW', trodAll_mk1 (shut_bool Try.underlying4 _), (trodAll_cons_mk (Below.trod laid_out (by kernel_rfl) (of_decide_eq_true (by kernel_rfl)) h0 bel lt0) (trodAll_cons_mk (Below.trod laid_out (by kernel_rfl) (of_decide_eq_true (by kernel_rfl)) h1 bel lt1) (trodAll_cons_mk (Below.trod laid_out (by kernel_rfl) (of_decide_eq_true (by kernel_rfl)) h2 bel lt2) trodAll_mk0))), rfl, bel.frame _, fun h => by cases h⟩
theorem lineTruths_holds : Rows.LineTruthsSaid :=
  OpenClaim.holds_of_wide 8 Try.f8 rfl rfl rfl rfl rfl rfl rfl ⟨rfl, rfl, rfl, rfl, rfl⟩ rfl rfl rfl rfl rfl (by kernel_rfl) Try.func8 (by kernel_rfl)
    (of_decide_eq_true (by kernel_rfl)) (by unfold Func.isWrapper; first | (rw [if_pos (by decide +kernel)]; kernel_rfl) | (rw [if_neg (by decide +kernel)]; exact ⟨rfl, rfl⟩))
    (fun os started H enc _ => lineTruths_lifted os started H enc)
end Go.Proofs.Ytepibjfmeibgcaa
