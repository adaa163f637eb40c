/- What slices.AppendSeq and slices.Collect return, for any iterator over ints that keeps its word. -/
import Derived.Test.YtepibjfmeibgcaaIt
import Derived.Test.YtepibjfmeibgcaaWa
import Derived.Maps.AppendAt
namespace Go.Proofs.Ytepibjfmeibgcaa
open Go.RowKit Go.Shelf
attribute [local go_sem] Oper.semAt_some

theorem ownsRow_only {S : Nat → Prop} {W W' : World} {base : Nat} {e : TypeId} {size : Nat} {v : Value} {n : Nat} {xs : List Value} (h : W.ownsRow base e size v n xs) (ho : Only S W W') (hs : ∀ k, S k → k < base) : W'.ownsRow base e size v n xs := by
  refine ⟨h.1, ?_⟩
  rcases h.2 with hn | ⟨g, cap, cur, hv, hb, hg, rest⟩
  · exact .inl hn
  · exact .inr ⟨g, cap, cur, hv, hb, ho.heap hg (fun hh => by have := hs _ hh; omega), rest⟩
theorem ownsRow_rdI {W : World} {base : Nat} {e : TypeId} {v : Value} {xs : List Int} (h : W.ownsRow base e 1 v xs.length (xs.map I)) : ∃ A c, v = .slice A xs.length c ∧ xs.length ≤ c ∧ RdI W base W.heap.size A xs := by
  rcases h.2 with ⟨rfl, h0⟩ | ⟨g, cap, cur, rfl, hb, hg, hc, _, hsz, ht⟩
  · have : xs = [] := List.eq_nil_of_length_eq_zero h0
    subst this
    exact ⟨none, 0, rfl, Nat.le_refl _, Rd.nil⟩
  · refine ⟨some ⟨g, 0, none⟩, cap, rfl, hc, fun _ => ⟨g, 0, rfl, hb, (Array.getElem?_eq_some_iff.1 hg).1, fun i x hx j u hu => ?_⟩⟩
    match j, hu with
    | 0, hu =>
      simp [encI] at hu; subst hu
      have hi : i < xs.length := (List.getElem?_eq_some_iff.1 hx).1
      rw [cell_of_row W g _ cur e (0, 0) hg]
      have h2 : (cur.toList.take (xs.length * 1))[i]? = some (I x) := by rw [ht]; simp [hx]
      rw [List.getElem?_take_of_lt (by omega)] at h2
      simpa using h2
theorem box_cell {W : World} {B : Nat} {v : Value} {t : TypeId} (h : W.heap[B]? = some (.cells #[v] t (0, 0))) : W.cell? ⟨B, 0, none⟩ = some v ∧ W.frozen? ⟨B, 0, none⟩ = false := by
  constructor <;> simp [World.cell?, World.frozen?, h]

theorem heap_setCell_box' {W : World} {B : Nat} {v : Value} {t : TypeId} (v' : Value) (h : W.heap[B]? = some (.cells #[v] t (0, 0))) : (W.setCell ⟨B, 0, none⟩ v').heap[B]? = some (.cells #[v'] t (0, 0)) := by
  have := Blk.set_ (show Blk W B t #[v] from h) 0 v'
  exact this
/-- Between two rounds: the box holds a slice of the call's own with what has come. -/
def SeqAt (Sb : Nat → Prop) (w : World) (pre : List Int) (W : World) : Prop :=
  (∃ v, W.heap[w.heap.size]? = some (.cells #[v] 31 (0, 0)) ∧ W.ownsRow (w.heap.size + 3) 3 1 v pre.length (pre.map I)) ∧ Only Sb w W

set_option maxHeartbeats 1000000 in
set_option maxRecDepth 100000 in
theorem appendSeq_ (g : FuncId) (lb : Array Value) (eg : ∀ args w, (callFunc g args).run Try.prog w = .ok (.enter g args) w) (xs : List Int) (Sb Kb : Nat → Prop) (w : World) (hseq : ∀ o, Iter Try.prog g lb (fun x => #[.int .i64 x]) xs Sb Kb (w.alloc o))
    (hS : ∀ k, Sb k → k < w.heap.size) (hK : ∀ k, Kb k → k < w.heap.size) (hN : xs.length ≤ 1000000) :
    Calls Try.prog 96 #[.slice none 0 0, .func (.func g) #[] lb] w fun e w' => (∃ A c, e = .returned (.slice A xs.length c) ∧ xs.length ≤ c ∧ RdI w' w.heap.size w'.heap.size A xs) ∧ Only Sb w w' := by
  obtain ⟨i0, hi0, hz0, hz1, hz2⟩ := info_parts infoInt
  refine (callsIn_wide (n := 9)).1 ?_
  refine callsIn_of_wp_marks Try.func96 rfl trivial ?_
  simp only [Try.ntmps96, List.size_toArray, List.length_cons, List.length_nil, Nat.reduceAdd, Nat.reduceSub, Array.replicate_succ, Array.replicate_zero, List.push_toArray, List.append_toArray, List.nil_append, List.cons_append]
  gi_wp2
  have hs0 : (w.alloc (.cells #[.slice none 0 0] 31)).heap.size = w.heap.size + 1 := by simp
  refine wp_rangeIt (a₁ := fun x => { tmps := #[.slice none 0 0, .func (.func g) #[] lb, .pointer (some ⟨w.heap.size, 0, none⟩), undef, .slice none 0 0, .int .i64 x, .func (.func g) #[] lb, .int .i64 x, undef, undef, undef, undef, undef], defers := [] })
    rfl eg (hseq _) (fun _ => rfl) (fun k hk => by have := hS k hk; omega) (fun k hk => by have := hK k hk; omega) (SeqAt Sb w) ?hI ?h0 ?assign ?body ?done
  case hI =>
    rintro pre W1 W2 ⟨⟨v, hv, hr⟩, ho⟩ h12
    rw [hs0] at h12
    refine ⟨⟨v, h12.heap hv (fun h => by rcases h with h | h; have := hS _ h; omega; omega), ownsRow_only hr h12 (fun k h => by rcases h with h | h; have := hS _ h; omega; omega)⟩, ?_⟩
    exact ho.then_ h12 (fun k hk h => h.resolve_right (by omega))
  case h0 => exact ⟨⟨_, heap_alloc_new _ _, ⟨rfl, .inl ⟨rfl, rfl⟩⟩⟩, Only.alloc _ _ _⟩
  case assign =>
    intro l x W K hK
    gi_wp2
    exact hK
  case body =>
    rintro l pre x W ⟨⟨v, hv, hr⟩, ho⟩ hpre hsz
    rw [hs0] at hsz
    have hlen : pre.length + 1 ≤ 1000000 := by have := hpre.length_le; simp at this; omega
    obtain ⟨hc, hf⟩ := box_cell hv
    have hb0 : w.heap.size < W.heap.size := by omega
    gi_wp2_with (gi_at_builtin; refine wpListIn_append_own _ rfl _ _ 31 rfl (w.heap.size + 3) 3 i0 (.int .i64 0) 1 8 Try.underlying31 hi0 hz0 hz1 hz2 rfl (by decide) _ _ _ rfl (hr.alloc _) ⟨W.heap.size, 0, none⟩ 1 1 [.int .i64 x] rfl rfl (cell_one_new _ _ _) (by simp [Value.oneCell']) (by unfold maxLen; omega) (by omega) (by simp; omega) ?_; intro v' w1 hown' hgrow _; obtain ⟨g', cap', rfl⟩ := ownsRow_succ hown'; have hg1 : (W.alloc (.cells #[.int .i64 x] 3)).grownBy w1 v.ownBlock := hgrow; have hv1 : w1.heap[w.heap.size]? = some (.cells #[v] 31 (0, 0)) := (hg1.block w.heap.size (by simp; omega) (fun e => by have := (hr.lt _ e.symm).1; omega)).trans ((Below.heap_alloc _ _ _ hb0).trans hv); obtain ⟨hc1, hf1⟩ := box_cell hv1)
    rw [hs0]
    have hO1 : Only (fun k => ¬ Kb k ∧ ¬ (w.heap.size + 1 ≤ k ∧ k ≤ w.heap.size + 1 + 1)) W w1 :=
      (Only.alloc _ W _).trans (Only.of_grownBy hg1 fun k e => by have h3 := (hr.lt _ e).1; exact ⟨fun hk => by have := hK _ hk; omega, by omega⟩)
    have hO2 : Only (fun k => ¬ Kb k ∧ ¬ (w.heap.size + 1 ≤ k ∧ k ≤ w.heap.size + 1 + 1)) W (w1.setCell ⟨w.heap.size, 0, none⟩ (.slice (some ⟨g', 0, none⟩) (pre.length + 1) cap')) :=
      hO1.trans (Only.setCell _ _ _ ⟨fun hk => absurd (hK _ hk) (Nat.lt_irrefl _), fun h => by have h1 : w.heap.size + 1 ≤ w.heap.size := h.1; omega⟩)
    have hO3 : Only Sb w (w1.setCell ⟨w.heap.size, 0, none⟩ (.slice (some ⟨g', 0, none⟩) (pre.length + 1) cap')) :=
      ((ho.then_ (Only.alloc (fun _ => False) W _) (fun _ _ h => h.elim)).then_ (Only.of_grownBy (S := fun k => w.heap.size + 3 ≤ k) hg1 fun k e => (hr.lt _ e).1) (fun k hk h => by omega)).then_ (Only.setCell (S := fun k => k = w.heap.size) _ _ _ rfl) (fun k hk h => by omega)
    refine ⟨⟨⟨_, heap_setCell_box' _ hv1, ?_⟩, hO3⟩, hO2⟩
    have hk := ownsRow_only (S := fun k => k = w.heap.size) hown' (Only.setCell w1 ⟨w.heap.size, 0, none⟩ (.slice (some ⟨g', 0, none⟩) (pre.length + 1) cap') rfl) (fun k h => by omega)
    simpa using hk
  case done =>
    rintro W ⟨⟨v, hv, hr⟩, ho⟩ hD
    obtain ⟨hc, hf⟩ := box_cell hv
    rw [hs0] at hD ⊢
    gi_wp2
    refine ⟨by simp, .inl ⟨_, _, rfl, run_takeDeferred hD, ?_⟩⟩
    have hp := Only.putObj (S := fun k => k = w.heap.size + 1) W (w.heap.size + 1) (.deferred none) rfl
    obtain ⟨A, c, hv', h2, h3⟩ := ownsRow_rdI (ownsRow_only hr hp (fun k h => by omega))
    refine ⟨_, results_tmp rfl _ _ _, ⟨A, c, by rw [← hv']; rfl, h2, h3.mono (by omega) (Nat.le_refl _)⟩, ho.then_ hp (fun k hk h => by omega)⟩
end Go.Proofs.Ytepibjfmeibgcaa
