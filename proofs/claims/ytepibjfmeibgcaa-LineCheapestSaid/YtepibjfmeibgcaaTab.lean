/- A map whose entries are all good: looking up and storing, whatever the program. -/
import Derived.Test.YtepibjfmeibgcaaLib
import Derived.Maps.Own
import Derived.Maps.OwnOps
import Derived.Maps.OwnSet
import Derived.DeepKeys4
namespace Go.Proofs.Ytepibjfmeibgcaa
open Go.RowKit
open Go.Maps (Keyed)
open Go.WideElems (Fit rd rg pl)
/-- An element stands for itself. -/
def rV (v : Value) : Option (DataW Value × List MemPlace) := some (.held v, [])
/-- Block b is a map; all its entries are good. -/
def TabP (P : Program) (k : TypeId) (Good : Value → Value → Prop) (w : World) (b : Nat) : Prop :=
  ∃ es : List (Lit × DataW Value), w.ownsMap P k rV b es.length (.map es) ∧ ∀ p ∈ es, ∃ key u, keyOf P k key = some p.1 ∧ Good key u ∧ p.2 = .held u
section
variable {P : Program} {k t e : TypeId} {Good : Value → Value → Prop} {w : World} {b : Nat}
theorem ownsMap_tight {n : Nat} {es : List (Lit × DataW Value)} (h : w.ownsMap P k rV b n (.map es)) : w.ownsMap P k rV b es.length (.map es) := by
  obtain ⟨ms, clock, hb, F, hs, hD⟩ := h
  refine ⟨ms, clock, hb, F, ?_, hD⟩
  have := congrArg (fun d : DataW Value => match d with | .map l => l.length | _ => 0) hD
  simp only [Go.length_sorted, List.length_map, Array.length_toList] at this
  omega
theorem TabP.new (w : World) (P : Program) (k : TypeId) (Good : Value → Value → Prop) : TabP P k Good (w.alloc (.map #[] 0)) w.heap.size :=
  ⟨[], World.ownsMap_made w P k rV, by simp⟩
theorem tab_new' (w : World) (P : Program) (k : TypeId) (Good : Value → Value → Prop) (b : Nat) (hb : w.heap.size = b) : TabP P k Good (w.alloc (.map #[] 0)) b := by subst hb; exact TabP.new w P k Good
theorem TabP.lt (h : TabP P k Good w b) : b < w.heap.size := by obtain ⟨es, h, _⟩ := h; exact h.lt
theorem TabP.kept {w' : World} {row : Option Nat} (h : TabP P k Good w b) (hg : w.grownBy w' row) (hne : some b ≠ row) : TabP P k Good w' b := by
  obtain ⟨es, h, r⟩ := h; exact ⟨es, h.kept hg hne, r⟩
theorem TabP.alloc (h : TabP P k Good w b) (o : Obj) : TabP P k Good (w.alloc o) b := by
  obtain ⟨es, h, r⟩ := h; exact ⟨es, h.alloc o, r⟩
theorem TabP.drew (h : TabP P k Good w b) : TabP P k Good w.drew b := h
theorem TabP.drewN (h : TabP P k Good w b) (n : Nat) : TabP P k Good (w.drewN n) b := h
theorem TabP.setCell (h : TabP P k Good w b) {a : Addr} (ha : b ≠ a.block) (u : Value) : TabP P k Good (w.setCell a u) b := by
  obtain ⟨es, h, r⟩ := h; exact ⟨es, h.setCell ha u, r⟩
theorem TabP.below {B : Nat} {w' : World} (h : TabP P k Good w b) (hb : Below B w w') (hB : b < B) : TabP P k Good w' b := by
  obtain ⟨es, ⟨ms, clock, h1, r1⟩, r⟩ := h
  exact ⟨es, ⟨ms, clock, (hb.block b hB).trans h1, r1⟩, r⟩
theorem TabP.mono {Good' : Value → Value → Prop} (h : TabP P k Good w b) (hg : ∀ x u, Good x u → Good' x u) : TabP P k Good' w b := by
  obtain ⟨es, h, r⟩ := h
  exact ⟨es, h, fun p hp => by obtain ⟨x, u, h1, h2, h3⟩ := r p hp; exact ⟨x, u, h1, hg _ _ h2, h3⟩⟩
/-- How many entries there are, if all keys stand in a list. -/
theorem TabP.few (h : TabP P k Good w b) (K : Keyed P k) (cap : List Value) (hc : ∀ x u, Good x u → x ∈ cap) : ∃ es : List (Lit × DataW Value), w.ownsMap P k rV b es.length (.map es) ∧ (∀ p ∈ es, ∃ key u, keyOf P k key = some p.1 ∧ Good key u ∧ p.2 = .held u) ∧ es.length ≤ cap.length := by
  obtain ⟨es, h, r⟩ := h
  refine ⟨es, h, r, ?_⟩
  obtain ⟨es', e', hd⟩ := h.tidy K
  cases e'
  have hn : (es.map (·.1)).Nodup := by
    unfold List.Nodup
    rw [List.pairwise_map]
    exact hd
  have hs : es.map (·.1) ⊆ cap.filterMap (keyOf P k) := by
    intro l hl
    obtain ⟨p, hp, rfl⟩ := List.mem_map.1 hl
    obtain ⟨x, u, h1, h2, _⟩ := r p hp
    exact List.mem_filterMap.2 ⟨x, hc x u h2, h1⟩
  have h1 := hn.length_le_of_subset hs
  have h2 := List.length_filterMap_le (keyOf P k) cap
  rw [List.length_map] at h1
  omega
theorem find_same {kl : Lit} {p : Lit × DataW Value} (hs : p.1.sameKey kl = true) : p.1 = kl := WideAt.sameKey_eq hs
/-- v, ok := m[k]. -/
theorem TabP.look (h : TabP P k Good w b) (K : Keyed P k) (ht : P.underlying t = some (.map k e)) {z : Value} (hz : (zeroValue e).run P w = .ok z w) {key : Value} {kl : Lit} (hkey : keyOf P k key = some kl) :
    ∃ v is, (Instr.lookup t (.map (some b)) key true).run P w = .ok (.tuple #[v, .bool is]) w ∧ (is = true → Good key v) ∧ (is = false → v = z) := by
  obtain ⟨es, h, r⟩ := h
  obtain ⟨v, ps, hrun, hv⟩ := h.look_ok K ht hz (show rV z = some (.held z, []) from rfl) hkey
  refine ⟨v, _, hrun, fun hh => ?_, fun hh => ?_⟩
  · have hv' : DataW.held v = (DataW.map es).atKey kl (.held z) := by
      have := congrArg (fun o => o.map Prod.fst) hv
      simpa [rV] using this
    rw [Maps.has_eq, List.any_eq_true] at hh
    obtain ⟨p, hp, hps⟩ := hh
    cases hf : es.find? (fun p => p.1.sameKey kl) with
    | none => exact absurd hps (by have := List.find?_eq_none.1 hf p hp; simpa using this)
    | some q =>
      have hq := List.mem_of_find?_eq_some hf
      have hqs := List.find?_some hf
      have e1 : (DataW.map es).atKey kl (.held z) = q.2 := by simp [DataW.atKey, hf]
      obtain ⟨x, u, h1, h2, h3⟩ := r q hq
      rw [find_same hqs] at h1
      have hx := K.inj h1 hkey
      subst hx
      rw [e1, h3] at hv'
      cases hv'
      exact h2
  · have := Maps.atKey_of_not_has hh (.held z)
    have hv' := congrArg (fun o => o.map Prod.fst) hv
    rw [this] at hv'
    simpa [rV] using hv'
/-- The same look-up, in every world with this map. -/
theorem TabP.look_all (h : TabP P k Good w b) (K : Keyed P k) (ht : P.underlying t = some (.map k e)) {z : Value} (hz : ∀ W : World, (zeroValue e).run P W = .ok z W) {key : Value} {kl : Lit} (hkey : keyOf P k key = some kl) :
    ∃ v is, (∀ W : World, W.heap[b]? = w.heap[b]? → (Instr.lookup t (.map (some b)) key true).run P W = .ok (.tuple #[v, .bool is]) W) ∧ (is = true → Good key v) ∧ (is = false → v = z) := by
  obtain ⟨es, h', r⟩ := h
  have hT : TabP P k Good w b := ⟨es, h', r⟩
  obtain ⟨v, ps, hrun, hv⟩ := h'.look_ok K ht (hz w) (show rV z = some (.held z, []) from rfl) hkey
  obtain ⟨v2, is2, hrun2, g1, g2⟩ := hT.look K ht (hz w) hkey
  rw [hrun] at hrun2
  simp only [Result.ok.injEq, Value.tuple.injEq, Array.mk.injEq, List.cons.injEq, Value.bool.injEq, and_true] at hrun2
  obtain ⟨rfl, rfl⟩ := hrun2
  refine ⟨v, _, fun W hW => ?_, g1, g2⟩
  have hW' : W.ownsMap P k rV b es.length (.map es) := by
    obtain ⟨ms, clock, hb, rest⟩ := h'
    exact ⟨ms, clock, hW.trans hb, rest⟩
  obtain ⟨v3, ps3, hrun3, hv3⟩ := hW'.look_ok K ht (hz W) (show rV z = some (.held z, []) from rfl) hkey
  have e1 := congrArg (fun o => o.map Prod.fst) hv
  have e2 := congrArg (fun o => o.map Prod.fst) hv3
  simp only [rV, Option.map_some, Option.some.injEq] at e1 e2
  rw [← e1] at e2
  cases e2
  exact hrun3
/-- m[k] = v. -/
theorem TabP.store (h : TabP P k Good w b) (K : Keyed P k) (ht : P.underlying t = some (.map k e)) (cap : List Value) (hc : ∀ x u, Good x u → x ∈ cap) (hcap : cap.length < maxLen) {key val : Value} {kl : Lit} (hkey : keyOf P k key = some kl) (hg : Good key val) :
    ∃ w', (Instr.mapUpdate t (.map (some b)) key val).run P w = .ok () w' ∧ TabP P k Good w' b ∧ w.grownBy w' (some b) := by
  obtain ⟨es, h, r, hle⟩ := h.few K cap hc
  obtain ⟨w', hrun, hown, hgrow⟩ := h.update K ht (by omega) hkey (show rV val = some (.held val, []) from rfl)
  have e1 : (DataW.map es).put kl (.held val) = .map (Go.ChangeMaps.putKey kl (.held val) es) := rfl
  rw [e1] at hown
  refine ⟨w', hrun, ⟨_, ownsMap_tight hown, fun p hp => ?_⟩, hgrow⟩
  unfold Go.ChangeMaps.putKey at hp
  rcases Go.ChangeMaps.mem_insert_iff.1 hp with rfl | hp
  · exact ⟨key, val, hkey, hg, rfl⟩
  · exact r p (List.mem_filter.1 hp).1
end
section
variable {P : Program} {ops : Array Oper} {rest : List Oper} {o : Oper} {a : Act} {Q : Exit → Act → World → Prop}
theorem wpList_tab_look (w : World) (hg : o.guard = none) (m x : Operand) (t : TypeId) (hop : o.op = Op.lookup t m x true) (k e : TypeId) (K : Keyed P k) (ht : P.underlying t = some (.map k e)) (Good : Value → Value → Prop) {z : Value} (hz : (zeroValue e).run P w = .ok z w) (b : Nat)
    (hm : a.eval m = .map (some b)) (h : TabP P k Good w b) (key : Value) (kl : Lit) (hx : a.eval x = key) (hkey : keyOf P k key = some kl)
    (hK : ∀ v is, (is = true → Good key v) → (is = false → v = z) → wpList P ops Q rest (a.put o.dst (.tuple #[v, .bool is])) w) :
    wpList P ops Q (o :: rest) a w := by
  refine wpList_plain hg fun K' hK' => ?_
  obtain ⟨v, is, hrun, h1, h2⟩ := h.look K ht hz hkey
  unfold Oper.wp
  simp [execOp, hop, hm, hx, hrun, Result.andThen]
  exact hK' _ _ (hK v is h1 h2)
theorem wpList_tab_store (w : World) (hg : o.guard = none) (m x v : Operand) (t : TypeId) (hop : o.op = Op.mapUpdate t m x v) (k e : TypeId) (K : Keyed P k) (ht : P.underlying t = some (.map k e)) (Good : Value → Value → Prop) (b : Nat)
    (hm : a.eval m = .map (some b)) (h : TabP P k Good w b) (cap : List Value) (hc : ∀ x u, Good x u → x ∈ cap) (hcap : cap.length < maxLen) (key val : Value) (kl : Lit) (hx : a.eval x = key) (hv : a.eval v = val) (hkey : keyOf P k key = some kl) (hgd : Good key val)
    (hK : ∀ w', TabP P k Good w' b → w.grownBy w' (some b) → wpList P ops Q rest (a.put o.dst undef) w') :
    wpList P ops Q (o :: rest) a w := by
  refine wpList_plain hg fun K' hK' => ?_
  obtain ⟨w', hrun, h1, h2⟩ := h.store K ht cap hc hcap hkey hgd
  unfold Oper.wp
  simp [execOp, hop, hm, hx, hv, hrun, Result.andThen]
  exact hK' _ _ (hK w' h1 h2)
end
end Go.Proofs.Ytepibjfmeibgcaa
