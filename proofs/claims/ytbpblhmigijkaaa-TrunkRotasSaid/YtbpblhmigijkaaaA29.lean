/- An abstract walk: a contract that only reads, told of values; for shells. No program is in sight here. -/
import Derived.Test.YtbpblhmigijkaaaA26
namespace Go.Proofs.Ytbpblhmigijkaaa
open Go.RowKit
set_option linter.unusedVariables false
def AllRo (ν : Nat → Value) (w : World) : List Nat → List (Option Cn) → Prop
 | id :: ids, some c :: cs => (c.owned = false ∧ c.holds ν w (fun b => 0 ≤ b ∧ b < w.heap.size) (ν id)) ∧ AllRo ν w ids cs
 | [], [] => True
 | _, _ => False
theorem AllRo.at_ {ν : Nat → Value} {w : World} {id : Nat} {c : Cn} : ∀ {ids : List Nat} {cs : List (Option Cn)}, AllRo ν w ids cs → cnOf ids cs id = some c → c.owned = false ∧ c.holds ν w (fun b => 0 ≤ b ∧ b < w.heap.size) (ν id) := by
 intro ids
 induction ids with
 | nil => intro cs _ h; cases h
 | cons i ids ih =>
  intro cs h e
  match cs, h with
  | some d :: cs, h =>
   unfold AllRo at h
   unfold cnOf at e
   rw [List.zip_cons_cons] at e
   unfold look at e
   cases hb : Nat.beq i id with
   | true =>
    simp only [hb] at e
    cases e
    rw [← Nat.eq_of_beq_eq_true hb]
    exact h.1
   | false =>
    simp only [hb] at e
    exact ih h.2 (by unfold cnOf; exact e)
theorem calls_of_fr {P : Program} {f : FuncId} {xs : List SV} {ids : List Nat} {cs : List (Option Cn)} {res : SV} (h : CallFr P f xs ids cs res []) (ν : Nat → Value) (w : World) (hone : ∀ id, (ν id).oneCell' = true) (hc : AllRo ν w ids cs) :
  Calls P f (xs.map (SV.val ν)).toArray w fun e w' => (∃ ν', e = .returned (res.val ν')) ∧ Below w.heap.size w w' :=
 (h ν (fun _ b => 0 ≤ b ∧ b < w.heap.size) w
  {one := hone
   cont := fun id c e => (hc.at_ e).2
   supLt := fun id c _ b hb => hb.2
   ownSup := fun id c e ho => by rw [(hc.at_ e).1] at ho; cases ho
   ownOwn := fun id c e ho => by rw [(hc.at_ e).1] at ho; cases ho }).mono fun e w' ⟨ν', sup', hch, _, he⟩ =>
  ⟨⟨ν', he⟩, hch.fr.toBelow fun k ⟨_, _, hm, _⟩ => by cases hm⟩
def nuL (vs : List Value) (id : Nat) : Value := vs.getD (id - 1) (.bool false)
theorem nuL_one {vs : List Value} (h : ∀ v ∈ vs, v.oneCell' = true) (id : Nat) : (nuL vs id).oneCell' = true := by
 unfold nuL
 rw [List.getD_eq_getElem?_getD]
 rcases Nat.lt_or_ge (id - 1) vs.length with h1 | h1
 ·rw [List.getElem?_eq_getElem h1]; exact h _ (List.getElem_mem _)
 ·rw [List.getElem?_eq_none h1]; rfl
theorem ro_cells {α : Type} [Inhabited α] {enc : α → List DV} {xs : List α} {w : World} {ν : Nat → Value} {A : Option Addr} {c size : Nat} (hc : xs.length ≤ c) (hs : ∀ x, (enc x).length = size)
  (h : 0 < xs.length → ∃ b off, A = some ⟨b, off, none⟩ ∧ b < w.heap.size ∧ ∀ i, i < xs.length → ∀ j, j < size → ∃ u, (enc (ix xs i)).getD j default = .v u ∧ u.oneCell' = true ∧ w.cell? ⟨b, off + i * size + j, none⟩ = some u) :
  (Cn.ro size xs.length (Lst enc xs)).owned = false ∧ (Cn.ro size xs.length (Lst enc xs)).holds ν w (fun b => 0 ≤ b ∧ b < w.heap.size) (.slice A xs.length c) := by
 refine ⟨rfl, A, c, rfl, hc, fun hp => ?_⟩
 obtain ⟨b, off, e, hb, hcell⟩ := h hp
 refine ⟨b, off, e, ⟨Nat.zero_le _, hb⟩, fun i hi j hj => ?_⟩
 obtain ⟨u, h1, h2, h3⟩ := hcell i hi j hj
 refine ⟨u, h3, ?_⟩
 unfold Lst
 rw [h1]
 exact ⟨rfl, h2⟩
end Go.Proofs.Ytbpblhmigijkaaa
