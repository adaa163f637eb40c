/- An abstract walk: a contract that only reads, told of values. -/
import Derived.Test.YtepibjfmeibgcaaB3
import Derived.Test.YtepibjfmeibgcaaSj
namespace Go.Proofs.Ytepibjfmeibgcaa
open Go.RowKit
set_option linter.unusedVariables false
/-- Lists that are read, held by values. -/
def AllRo (ν : Nat → Value) (w : World) : List Nat → List (Option Cn) → Prop
  | id :: ids, some c :: cs => (c.owned = false ∧ c.holds ν w (fun b => 0 ≤ b ∧ b < w.heap.size) (ν id)) ∧ AllRo ν w ids cs
  | [], [] => True
  | _, _ => False
theorem AllRo.at_ {ν : Nat → Value} {w : World} {id : Nat} {c : Cn} : ∀ {ids : List Nat} {cs : List (Option Cn)}, AllRo ν w ids cs → cnOf ids cs id = some c → c.owned = false ∧ c.holds ν w (fun b => 0 ≤ b ∧ b < w.heap.size) (ν id) := by
  intro ids
  induction ids with
  | nil => intro cs _ h; cases h
  | cons i ids ih =>
    intro cs h e
    match cs, h with
    | some d :: cs, h =>
      unfold AllRo at h
      unfold cnOf at e
      rw [List.zip_cons_cons] at e
      unfold look at e
      cases hb : Nat.beq i id with
      | true =>
        simp only [hb] at e
        cases e
        rw [← Nat.eq_of_beq_eq_true hb]
        exact h.1
      | false =>
        simp only [hb] at e
        exact ih h.2 (by unfold cnOf; exact e)
theorem calls_of_fr {P : Program} {f : FuncId} {xs : List SV} {ids : List Nat} {cs : List (Option Cn)} {res : SV} (h : CallFr P f xs ids cs res []) (ν : Nat → Value) (w : World) (hone : ∀ id, (ν id).oneCell' = true) (hc : AllRo ν w ids cs) :
    Calls P f (xs.map (SV.val ν)).toArray w fun e w' => (∃ ν', e = .returned (res.val ν')) ∧ Below w.heap.size w w' :=
  (h ν (fun _ b => 0 ≤ b ∧ b < w.heap.size) w
    { one := hone
      cont := fun id c e => (hc.at_ e).2
      supLt := fun id c _ b hb => hb.2
      ownSup := fun id c e ho => by rw [(hc.at_ e).1] at ho; cases ho
      ownOwn := fun id c e ho => by rw [(hc.at_ e).1] at ho; cases ho }).mono fun e w' ⟨ν', sup', hch, _, he⟩ =>
    ⟨⟨ν', he⟩, hch.fr.toBelow fun k ⟨_, _, hm, _⟩ => by cases hm⟩
/-- Values by number, from 1. -/
def nuL (vs : List Value) (id : Nat) : Value := vs.getD (id - 1) (.bool false)
theorem nuL_one {vs : List Value} (h : ∀ v ∈ vs, v.oneCell' = true) (id : Nat) : (nuL vs id).oneCell' = true := by
  unfold nuL
  rw [List.getD_eq_getElem?_getD]
  rcases Nat.lt_or_ge (id - 1) vs.length with h1 | h1
  · rw [List.getElem?_eq_getElem h1]; exact h _ (List.getElem_mem _)
  · rw [List.getElem?_eq_none h1]; rfl
theorem he8 (x : Int) : eU8 x = (enc8 x).map DV.v := rfl
section
variable {w : World} {ν : Nat → Value} {A : Option Addr} {c n : Nat}
theorem ro_P {xs : List Pipe} (hn : n = xs.length) (hc : xs.length ≤ c) (h : RdP w 0 w.heap.size A xs) : (Cn.ro 5 n (Lst eP xs)).owned = false ∧ (Cn.ro 5 n (Lst eP xs)).holds ν w (fun b => 0 ≤ b ∧ b < w.heap.size) (.slice A n c) :=
  ⟨rfl, rep_of_rd heP (fun _ => rfl) (fun x u hu => by simp [encP] at hu; rcases hu with rfl | rfl | rfl | rfl | rfl <;> rfl) hn hc h⟩
theorem ro_R {xs : List Rng} (hn : n = xs.length) (hc : xs.length ≤ c) (h : RdR w 0 w.heap.size A xs) : (Cn.ro 2 n (Lst eR xs)).owned = false ∧ (Cn.ro 2 n (Lst eR xs)).holds ν w (fun b => 0 ≤ b ∧ b < w.heap.size) (.slice A n c) :=
  ⟨rfl, rep_of_rd heR (fun _ => rfl) (fun x u hu => by simp [encR] at hu; rcases hu with rfl | rfl <;> rfl) hn hc h⟩
theorem ro_I {xs : List Int} (hn : n = xs.length) (hc : xs.length ≤ c) (h : RdI w 0 w.heap.size A xs) : (Cn.ro 1 n (Lst eI xs)).owned = false ∧ (Cn.ro 1 n (Lst eI xs)).holds ν w (fun b => 0 ≤ b ∧ b < w.heap.size) (.slice A n c) :=
  ⟨rfl, rep_of_rd heI (fun _ => rfl) (fun x u hu => by simp [encI] at hu; subst hu; rfl) hn hc h⟩
theorem ro_U {xs : List Int} (hn : n = xs.length) (hc : xs.length ≤ c) (h : RdU w 0 w.heap.size A xs) : (Cn.ro 1 n (Lst eU16 xs)).owned = false ∧ (Cn.ro 1 n (Lst eU16 xs)).holds ν w (fun b => 0 ≤ b ∧ b < w.heap.size) (.slice A n c) :=
  ⟨rfl, rep_of_rd he16 (fun _ => rfl) (fun x u hu => by simp [encU] at hu; subst hu; rfl) hn hc h⟩
theorem ro_8 {xs : List Int} (hn : n = xs.length) (hc : xs.length ≤ c) (h : Rd8 w 0 w.heap.size A xs) : (Cn.ro 1 n (Lst eU8 xs)).owned = false ∧ (Cn.ro 1 n (Lst eU8 xs)).holds ν w (fun b => 0 ≤ b ∧ b < w.heap.size) (.slice A n c) :=
  ⟨rfl, rep_of_rd he8 (fun _ => rfl) (fun x u hu => by simp [enc8] at hu; subst hu; rfl) hn hc h⟩
end
end Go.Proofs.Ytepibjfmeibgcaa
