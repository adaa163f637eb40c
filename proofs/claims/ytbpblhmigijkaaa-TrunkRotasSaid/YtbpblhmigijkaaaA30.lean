/- Arguments opened by the shape of their type: cells of ints, bools and lists. No program is in sight here. -/
import Derived.OpenShut
import Derived.Deep.Slices
import Derived.Test.YtbpblhmigijkaaaA29
namespace Go.Proofs.Ytbpblhmigijkaaa
open Go.RowKit Go.ChangeShapes Go.WideShapes Go.Deep
set_option linter.unusedVariables false
inductive CK where
 | int (k : IntKind)
 | bool
 | lst (el : List CK)
def CellOk (w : World) : Nat → CK → Value → Prop
 | 0, _, _ => False
 | n + 1, .int k, u => ∃ z, u = .int k z ∧ (Lit.int k z).wf = true
 | n + 1, .bool, u => ∃ b, u = .bool b
 | n + 1, .lst el, u => ∃ A len cap, u = .slice A len cap ∧ len ≤ cap ∧ cap ≤ maxLen ∧ (0 < len → ∃ b off, A = some ⟨b, off, none⟩ ∧ b < w.heap.size ∧
   ∀ i, i < len → ∃ cs : List Value, cs.length = el.length ∧ (∀ j, j < el.length → w.cell? ⟨b, off + i * el.length + j, none⟩ = cs[j]?) ∧ ∀ (j : Nat) k u, el[j]? = some k → cs[j]? = some u → CellOk w n k u)
def RowOk (w : World) (n : Nat) (ks : List CK) (cs : List Value) : Prop := cs.length = ks.length ∧ ∀ (j : Nat) k u, ks[j]? = some k → cs[j]? = some u → CellOk w n k u
def shapeF (P : Program) (sh : TypeId → Option (List CK)) : List Field → Nat → Option (List CK)
 | [], _ => some []
 | f :: fs, off => match sh f.type, shapeF P sh fs (off + P.cellsOf f.type) with
  | some el, some r => match Nat.beq f.offset off, Nat.beq el.length (P.cellsOf f.type) with
   | true, true => some (el ++ r)
   | _, _ => none
  | _, _ => none
def shapeT (P : Program) : Nat → TypeId → Option (List CK)
 | 0, _ => none
 | n + 1, t => match P.underlying t with
  | some (.int k) => some [.int k]
  | some .bool => some [.bool]
  | some (.slice e) => match shapeT P n e with
   | some el => match Nat.beq el.length (P.cellsOf e), Nat.blt 0 el.length with
    | true, true => some [.lst el]
    | _, _ => none
   | none => none
  | some (.array m e) => match shapeT P n e with
   | some el => match Nat.beq el.length (P.cellsOf e), Nat.beq (m * el.length) (P.cellsOf t) with
    | true, true => some (rep m el)
    | _, _ => none
   | none => none
  | some (.struct fs) => match shapeF P (shapeT P n) fs.toList 0 with
   | some ks => match Nat.beq ks.length (P.cellsOf t) with
    | true => some ks
    | false => none
   | none => none
  | _ => none
theorem CellOk.mono {w : World} : ∀ {n m : Nat} {k : CK} {u : Value}, n ≤ m → CellOk w n k u → CellOk w m k u := by
 intro n
 induction n with
 | zero => intro m k u _ h; cases k <;> exact h.elim
 | succ n ih =>
  intro m k u hm h
  obtain ⟨p, rfl⟩ : ∃ p, m = p + 1 := ⟨m - 1, by omega⟩
  cases k with
  | int k => exact h
  | bool => exact h
  | lst el =>
   obtain ⟨A, len, cap, e, h1, h2, h3⟩ := h
   refine ⟨A, len, cap, e, h1, h2, fun hp => ?_⟩
   obtain ⟨b, off, e2, hb, hc⟩ := h3 hp
   refine ⟨b, off, e2, hb, fun i hi => ?_⟩
   obtain ⟨cs, q1, q2, q3⟩ := hc i hi
   exact ⟨cs, q1, q2, fun j k u a b => ih (by omega) (q3 j k u a b)⟩
section
variable {H : Type} {enc : TypeId × Value → H} {P : Program} {w : World} {base : Nat} {spare : Nat → Bool} {held : Bool}
theorem rep_get2 {α : Type} {l : List α} {s : Nat} (hl : l.length = s) : ∀ {m j : Nat}, j < m * s → (rep m l)[j]? = l[j % s]? ∧ j / s < m := by
 intro m
 induction m with
 | zero => intro j h; omega
 | succ m ih =>
  intro j h
  have hs : 0 < s := Nat.pos_of_ne_zero fun e => by subst e; omega
  rw [Nat.succ_mul] at h
  by_cases hj : j < s
  ·simp only [rep]
   rw [List.getElem?_append_left (by omega), Nat.mod_eq_of_lt hj, Nat.div_eq_of_lt hj]
   exact ⟨rfl, by omega⟩
  ·have := ih (j := j - s) (by omega)
   simp only [rep]
   rw [List.getElem?_append_right (by omega), hl, this.1, ← Nat.mod_eq_sub_mod (by omega)]
   refine ⟨rfl, ?_⟩
   have e : j / s = (j - s) / s + 1 := by
    rw [← Nat.add_div_right _ hs, Nat.sub_add_cancel (by omega)]
   omega
theorem rep_len2 {α : Type} {l : List α} : ∀ {m : Nat}, (rep m l).length = m * l.length := by
 intro m
 induction m with
 | zero => simp [rep]
 | succ m ih => simp only [rep, List.length_append, ih, Nat.succ_mul]; omega
theorem shapeF_ok {n : Nat} {sh : TypeId → Option (List CK)} (ih : ∀ {t : TypeId} {ks : List CK}, sh t = some ks → ∀ (fuel : Nat) (cs : List Value) (x : DataW H × List MemPlace), DataW.trod enc P w base spare held fuel t cs = some x → ∀ (j : Nat) k u, ks[j]? = some k → cs[j]? = some u → CellOk w n k u) {cs : List Value} :
  ∀ {fs : List Field} {off : Nat} {ks : List CK}, shapeF P sh fs off = some ks → (∀ f, f ∈ fs → ∃ (fuel : Nat) (y : DataW H × List MemPlace), DataW.trod enc P w base spare held fuel f.type ((cs.drop f.offset).take (P.cellsOf f.type)) = some y) → ∀ {j : Nat} {k : CK} {u : Value}, ks[j]? = some k → cs[off + j]? = some u → CellOk w n k u := by
 intro fs
 induction fs with
 | nil => intro off ks h _ j k u h1 _; cases h; simp at h1
 | cons f fs ihf =>
  intro off ks h hf j k u h1 h2
  unfold shapeF at h
  split at h
  ·rename_i el r hel hr
   split at h
   ·rename_i ho hb
    cases h
    have ho := Nat.eq_of_beq_eq_true ho
    have hb := Nat.eq_of_beq_eq_true hb
    by_cases hj : j < el.length
    ·rw [List.getElem?_append_left hj] at h1
     obtain ⟨fuel, y, hy⟩ := hf f List.mem_cons_self
     refine ih hel fuel _ _ hy j k u h1 ?_
     rw [List.getElem?_take, if_pos (by omega), List.getElem?_drop, ho]
     exact h2
    ·rw [List.getElem?_append_right (by omega)] at h1
     refine ihf hr (fun g hg => hf g (List.mem_cons_of_mem _ hg)) h1 ?_
     rw [← hb, show off + el.length + (j - el.length) = off + j by omega]
     exact h2
   ·cases h
  ·cases h
theorem trod_shape : ∀ {n : Nat} {t : TypeId} {ks : List CK}, shapeT P n t = some ks → ∀ {fuel : Nat} {cs : List Value} {x : DataW H × List MemPlace}, DataW.trod enc P w base spare held fuel t cs = some x → RowOk w n ks cs := by
 intro n
 induction n with
 | zero => intro t ks h; cases h
 | succ n ih =>
  intro t ks h fuel cs x hx
  unfold shapeT at h
  split at h
  ·rename_i k hu
   cases h
   obtain ⟨z, rfl, _, hw⟩ := DataW.trod_int hu hx
   refine ⟨rfl, fun j k' u h1 h2 => ?_⟩
   match j, h1, h2 with
   | 0, h1, h2 => cases h1; cases h2; exact ⟨z, rfl, hw⟩
  ·rename_i hu
   cases h
   obtain ⟨b, rfl, _⟩ := DataW.trod_bool hu hx
   refine ⟨rfl, fun j k' u h1 h2 => ?_⟩
   match j, h1, h2 with
   | 0, h1, h2 => cases h1; cases h2; exact ⟨b, rfl⟩
  ·rename_i e hu
   split at h
   ·rename_i el hel
    split at h
    ·rename_i hb hpos
     cases h
     have hb := Nat.eq_of_beq_eq_true hb
     have hpos := Nat.le_of_ble_eq_true hpos
     rcases open_slice hu hx with ⟨rfl, _⟩ | ⟨a, len, cap, m, nn, D, Pl, rfl, _, hl, hm, hmm, _, hi⟩
     ·refine ⟨rfl, fun j k' u h1 h2 => ?_⟩
      match j, h1, h2 with
      | 0, h1, h2 => cases h1; cases h2; exact ⟨none, 0, 0, rfl, Nat.le_refl _, Nat.zero_le _, fun h => absurd h (by omega)⟩
     ·refine ⟨rfl, fun j k' u h1 h2 => ?_⟩
      match j, h1, h2 with
      | 0, h1, h2 =>
       cases h1; cases h2
       refine ⟨some a, len, cap, rfl, hl, hm, fun hp => ?_⟩
       have key : ∀ i, i < len → ∃ cs' : List Value, cs'.length = el.length ∧ (∀ j, j < el.length → w.cell? ((a.add (i * el.length)).add j) = cs'[j]?) ∧ RowOk w n el cs' := fun i hil => by
        obtain ⟨cs', hc, ht'⟩ := hi i (by rw [hmm]; split <;> omega)
        rw [← hb] at hc
        obtain ⟨_, hcl, hat⟩ := World.cells?_some hc
        exact ⟨cs', hcl, fun j hj => hat j hj, ih hel ht'⟩
       obtain ⟨b, off, spot⟩ := a
       obtain ⟨cs0, q1, q2, _⟩ := key 0 hp
       have hk := q2 0 hpos
       rw [List.getElem?_eq_getElem (by omega)] at hk
       have hspot : spot = none := by simpa [Addr.add] using World.cell?_spot hk
       subst hspot
       refine ⟨b, off, rfl, by have := World.block_lt_of_cell? w _ hk; simpa [Addr.add] using this, fun i hil => ?_⟩
       obtain ⟨cs', q1, q2, q3⟩ := key i hil
       refine ⟨cs', q1, fun j hj => ?_, q3.2⟩
       have e : ((⟨b, off, none⟩ : Addr).add (i * el.length)).add j = ⟨b, off + i * el.length + j, none⟩ := by
        rw [Go.Deep.add_add]
        unfold Addr.add; split
        ·rename_i h0; rw [show off + i * el.length + j = off by omega]
        ·rw [Nat.add_assoc]
       rw [← e]
       exact q2 j hj
    ·cases h
   ·cases h
  ·rename_i m e hu
   split at h
   ·rename_i el hel
    split at h
    ·rename_i hb hbt
     cases h
     have hb := Nat.eq_of_beq_eq_true hb
     have hbt := Nat.eq_of_beq_eq_true hbt
     obtain ⟨xs, p, _, _, hlen, hxl, hi⟩ := DataW.trod_array hu hx
     refine ⟨by rw [hlen, ← hbt, rep_len2], fun j k' u h1 h2 => ?_⟩
     have hj : j < m * el.length := by
      have := (List.getElem?_eq_some_iff.1 h1).1
      rwa [rep_len2] at this
     obtain ⟨g1, g2⟩ := rep_get2 (l := el) rfl hj
     have h3 := hi (j / el.length) g2
     rw [List.getElem?_eq_getElem (by omega)] at h3
     obtain ⟨_, r2⟩ := ih hel h3
     have hs : 0 < el.length := Nat.pos_of_ne_zero fun e => by rw [e] at hj; omega
     refine CellOk.mono (by omega) (r2 (j % el.length) k' u (by rw [← g1]; exact h1) ?_)
     rw [← hb, List.getElem?_take, if_pos (Nat.mod_lt _ hs), List.getElem?_drop, Nat.mul_comm, Nat.div_add_mod]
     exact h2
    ·cases h
   ·cases h
  ·rename_i fs hu
   split at h
   ·rename_i ks' hks
    split at h
    ·rename_i hb
     cases h
     have hb := Nat.eq_of_beq_eq_true hb
     obtain ⟨xs, p, _, _, hlen, hxl, hf⟩ := DataW.trod_struct hu hx
     refine ⟨by rw [hlen, hb], fun j k' u h1 h2 => ?_⟩
     refine CellOk.mono (by omega) (shapeF_ok (n := n) (fun h4 _ _ _ h5 => (ih h4 h5).2) hks (fun f hfm => ?_) h1 (by rw [Nat.zero_add]; exact h2))
     obtain ⟨i, hi, rfl⟩ := List.getElem_of_mem hfm
     have := hf i _ (by rw [← Array.getElem?_toList]; exact List.getElem?_eq_getElem hi)
     have hil : i < xs.length := by rw [hxl]; simpa using hi
     rw [List.getElem?_eq_getElem hil] at this
     exact ⟨_, _, this⟩
    ·cases h
   ·cases h
  ·cases h
theorem open_st {n : Nat} {t : TypeId} {ks : List CK} {fs : Array Field} {r : Reach} {b0 : Nat} {v : Value} {d : DataW H} {p : List MemPlace} (hs : P.underlying t = some (.struct fs)) (hk : shapeT P n t = some ks) (hv : Value.okWide P w r b0 t v) (h : DataW.Trod enc P w base spare held t v d p) :
  ∃ cs : List Value, v = .agg cs.toArray ∧ RowOk w n ks cs := by
 obtain ⟨cs, rfl, _⟩ := okWide_struct hs hv
 obtain ⟨fuel, hf⟩ := h
 exact ⟨cs.toList, by simp, trod_shape hk hf⟩
def celI (w : World) (b o : Nat) : Int := match w.cell? ⟨b, o, none⟩ with | some (.int .i64 n) => n | _ => 0
theorem celI_eq {b o : Nat} {n : Int} (h : w.cell? ⟨b, o, none⟩ = some (.int .i64 n)) : w.cell? ⟨b, o, none⟩ = some (.int .i64 (celI w b o)) := by unfold celI; rw [h]
def ints (m : Nat) : List CK := List.replicate m (.int .i64)
theorem lst_ints {n m : Nat} {u : Value} (h : CellOk w (n + 1) (.lst (ints m)) u) : ∃ A len cap, u = .slice A len cap ∧ len ≤ cap ∧ cap ≤ maxLen ∧
  (0 < len → ∃ b off, A = some ⟨b, off, none⟩ ∧ b < w.heap.size ∧ ∀ i, i < len → ∀ j, j < m → w.cell? ⟨b, off + i * m + j, none⟩ = some (.int .i64 (celI w b (off + i * m + j)))) := by
 obtain ⟨A, len, cap, e, h1, h2, h3⟩ := h
 refine ⟨A, len, cap, e, h1, h2, fun hp => ?_⟩
 obtain ⟨b, off, e2, hb, hc⟩ := h3 hp
 refine ⟨b, off, e2, hb, fun i hi j hj => ?_⟩
 obtain ⟨cs, q1, q2, q3⟩ := hc i hi
 have hl : (ints m).length = m := by simp [ints]
 rw [hl] at q1 q2
 have hk : (ints m)[j]? = some (.int .i64) := by simp [ints, hj]
 have hu : cs[j]? = some cs[j] := List.getElem?_eq_getElem (by omega)
 have := q3 j _ _ hk hu
 cases n with
 | zero => exact this.elim
 | succ n =>
  obtain ⟨z, hz, _⟩ := this
  have h5 := q2 j hj
  rw [hu, hz] at h5
  exact celI_eq h5
end
end Go.Proofs.Ytbpblhmigijkaaa
