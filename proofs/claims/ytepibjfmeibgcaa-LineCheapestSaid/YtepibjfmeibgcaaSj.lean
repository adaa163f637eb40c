/- Arguments opened: slices of small ints, Truths. -/
import Derived.Test.YtepibjfmeibgcaaSo
import Derived.Test.YtepibjfmeibgcaaTy
namespace Go.Proofs.Ytepibjfmeibgcaa
open Go.RowKit Go.ChangeShapes Go.WideShapes Go.Deep Go.Joins
section
variable {H : Type} {enc : TypeId × Value → H} {w : World} {base : Nat} {spare : Nat → Bool} {held : Bool}
/-- What a cell holds, if it is an int of any kind. -/
def decN (w : World) (b o : Nat) : Int := match w.cell? ⟨b, o, none⟩ with | some (.int _ n) => n | _ => 0
theorem rd_small {k : IntKind} {t e : TypeId} (hs : Try.prog.underlying t = some (.slice e)) (he : Try.prog.underlying e = some (.int k)) (hC : Try.prog.cellsOf e = 1) {fuel : Nat} {cs : List Value} {x : DataW H × List MemPlace} (h : DataW.trod enc Try.prog w base spare held fuel t cs = some x) :
    ∃ (A : Option Addr) (xs : List Int) (c : Nat), cs = [.slice A xs.length c] ∧ xs.length ≤ c ∧ c ≤ maxLen ∧ Rd (fun x => [Value.int k x]) 1 w 0 w.heap.size A xs ∧ ∀ x ∈ xs, (Lit.int k x).wf = true := by
  rcases open_slice hs h with ⟨h0, _⟩ | ⟨a, len, cap, m, n, D, Pl, hcs, hb, hl, hm, hmm, hx, hi⟩
  · exact ⟨none, [], 0, h0, Nat.zero_le _, Nat.zero_le _, Rd.nil, fun x hx => by cases hx⟩
  · have key : ∀ i, i < len → ∃ q, w.cell? (a.add i) = some (.int k q) ∧ (Lit.int k q).wf = true := fun i hil => by
      obtain ⟨cs', hc, ht'⟩ := hi i (by rw [hmm]; split <;> omega)
      obtain ⟨q, e0, _, hw⟩ := DataW.trod_int he ht'
      rw [hC, Nat.mul_one] at hc
      obtain ⟨_, hcl, hat⟩ := World.cells?_some hc
      refine ⟨q, ?_, hw⟩
      have h2 := hat 0 (by omega)
      rw [e0, Go.Deep.add_add, Nat.add_zero] at h2
      exact h2
    rcases Nat.eq_zero_or_pos len with rfl | hp
    · exact ⟨some a, [], cap, hcs, Nat.zero_le _, hm, Rd.nil, fun x hx => by cases hx⟩
    · obtain ⟨b, off, spot⟩ := a
      obtain ⟨q, hq, _⟩ := key 0 hp
      have hspot : spot = none := by simpa [Addr.add] using World.cell?_spot hq
      subst hspot
      have hbl : b < w.heap.size := by have := World.block_lt_of_cell? w _ hq; simpa [Addr.add] using this
      have key2 : ∀ i, i < len → w.cell? ⟨b, off + i, none⟩ = some (.int k (decN w b (off + i))) ∧ (Lit.int k (decN w b (off + i))).wf = true := fun i hil => by
        obtain ⟨q, hq, hw⟩ := key i hil
        have e : ((⟨b, off, none⟩ : Addr).add i) = ⟨b, off + i, none⟩ := by
          unfold Addr.add; split
          · rename_i h0; rw [show off + i = off by omega]
          · rfl
        rw [e] at hq
        have hd : decN w b (off + i) = q := by unfold decN; rw [hq]
        rw [hd]
        exact ⟨hq, hw⟩
      refine ⟨some ⟨b, off, none⟩, (List.range len).map (fun i => decN w b (off + i)), cap, by simpa using hcs, by simpa using hl, hm, fun _ => ⟨b, off, rfl, Nat.zero_le _, hbl, fun i y hy j u hu => ?_⟩, fun x hx => ?_⟩
      · rw [List.getElem?_map] at hy
        have hil : i < len := by
          rcases Nat.lt_or_ge i len with h | h
          · exact h
          · rw [List.getElem?_eq_none (by simpa using h)] at hy; cases hy
        rw [List.getElem?_range hil] at hy
        cases hy
        match j, hu with
        | 0, hu =>
          simp at hu
          subst hu
          simpa using (key2 i hil).1
      · obtain ⟨i, hi', rfl⟩ := List.mem_map.1 hx
        exact (key2 i (List.mem_range.1 hi')).2
theorem wf_byte {n : Int} (h : (Lit.int .u8 n).wf = true) : 0 ≤ n ∧ n ≤ 255 := by
  simp [Lit.wf, IntKind.min, IntKind.max, IntKind.signed, IntKind.bits] at h
  omega
theorem wf_word {n : Int} (h : (Lit.int .u16 n).wf = true) : 0 ≤ n ∧ n ≤ 65535 := by
  simp [Lit.wf, IntKind.min, IntKind.max, IntKind.signed, IntKind.bits] at h
  omega
/-- Bytes. -/
def enc8 (x : Int) : List Value := [.int .u8 x]
abbrev Rd8 (w : World) (lo hi : Nat) (A : Option Addr) (xs : List Int) : Prop := Rd enc8 1 w lo hi A xs
theorem Rd8.at_ {w : World} {lo hi : Nat} {A : Option Addr} {xs : List Int} {k : Nat} (h : Rd8 w lo hi A xs) (hk : k < xs.length) : ∃ b off, A = some ⟨b, off, none⟩ ∧ lo ≤ b ∧ b < hi ∧ w.cell? ⟨b, off + k, none⟩ = some (.int .u8 xs[k]) := by
  obtain ⟨b, off, e, h1, h2, hc⟩ := Rd.at_ h hk
  have := hc 0 (.int .u8 xs[k]) rfl
  simp only [Nat.mul_one, Nat.add_zero] at this
  exact ⟨b, off, e, h1, h2, this⟩
set_option maxRecDepth 100000 in
theorem open_truths {r : Reach} {b0 : Nat} {v : Value} {d : DataW H} {p : List MemPlace} (hv : Value.okWide Try.prog w r b0 76 v) (h : DataW.Trod enc Try.prog w base spare held 76 v d p) :
    ∃ (Z U : Option Addr) (zs pk : List Int) (cz cu : Nat), v = .agg #[.slice Z zs.length cz, .slice U pk.length cu] ∧ zs.length ≤ cz ∧ cz ≤ maxLen ∧ pk.length ≤ cu ∧ cu ≤ maxLen ∧ Rd8 w 0 w.heap.size Z zs ∧ RdU w 0 w.heap.size U pk ∧ (∀ x ∈ zs, 0 ≤ x ∧ x ≤ 255) ∧ ∀ x ∈ pk, 0 ≤ x ∧ x ≤ 65535 := by
  obtain ⟨c0, c1, y0, y1, m, rfl, _, _, hy0, hy1⟩ := open_agg2 Try.underlying76 (by kernel_rfl) (by kernel_rfl) hv h
  obtain ⟨Z, zs, cz, e0, h1, h2, h3, h4⟩ := rd_small Try.underlying73 Try.underlying5 (by kernel_rfl) hy0
  obtain ⟨U, pk, cu, e1, h5, h6, h7, h8⟩ := rd_small Try.underlying74 Try.underlying41 (by kernel_rfl) hy1
  simp only [List.cons.injEq, and_true] at e0 e1
  subst e0 e1
  exact ⟨Z, U, zs, pk, cz, cu, rfl, h1, h2, h5, h6, h3, h7, fun x hx => wf_byte (h4 x hx), fun x hx => wf_word (h8 x hx)⟩
end
end Go.Proofs.Ytepibjfmeibgcaa
