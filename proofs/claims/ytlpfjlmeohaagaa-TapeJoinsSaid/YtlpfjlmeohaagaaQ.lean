/- The row of TapeJoins, part Q: what is read as a slice of pieces is a row of pieces. -/
import Derived.Test.YtlpfjlmeohaagaaP
import Derived.Deep.Slices
import Derived.ProofKit
namespace Go.Proofs.Ytlpfjlmeohaagaa
open Go.RowKit Go.Shelf Go.ChangeShapes Go.WideShapes Go.Deep Go.Proofs.Ytlpfjlmeohaagaa.PTapeJoins Go.Proofs.YtlpfjlmeohaagaaW.PrintWords
set_option linter.unusedVariables false
set_option linter.unusedSimpArgs false

section
variable {H : Type} {enc : TypeId × Value → H} {W : World} {base : Nat} {spare : Nat → Bool} {held : Bool}

theorem cells42 : Try.prog.cellsOf 42 = 2 := by kernel_rfl
theorem cells30 : Try.prog.cellsOf 30 = 4 := by kernel_rfl
theorem cells32 : Try.prog.cellsOf 32 = 6 := by kernel_rfl
theorem cells3 : Try.prog.cellsOf 3 = 1 := by kernel_rfl
theorem cells25 : Try.prog.cellsOf 25 = 1 := by kernel_rfl
theorem cells26 : Try.prog.cellsOf 26 = 1 := by kernel_rfl
theorem cells27 : Try.prog.cellsOf 27 = 1 := by kernel_rfl
theorem cells28 : Try.prog.cellsOf 28 = 1 := by kernel_rfl

theorem trod42 {n : Nat} {cs : List Value} {x : DataW H × List MemPlace} (h : DataW.trod enc Try.prog W base spare held n 42 cs = some x) : ∃ y : S42, k42.K W y cs := by
  obtain ⟨xs, m, _, _, hl, hx, hf⟩ := DataW.trod_struct Try.underlying42 h
  rw [cells42] at hl
  match cs, hl with
  | [c0, c1], _ =>
    match xs, hx with
    | [x0, x1], _ =>
      have h0 := hf 0 _ rfl
      have h1 := hf 1 _ rfl
      simp [cells3] at h0 h1
      obtain ⟨a, ha, _⟩ := DataW.trod_int Try.underlying3 h0
      obtain ⟨b, hb, _⟩ := DataW.trod_int Try.underlying3 h1
      injection ha with ha
      injection hb with hb
      subst ha hb
      exact ⟨⟨a, b⟩, k42_mk W ⟨a, b⟩⟩

/-- A slice that is read: a row. -/
theorem openRow {α : Type} [Inhabited α] {d : Kd α} {t e : TypeId} {n : Nat} {cs : List Value} {x : DataW H × List MemPlace} (ht : Try.prog.underlying t = some (.slice e)) (hsz : Try.prog.cellsOf e = d.sz)
    (hel : ∀ (m : Nat) (cs' : List Value) (y : DataW H × List MemPlace), DataW.trod enc Try.prog W base spare held m e cs' = some y → ∃ z : α, d.K W z cs')
    (h : DataW.trod enc Try.prog W base spare held n t cs = some x) : ∃ A c, ∃ zs : List α, cs = [.slice A zs.length c] ∧ zs.length ≤ c ∧ d.C W A zs.length zs := by
  rcases open_slice ht h with ⟨rfl, _⟩ | ⟨a, len, cap, m, n', D, Pl, rfl, hb, hl, hm, hmm, _, hall⟩
  · exact ⟨none, 0, [], rfl, Nat.le_refl _, Kd.C_nil _ _⟩
  · have hlm : len ≤ m := by rw [hmm]; split <;> omega
    have hpick : ∀ i, i < len → ∃ z : α, ∃ c : List Value, c.length = d.sz ∧ d.K W z c ∧ ∀ j u, c[j]? = some u → W.cell? (a.add (i * d.sz + j)) = some u := by
      intro i hi
      obtain ⟨cs', hc, ht'⟩ := hall i (Nat.lt_of_lt_of_le hi hlm)
      obtain ⟨z, hz⟩ := hel _ _ _ ht'
      obtain ⟨_, hlen, hcell⟩ := World.cells?_some hc
      rw [hsz] at hlen hcell
      refine ⟨z, cs', hlen, hz, fun j u hj => ?_⟩
      have hjl : j < cs'.length := (List.getElem?_eq_some_iff.1 hj).1
      have := hcell j (by omega)
      rw [hj, Deep.add_add] at this
      exact this
    obtain ⟨f, hf⟩ := choose_lt hpick
    refine ⟨some a, cap, (List.range len).map f, by simp, by simpa using hl, ?_⟩
    rw [List.length_map, List.length_range]
    refine ⟨by simp, Nat.le_trans hl (Nat.le_trans hm (by decide)), fun _ => ⟨a, rfl, fun j p hj => ?_⟩⟩
    have hjl : j < len := by have := (List.getElem?_eq_some_iff.1 hj).1; simpa using this
    have : f j = p := by simpa [hjl] using hj
    subst this
    exact hf j hjl

theorem trod30 {n : Nat} {cs : List Value} {x : DataW H × List MemPlace} (h : DataW.trod enc Try.prog W base spare held n 30 cs = some x) : ∃ y : S30, k30.K W y cs := by
  obtain ⟨xs, m, _, _, hl, hx, hf⟩ := DataW.trod_struct Try.underlying30 h
  rw [cells30] at hl
  match cs, hl with
  | [c0, c1, c2, c3], _ =>
    match xs, hx with
    | [x0, x1, x2, x3], _ =>
      have h0 := hf 0 _ rfl
      have h1 := hf 1 _ rfl
      have h2 := hf 2 _ rfl
      have h3 := hf 3 _ rfl
      simp [cells3, cells27, cells28] at h0 h1 h2 h3
      obtain ⟨a, ha, _⟩ := DataW.trod_int Try.underlying27 h0
      obtain ⟨b, hb, _⟩ := DataW.trod_int Try.underlying28 h1
      obtain ⟨c, hc, _⟩ := DataW.trod_int Try.underlying3 h2
      obtain ⟨d, hd, _⟩ := DataW.trod_int Try.underlying3 h3
      injection ha with ha
      injection hb with hb
      injection hc with hc
      injection hd with hd
      subst ha hb hc hd
      exact ⟨⟨a, b, c, d⟩, k30_mk W ⟨a, b, c, d⟩⟩

instance : Inhabited S42 := ⟨⟨0, 0⟩⟩
instance : Inhabited S32 := ⟨z32⟩

theorem trod32 {n : Nat} {cs : List Value} {x : DataW H × List MemPlace} (h : DataW.trod enc Try.prog W base spare held n 32 cs = some x) : ∃ y : S32, k32.K W y cs := by
  obtain ⟨xs, m, _, _, hl, hx, hf⟩ := DataW.trod_struct Try.underlying32 h
  rw [cells32] at hl
  match cs, hl with
  | [c0, c1, c2, c3, c4, c5], _ =>
    match xs, hx with
    | [x0, x1, x2], _ =>
      have h0 := hf 0 _ rfl
      have h1 := hf 1 _ rfl
      have h2 := hf 2 _ rfl
      simp [cells25, cells26, cells30] at h0 h1 h2
      obtain ⟨a, ha, _⟩ := DataW.trod_int Try.underlying25 h0
      obtain ⟨A, c, zs, hz, hle, hC⟩ := openRow (d := k42) Try.underlying26 cells42 (fun _ _ _ h => trod42 h) h1
      obtain ⟨o, ho⟩ := trod30 h2
      have := k30_open ho
      injection ha with ha
      injection hz with hz
      subst ha hz
      simp at this
      obtain ⟨rfl, rfl, rfl, rfl⟩ := this
      exact ⟨⟨a, zs, o⟩, k32_mk W ⟨a, zs, o⟩ hle hC⟩
end
end Go.Proofs.Ytlpfjlmeohaagaa
