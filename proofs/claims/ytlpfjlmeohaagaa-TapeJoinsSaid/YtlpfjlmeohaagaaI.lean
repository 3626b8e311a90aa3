/- TapeJoins, part I: the reference of layer 25 answers what tape.Join answers: the plain law. -/
import Derived.Test.YtlpfjlmeohaagaaH
namespace Go.Proofs.Ytlpfjlmeohaagaa
open Go.RowKit Go.Shelf Go.Proofs.Ytlpfjlmeohaagaa.PTapeJoins Go.Proofs.YtlpfjlmeohaagaaW.PrintWords
set_option linter.unusedVariables false
set_option linter.unusedSimpArgs false

theorem ref_empty (A : Option Addr) (c : Nat) (w : World) : Calls Try.prog 7 #[.slice A 0 c] w (RefEnds w []) := by
  have hb1 : Below w.heap.size w (w.alloc (.cells #[.int .u32 0, .slice none 0 0, .int .i64 0, .int .i64 0, .int .i64 0, .int .i64 0] 32)) := (Below.refl _ w).alloc (Nat.le_refl _) _
  have HB := Lib.hid hb1
  clear hb1
  go_enter Try.func7, Try.ntmps7
  go_wp2
  have h := blk_new w (.cells #[.int .u32 0, .slice none 0 0, .int .i64 0, .int .i64 0, .int .i64 0, .int .i64 0] 32)
  refine bodyPost_ret (results7 _ w.heap.size _ _ _ _ _ _ _ _ h rfl rfl) rfl ?_
  exact ⟨none, 0, rfl, Nat.le_refl _, Kd.C_nil _ _, HB.out⟩

def psum (l : List S42) : Int := (l.map (fun x => x.f1)).sum
theorem psum_cons (x : S42) (l : List S42) : psum (x :: l) = x.f1 + psum l := by simp [psum]
theorem sum_plain (l : List S42) : ∀ (all last : Int), 0 ≤ all → all ≤ 2147483647 → okT l all last = true → sumW all l = all + psum l ∧ 0 ≤ psum l ∧ all + psum l ≤ 2147483647 := by
  induction l with
  | nil => intro all last h0 h1 _; simp [sumW, psum]; omega
  | cons x l ih =>
    intro all last h0 h1 h
    simp only [okT, Bool.and_eq_true] at h
    obtain ⟨_, h2, _, h3⟩ := h
    have h4 := wi_iff.1 h2
    have hw : wrap64 (all + x.f1) = all + x.f1 := by unfold wrap64; omega
    have := ih (all + x.f1) x.f0 (by omega) (by omega) h3
    rw [psum_cons]
    simp only [sumW, List.foldl_cons] at this ⊢
    rw [hw]
    omega
theorem refT_eq (l : List S42) : ∀ (all last m : Int) (acc : List S42), 0 ≤ all → all ≤ 2147483647 → okT l all last = true → refT l m acc = (if m + psum l ≤ 2147483647 then some (m + psum l, puts acc l) else none) ∨ 2147483647 < m := by
  induction l with
  | nil =>
    intro all last m acc _ _ _
    by_cases h : m ≤ 2147483647
    · left; simp [refT, psum, puts, h]
    · right; omega
  | cons x l ih =>
    intro all last m acc h0 h1 h
    simp only [okT, Bool.and_eq_true] at h
    obtain ⟨_, h2, _, h3⟩ := h
    have h4 := wi_iff.1 h2
    have hs := sum_plain l (all + x.f1) x.f0 (by omega) (by omega) h3
    rw [psum_cons]
    simp only [refT]
    by_cases hm : m + x.f1 ≤ 2147483647
    · rcases ih (all + x.f1) x.f0 (m + x.f1) (putL acc x.f0 x.f1) (by omega) (by omega) h3 with e | e
      · left
        rw [if_pos hm, e, show m + (x.f1 + psum l) = m + x.f1 + psum l by omega]
        rfl
      · omega
    · left
      rw [if_neg hm, if_neg (by omega)]

theorem refL_eq (ps : List S32) : ∀ (m : Int) (acc : List S42), 0 ≤ m → m ≤ 2147483647 → (∀ p, p ∈ ps → okB p = true) → refL ps m acc = joinL ps m acc := by
  induction ps with
  | nil => intro m acc _ _ _; rfl
  | cons p l ih =>
    intro m acc h0 h1 h
    have hp := h p (by simp)
    simp only [okB, Bool.and_eq_true] at hp
    have hs := sum_plain p.f1 0 (-1) (by omega) (by omega) hp.2.2
    have he := refT_eq p.f1 0 (-1) m acc (by omega) (by omega) hp.2.2
    have he : refT p.f1 m acc = if m + psum p.f1 ≤ 2147483647 then some (m + psum p.f1, puts acc p.f1) else none := by
      rcases he with he | he
      · exact he
      · omega
    simp only [refL, joinL]
    rw [he, hs.1]
    by_cases hm : m + psum p.f1 ≤ 2147483647
    · rw [if_pos hm, if_pos (by omega)]
      simp only []
      rw [ih _ _ (by omega) (by omega) (fun q hq => h q (by simp [hq])), show m + (0 + psum p.f1) = m + psum p.f1 by omega]
    · rw [if_neg hm, if_neg (by omega)]

theorem refR_eq (ps : List S32) : refR ps = joinR ps := by
  unfold refR joinR
  by_cases h : ps = []
  · rw [if_pos h, if_pos h]
  · rw [if_neg h, if_neg h]
    by_cases ha : allOk ps = true
    · rw [if_pos ha, if_pos ha]
      have hq : ∀ p, p ∈ ps → okB p = true := ?_
      · rw [refL_eq ps 0 [] (by omega) (by omega) hq]
        cases joinL ps 0 [] <;> rfl
      intro p hp
      obtain ⟨i, hi, rfl⟩ := List.mem_iff_getElem.1 hp
      have h1 := (List.all_eq_true.1 ha) i (by simpa using hi)
      simp only [pieceOk, Bool.and_eq_true] at h1
      have h2 := h1.1
      simpa [rd_T32, hi] using h2
    · rw [if_neg ha, if_neg ha]

def RefJoins (w : World) (ps : List S32) (e : Ending) (w' : World) : Prop := RefPost w (joinR ps).1 (joinR ps).2 e w'
theorem ref7 (A : Option Addr) (c : Nat) (ps : List S32) (w : World) (hC : Kd.C k32 w A ps.length ps) (hlen : ps.length ≤ 5) (hfew : ∀ i : Nat, i < ps.length → (rd_T32 ps i).f1.length ≤ 40) :
    Calls Try.prog 7 #[.slice A ps.length c] w (RefJoins w ps) := by
  have hmono : ∀ e w', RefEnds w ps e w' → RefJoins w ps e w' := fun e w' h => by
    unfold RefEnds at h
    rw [refR_eq] at h
    exact h
  by_cases h : ps = []
  · subst h
    exact (ref_empty A c w).mono hmono
  · exact (ref_some A c ps w hC (List.length_pos_iff.2 h) hlen hfew).mono hmono
end Go.Proofs.Ytlpfjlmeohaagaa
