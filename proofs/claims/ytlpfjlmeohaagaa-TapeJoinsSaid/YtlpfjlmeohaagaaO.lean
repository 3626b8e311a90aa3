/- The walks of TapeJoins, part O: known. -/
import Derived.Test.YtlpfjlmeohaagaaN
import Derived.Test.YtlpfjlmeohaagaaI
namespace Go.Proofs.Ytlpfjlmeohaagaa
open Go.RowKit Go.Shelf Go.Proofs.Ytlpfjlmeohaagaa.PTapeJoins Go.Proofs.YtlpfjlmeohaagaaW.PrintWords
set_option linter.unusedVariables false
set_option linter.unusedSimpArgs false

def pieces0 : List S32 := cutL taken0 1 3 (sumW 0 turns0) 3
theorem pieces0_eq : pieces0 = [⟨0, [⟨0, 1⟩], ⟨1, 0, 0, 0⟩⟩, ⟨0, [⟨0, 1⟩, ⟨1, 1⟩], ⟨1, 0, 0, 0⟩⟩, ⟨0, [⟨0, 1⟩], ⟨2, 0, 0, 0⟩⟩] := by kernel_rfl
theorem join0_1 : (joinR pieces0).1 = taken0 := by kernel_rfl
theorem join0_2 : (joinR pieces0).2 = 0 := by decide +kernel

theorem joins0 (w : World) (e : Ending) (w' : World) (h : JoinEnds w pieces0 e w') : JoinPost w taken0 0 e w' := by
  unfold JoinEnds at h
  rw [join0_1, join0_2] at h
  exact h

theorem join00 (w : World) (e : Ending) (w' : World) (h : JoinEnds w [] e w') : JoinPost w z32 2 e w' := h

theorem box6 {W : World} {b : Nat} {c0 c1 c2 c3 c4 c5 : Value} (h : W.heap[b]? = some (.cells #[c0, c1, c2, c3, c4, c5] 32 (0, 0))) :
    W.cell? ⟨b, 0, none⟩ = some c0 ∧ W.cell? ⟨b, 1, none⟩ = some c1 ∧ W.cell? ⟨b, 2, none⟩ = some c2 ∧ W.cell? ⟨b, 3, none⟩ = some c3 ∧ W.cell? ⟨b, 4, none⟩ = some c4 ∧ W.cell? ⟨b, 5, none⟩ = some c5 :=
  ⟨blk_cell h 0, blk_cell h 1, blk_cell h 2, blk_cell h 3, blk_cell h 4, blk_cell h 5⟩

/-- The known turns, laid. -/
theorem laid0 (w : World) : Kd.F k42 (w.alloc (.cells #[.int .i64 0, .int .i64 2, .int .i64 1, .int .i64 1, .int .i64 0, .int .i64 1] 42)) (fun k => k < w.heap.size + 1) (some ⟨w.heap.size, 0, none⟩) 3 turns0 := by
  have h : OwnT (w.alloc (.cells #[.int .i64 0, .int .i64 2, .int .i64 1, .int .i64 1, .int .i64 0, .int .i64 1] 42)) w.heap.size (.slice (some ⟨w.heap.size, 0, none⟩) 3 3) turns0 :=
    ⟨rfl, .inr ⟨w.heap.size, 3, _, rfl, Nat.le_refl _, blk_new w _, Nat.le_refl _, by decide, rfl, rfl⟩⟩
  exact Kd.R_F (Kd.R_mono (Kd.R_bound (own_R h (Nat.le_refl _))) (fun k hk => by have := hk.2.2.1; simpa using this))

set_option maxRecDepth 100000 in
set_option maxHeartbeats 2000000 in
theorem known4 (w : World) : Calls Try.prog 4 #[] w (fun e w' => e = .returned (.bool true) ∧ Below w.heap.size w w') := by
  go_enter Try.func4, Try.ntmps4
  go_wp2_with fail
  have hF1 : Kd.F k42 ((w.alloc (.cells #[.int .i64 0, .int .i64 2, .int .i64 1, .int .i64 1, .int .i64 0, .int .i64 1] 42)).alloc (.cells #[.int .u32 0, .slice (some ⟨w.heap.size, 0, none⟩) 3 3, .int .i64 2, .int .i64 0, .int .i64 0, .int .i64 0] 32)) (fun k => k < w.heap.size + 1) (some ⟨w.heap.size, 0, none⟩) 3 turns0 := Kd.F_alloc (laid0 w) _
  have hx1 := blk_new (w.alloc (.cells #[.int .i64 0, .int .i64 2, .int .i64 1, .int .i64 1, .int .i64 0, .int .i64 1] 42)) (.cells #[.int .u32 0, .slice (some ⟨w.heap.size, 0, none⟩) 3 3, .int .i64 2, .int .i64 0, .int .i64 0, .int .i64 0] 32)
  rw [World.size_alloc] at hx1
  have hb1 := ((Below.refl _ w).alloc (Nat.le_refl _) (.cells #[.int .i64 0, .int .i64 2, .int .i64 1, .int .i64 1, .int .i64 0, .int .i64 1] 42)).alloc (by simp) (.cells #[.int .u32 0, .slice (some ⟨w.heap.size, 0, none⟩) 3 3, .int .i64 2, .int .i64 0, .int .i64 0, .int .i64 0] 32)
  obtain ⟨W1, hW1⟩ : ∃ W1, (w.alloc (.cells #[.int .i64 0, .int .i64 2, .int .i64 1, .int .i64 1, .int .i64 0, .int .i64 1] 42)).alloc (.cells #[.int .u32 0, .slice (some ⟨w.heap.size, 0, none⟩) 3 3, .int .i64 2, .int .i64 0, .int .i64 0, .int .i64 0] 32) = W1 := ⟨_, rfl⟩
  have hsz : W1.heap.size = w.heap.size + 1 + 1 := by rw [← hW1]; simp
  rw [hW1] at hF1 hx1 hb1 ⊢
  clear hW1
  have HF : Hid (∀ W, Below W1.heap.size W1 W → Kd.F k42 W (fun k => k < W.heap.size) (some ⟨w.heap.size, 0, none⟩) 3 turns0 ∧ W.heap[w.heap.size + 1]? = some (.cells #[.int .u32 0, .slice (some ⟨w.heap.size, 0, none⟩) 3 3, .int .i64 2, .int .i64 0, .int .i64 0, .int .i64 0] 32 (0, 0)) ∧ Below w.heap.size w W) :=
    Lib.hid (fun W hW => ⟨Kd.F_mono (F_belowN hF1 (hW.mono (by omega))) (fun k hk => by have := hW.size; omega), blk_below hx1 hW, hb1.trans (hW.mono hb1.size)⟩)
  clear hF1 hx1 hb1
  go_at_call 10
  refine (len10 taken0 (some ⟨w.heap.size, 0, none⟩) 3 W1 (HF.out _ (Below.refl _ _)).1 (Nat.le_refl _) ok0).mono ?_
  rw [show sumW 0 taken0.f1 = 4 from sum0]
  rintro e w2 ⟨rfl, hb2⟩
  obtain ⟨z0, z1, z2, z3, z4, z5⟩ := box6 (HF.out _ hb2).2.1
  have HB2 := Lib.hid hb2
  clear hb2
  go_wp2_with fail
  have hb3 := HB2.out.alloc HB2.out.size (.cells #[.int .i64 1, .int .i64 3] 3)
  have hP := cut11 taken0 (some ⟨w.heap.size, 0, none⟩) 3 1 3 w2.heap.size 3 _ (HF.out _ hb3).1 (Nat.le_refl _) ok0 (by decide) (by decide) (by decide +kernel) (by decide +kernel) (blk_new w2 _)
  go_at_call 11
  refine hP.mono ?_
  rintro e w4 ⟨h, _⟩
  obtain ⟨g, c4, rfl, hc4, hC4, hb4⟩ := h (by decide)
  have hb4' := hb3.trans (hb4.mono hb3.size)
  obtain ⟨z0, z1, z2, z3, z4, z5⟩ := box6 (HF.out _ hb4').2.1
  have HB4 := Lib.hid hb4'
  have HC4 : Hid (k32.C w4 (some ⟨g, 0, none⟩) 3 pieces0) := Lib.hid hC4
  clear hb3 hP h hb4 hb4' hC4
  go_wp2_with (first | (go_at_call 9; refine (num_any _ _).mono ?_; rintro e wz ⟨rfl, rfl⟩))
  go_at_call 6
  refine (join6 (some ⟨g, 0, none⟩) c4 pieces0 w4 HC4.out (by decide) (fun i hi => by rw [pieces0_eq] at hi ⊢; obtain rfl | rfl | rfl : i = 0 ∨ i = 1 ∨ i = 2 := (by simp at hi; omega) <;> decide)).mono ?_
  rintro e w5 h5
  obtain ⟨v5, rfl, hO5, hb5⟩ := joins0 _ _ _ h5
  obtain ⟨A5, c5, rfl, hc5, hC5⟩ := hO5.reads
  have hb5' := HB4.out.trans (hb5.mono HB4.out.size)
  obtain ⟨z0, z1, z2, z3, z4, z5⟩ := box6 (HF.out _ hb5').2.1
  have HB5 := Lib.hid hb5'
  have HC5 : Hid (∀ W, Below w5.heap.size w5 W → Kd.C k42 W A5 3 turns0 ∧ Kd.C k32 W (some ⟨g, 0, none⟩) 3 pieces0) := Lib.hid (fun W hW => ⟨Kd.C_below hC5 hW, Kd.C_below (Kd.C_below HC4.out hb5) hW⟩)
  have hs5 : w.heap.size + 1 < w5.heap.size := blk_lt (HF.out _ hb5').2.1
  clear h5 hO5 hb5 hb5' hC5
  go_wp2_with fail
  have hb6 := HB5.out.alloc HB5.out.size (.cells #[.int .u32 taken0.f0, .slice A5 taken0.f1.length c5, .int .i64 taken0.f2.f0, .int .i64 taken0.f2.f1, .int .i64 taken0.f2.f2, .int .i64 taken0.f2.f3] 32)
  have ho6 := blk_new w5 (.cells #[.int .u32 taken0.f0, .slice A5 taken0.f1.length c5, .int .i64 taken0.f2.f0, .int .i64 taken0.f2.f1, .int .i64 taken0.f2.f2, .int .i64 taken0.f2.f3] 32)
  go_at_call 12
  refine (at12 _ 3 _ (HF.out _ hb6).1 (Nat.le_refl _)).mono ?_
  rintro e w7 ⟨rfl, hb7⟩
  have hb7' := hb6.trans (hb7.mono hb6.size)
  have ho7 := blk_below ho6 hb7
  have h57 : Below w5.heap.size w5 w7 := ((Below.refl _ w5).alloc (Nat.le_refl _) _).trans (hb7.mono (by simp))
  obtain ⟨z0, z1, z2, z3, z4, z5⟩ := box6 (HF.out _ hb7').2.1
  have hs7 : w.heap.size + 1 < w7.heap.size := blk_lt (HF.out _ hb7').2.1
  have HB7 := Lib.hid hb7'
  have HO7 := Lib.hid ho7
  have H57 := Lib.hid h57
  clear hb6 ho6 hb7 hb7' ho7 h57
  go_wp2_with fail
  have hb8 := HB7.out.alloc HB7.out.size (.cells #[.int .i64 3, .int .i64 1] 3)
  have hP := cut11 taken0 (some ⟨w.heap.size, 0, none⟩) 3 3 1 w7.heap.size 3 _ (HF.out _ hb8).1 (Nat.le_refl _) ok0 (by decide) (by decide) (by decide +kernel) (by decide +kernel) (blk_new w7 _)
  go_at_call 11
  refine hP.mono ?_
  rintro e w9 ⟨_, h⟩
  obtain ⟨rfl, hb9⟩ := h (by decide)
  have hb9' := hb8.trans (hb9.mono hb8.size)
  have h79 : Below w7.heap.size w7 w9 := ((Below.refl _ w7).alloc (Nat.le_refl _) _).trans (hb9.mono (by simp))
  have HB9 := Lib.hid hb9'
  have HO9 := Lib.hid (blk_below HO7.out h79)
  have H59 := Lib.hid (H57.out.trans (h79.mono H57.out.size))
  clear hb8 hP h hb9 hb9' h79 HO7 H57 HB7
  go_wp2_with fail
  go_at_call 6
  refine (join6 none 0 [] w9 (Kd.C_nil _ _) (by decide) (fun i hi => absurd hi (Nat.not_lt_zero i))).mono ?_
  rintro e w10 h10
  obtain ⟨v10, rfl, hO10, hb10⟩ := join00 _ _ _ h10
  obtain ⟨A10, c10, rfl, _, _⟩ := hO10.reads
  have hb10' := HB9.out.trans (hb10.mono HB9.out.size)
  have h11 : Below w10.heap.size w10 (w10.alloc (.cells #[.int .u32 z32.f0, .slice A10 z32.f1.length c10, .int .i64 z32.f2.f0, .int .i64 z32.f2.f1, .int .i64 z32.f2.f2, .int .i64 z32.f2.f3] 32)) := (Below.refl _ w10).alloc (Nat.le_refl _) _
  clear z0 z1 z2 z3 z4 z5 hO10
  go_upto_region 10 with fail
  obtain ⟨W, hW⟩ : ∃ W, w10.alloc (.cells #[.int .u32 z32.f0, .slice A10 z32.f1.length c10, .int .i64 z32.f2.f0, .int .i64 z32.f2.f1, .int .i64 z32.f2.f2, .int .i64 z32.f2.f3] 32) = W := ⟨_, rfl⟩
  rw [hW] at h11 ⊢
  clear hW
  have hW1 : Below W1.heap.size W1 W := hb10'.trans (h11.mono hb10'.size)
  have hW5 : Below w5.heap.size w5 W := (H59.out.trans (hb10.mono H59.out.size)).trans (h11.mono (Nat.le_trans H59.out.size hb10.size))
  have hbo := blk_below (blk_below HO9.out hb10) h11
  obtain ⟨z0, z1, z2, z3, z4, z5⟩ := box6 (HF.out _ hW1).2.1
  obtain ⟨o0, o1, o2, o3, o4, o5⟩ := box6 hbo
  obtain ⟨ad0, A1, c1, ea, _, p1, p2, _, _, _, _, _⟩ := at_T32 (HC5.out _ hW5).2 0 (by decide) (by decide)
  injection ea with ea
  subst ea
  obtain ⟨ad1, A2, c2, ea, _, q1, _, _, _, _, _, _⟩ := at_T32 (HC5.out _ hW5).2 1 (by decide) (by decide)
  injection ea with ea
  subst ea
  obtain ⟨ad2, A3, c3, ea, _, _, r2, _, _, _, _, _⟩ := at_T32 (HC5.out _ hW5).2 2 (by decide) (by decide)
  injection ea with ea
  subst ea
  rw [pieces0_eq] at p1 p2 q1 r2
  simp [Addr.add, rd_T32] at p1 p2 q1 r2
  have HS := same8 taken0 A5 (some ⟨w.heap.size, 0, none⟩) c5 3 W (HC5.out _ hW5).1 (Kd.F_now (HF.out _ hW1).1)
  have HBW := Lib.hid (HF.out _ hW1).2.2
  clear hW1 hW5 hbo h11 hb10 hb10' HB9 HO9 H59 HC5 HB5 HC4 HB4 HB2 hs7 hs5 hsz
  have HSS := Lib.hid HS
  clear HS
  go_wp2_with (first | (go_at_call 9; refine (num_any _ _).mono ?_; rintro e wz ⟨rfl, rfl⟩) | (go_at_call 8; refine HSS.out.mono ?_; rintro e wz ⟨rfl, hbz⟩; have HBZ := Lib.hid hbz; clear hbz))
  go_ret
  exact ⟨rfl, HBW.out.trans (HBZ.out.mono HBW.out.size)⟩
end Go.Proofs.Ytlpfjlmeohaagaa
