/- The walks of TapeJoins, part L: tape.Len. -/
import Derived.Test.YtlpfjlmeohaagaaK
namespace Go.Proofs.Ytlpfjlmeohaagaa
open Go.RowKit Go.Shelf Go.Proofs.Ytlpfjlmeohaagaa.PTapeJoins Go.Proofs.YtlpfjlmeohaagaaW.PrintWords
set_option linter.unusedVariables false
set_option linter.unusedSimpArgs false

theorem results10 (W : World) (bo be : Nat) (cn ce : Value) (tmps : Array Value)
    (ho : W.heap[bo]? = some (.cells #[cn] 3 (0, 0))) (he : W.heap[be]? = some (.cells #[ce] 33 (0, 0)))
    (t2 : tmps[2]? = some (.pointer (some ⟨bo, 0, none⟩))) (t3 : tmps[3]? = some (.pointer (some ⟨be, 0, none⟩))) :
    (results Try.f10 tmps).run Try.prog W = .ok (.tuple #[cn, ce]) W := by
  have k0 : W.cell? ⟨bo, 0, none⟩ = some cn := blk_cell ho 0
  have e0 : W.cell? ⟨be, 0, none⟩ = some ce := blk_cell he 0
  clear ho he
  simp [results, Try.results10, go_sem, t2, t3, k0, e0]

set_option maxRecDepth 100000 in
theorem len10 (t : S32) (A : Option Addr) (c : Nat) (w : World) (hF : Kd.F k42 w (fun k => k < w.heap.size) A t.f1.length t.f1) (hc : t.f1.length ≤ c) (hok : okB t = true) :
    Calls Try.prog 10 #[.agg #[.int .u32 t.f0, .slice A t.f1.length c, .int .i64 t.f2.f0, .int .i64 t.f2.f1, .int .i64 t.f2.f2, .int .i64 t.f2.f3]] w (fun e w' => e = .returned (.tuple #[.int .i64 (sumW 0 t.f1), .int .i64 0]) ∧ Below w.heap.size w w') := by
  have HF := Lib.hid hF
  have hmf : ∀ (fn : Fn) (first cap : Array Value) (w : World), (Instr.makeFunc fn first cap).run Try.prog w = .ok (.func fn first cap) w := fun _ _ _ _ => rfl
  clear hF
  go_enter_defers Try.func10, Try.ntmps10
  go_wp2_with fail
  have b1 := blk_alloc (blk_new (w.alloc (.cells #[.int .u32 t.f0, .slice A t.f1.length c, .int .i64 t.f2.f0, .int .i64 t.f2.f1, .int .i64 t.f2.f2, .int .i64 t.f2.f3] 32)) (.cells #[.int .i64 0] 3)) (.cells #[.int .i64 0] 33)
  have b2 := blk_new ((w.alloc (.cells #[.int .u32 t.f0, .slice A t.f1.length c, .int .i64 t.f2.f0, .int .i64 t.f2.f1, .int .i64 t.f2.f2, .int .i64 t.f2.f3] 32)).alloc (.cells #[.int .i64 0] 3)) (.cells #[.int .i64 0] 33)
  rw [World.size_alloc] at b1
  rw [World.size_alloc, World.size_alloc] at b2
  have hB0 := (((Below.refl _ w).alloc (Nat.le_refl _) (.cells #[.int .u32 t.f0, .slice A t.f1.length c, .int .i64 t.f2.f0, .int .i64 t.f2.f1, .int .i64 t.f2.f2, .int .i64 t.f2.f3] 32)).alloc (by simp) (.cells #[.int .i64 0] 3)).alloc (by simp; omega) (.cells #[.int .i64 0] 33)
  obtain ⟨W0, hW0⟩ : ∃ W0, ((w.alloc (.cells #[.int .u32 t.f0, .slice A t.f1.length c, .int .i64 t.f2.f0, .int .i64 t.f2.f1, .int .i64 t.f2.f2, .int .i64 t.f2.f3] 32)).alloc (.cells #[.int .i64 0] 3)).alloc (.cells #[.int .i64 0] 33) = W0 := ⟨_, rfl⟩
  rw [hW0] at b1 b2 hB0 ⊢
  clear hW0
  have hF0 := F_belowN HF.out hB0
  have HH := Lib.hid (And.intro b1 (And.intro b2 (And.intro hB0 hF0)))
  clear b1 b2 hB0 hF0 HF
  go_at_call 16
  refine (of_yes t A c _ (Kd.F_now HH.out.2.2.2) hc hok).mono ?_
  rintro e w1 ⟨rfl, hb1⟩
  have HB1 := Lib.hid hb1
  clear hb1
  go_wp2_with fail
  go_at_call 17
  refine (steps17 t A c _ (Kd.F_mono (Kd.F_below HH.out.2.2.2 HB1.out) (fun k hk => by have := HB1.out.size; have := HH.out.2.2.1.size; omega))).mono ?_
  rintro e w2 ⟨rfl, hb2⟩
  have e1 := blk_below (blk_below HH.out.1 HB1.out) hb2
  have e2 := blk_below (blk_below HH.out.2.1 HB1.out) hb2
  have hb3 : Below w.heap.size w w2 := (HH.out.2.2.1.trans (HB1.out.mono HH.out.2.2.1.size)).trans (hb2.mono (Nat.le_trans HH.out.2.2.1.size HB1.out.size))
  have c0 : w2.cell? ⟨w.heap.size + 1, 0, none⟩ = _ := blk_cell e1 0
  have c1 : w2.cell? ⟨w.heap.size + 1 + 1, 0, none⟩ = _ := blk_cell e2 0
  simp at c0 c1
  have f0 := blk_frozen e1 0
  have f1 := blk_frozen e2 0
  have s1 := blk_lt e1
  have s2 := blk_lt e2
  have H2 := Lib.hid (And.intro e1 (And.intro e2 hb3))
  clear HH HB1 hb2 e1 e2 hb3
  go_wp2_with fail
  obtain ⟨e1, e2, hb3⟩ := H2.out
  refine leaves_cons (f := 13) (args := #[.pointer (some ⟨w.heap.size + 1 + 1, 0, none⟩), .func (.func 24) #[] #[.pointer (some ⟨w.heap.size + 1, 0, none⟩)]]) (by simp) (by simp [go_sem]) ?_
  refine (caught_idle ⟨w.heap.size + 1 + 1, 0, none⟩ _ _).mono ?_
  rintro e u' w' ⟨rfl, rfl, rfl⟩
  have q1 := blk_far (blk_set e1 0 (.int .i64 (sumW 0 t.f1))) (p := ⟨w.heap.size + 1 + 1, 0, none⟩) (by simp) (.int .i64 0)
  have q2 := blk_set (blk_far e2 (p := ⟨w.heap.size + 1, 0, none⟩) (by simp) (.int .i64 (sumW 0 t.f1))) 0 (.int .i64 0)
  refine ⟨_, results10 _ (w.heap.size + 1) (w.heap.size + 1 + 1) _ _ _ (by simpa using q1) (by simpa using q2) rfl rfl, rfl, ?_⟩
  exact (hb3.setCell (p := ⟨w.heap.size + 1, 0, none⟩) (by simp) _).setCell (p := ⟨w.heap.size + 1 + 1, 0, none⟩) (by simp; omega) _
end Go.Proofs.Ytlpfjlmeohaagaa
