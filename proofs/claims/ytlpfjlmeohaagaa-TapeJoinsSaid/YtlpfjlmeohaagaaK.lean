/- The walks of TapeJoins, part K: tape.part, where the piece reaches the end. -/
import Derived.Test.YtlpfjlmeohaagaaJ
namespace Go.Proofs.Ytlpfjlmeohaagaa
open Go.RowKit Go.Shelf Go.Proofs.Ytlpfjlmeohaagaa.PTapeJoins Go.Proofs.YtlpfjlmeohaagaaW.PrintWords Go.Proofs.YtlpfjlmeohaagaaW.PrintLast Go.Proofs.YtlpfjlmeohaagaaW.PrintMore
set_option linter.unusedVariables false
set_option linter.unusedSimpArgs false

attribute [local go_sem] max2_i min2_i max_two min_two
set_option maxRecDepth 100000 in
set_option maxHeartbeats 4000000 in
theorem part26_end (t : S32) (A : Option Addr) (c : Nat) (f u : Int) (w : World) (hF : Kd.F k42 w (fun k => k < w.heap.size) A t.f1.length t.f1) (hc : t.f1.length ≤ c) (hok : okB t = true) (hlen : t.f1.length ≤ 1000)
    (h0 : 0 ≤ f) (h1 : f ≤ u) (h2 : u ≤ sumW 0 t.f1) (hum : u = sumW 0 t.f1) :
    Calls Try.prog 26 #[.agg #[.int .u32 t.f0, .slice A t.f1.length c, .int .i64 t.f2.f0, .int .i64 t.f2.f1, .int .i64 t.f2.f2, .int .i64 t.f2.f3], .int .i64 f, .int .i64 u] w (PartPost w (partR t f u)) := by
  have hK17 := fun (o1 o2 : Obj) => steps17 t A c ((w.alloc o1).alloc o2) (Kd.F_mono (Kd.F_alloc (Kd.F_alloc hF o1) o2) (fun k hk => by simp; omega))
  obtain ⟨m, hm⟩ : ∃ m, sumW 0 t.f1 = m := ⟨_, rfl⟩
  rw [hm] at hK17 h2 hum
  have HF := Lib.hid hF
  have HM := Lib.hid hm
  clear hF hm
  subst hum
  have hum' : (u == u) = true := by simp
  have hd1 : decide (0 ≤ f) = true := decide_eq_true h0
  have hd2 : decide (f ≤ u) = true := decide_eq_true h1
  have hd3 : decide (u ≤ u) = true := decide_eq_true h2
  go_enter Try.func26, Try.ntmps26
  go_wp2_with (first | (go_at_call 17; refine (hK17 _ _).mono ?_; rintro e w1 ⟨rfl, hb1⟩; (have g3 := blk_below (blk_alloc (blk_new w (.cells #[.int .u32 t.f0, .slice A t.f1.length c, .int .i64 t.f2.f0, .int .i64 t.f2.f1, .int .i64 t.f2.f2, .int .i64 t.f2.f3] 53)) (.cells #[.int .u32 0, .slice none 0 0, .int .i64 0, .int .i64 0, .int .i64 0, .int .i64 0] 32)) hb1); (have g6 := blk_below (blk_new (w.alloc (.cells #[.int .u32 t.f0, .slice A t.f1.length c, .int .i64 t.f2.f0, .int .i64 t.f2.f1, .int .i64 t.f2.f2, .int .i64 t.f2.f3] 53)) (.cells #[.int .u32 0, .slice none 0 0, .int .i64 0, .int .i64 0, .int .i64 0, .int .i64 0] 32)) hb1); rw [World.size_alloc] at g6; (have z0 : w1.cell? ⟨w.heap.size, 0, none⟩ = _ := blk_cell g3 0); (have z1 : w1.cell? ⟨w.heap.size, 1, none⟩ = _ := blk_cell g3 1); (have z2 : w1.cell? ⟨w.heap.size, 2, none⟩ = _ := blk_cell g3 2); (have z3 : w1.cell? ⟨w.heap.size, 3, none⟩ = _ := blk_cell g3 3); (have z4 : w1.cell? ⟨w.heap.size, 4, none⟩ = _ := blk_cell g3 4); (have z5 : w1.cell? ⟨w.heap.size, 5, none⟩ = _ := blk_cell g3 5); simp at z0 z1 z2 z3 z4 z5; have hs0 := blk_lt g3; have HB1 := Lib.hid hb1; have G3 := Lib.hid g3; have G6 := Lib.hid g6; clear hb1 g3 g6) | (go_at_call 15; refine (must_yes _ _).mono ?_; rintro e w2 ⟨rfl, rfl⟩))
  go_loopw [9, 45] (fun v9 v45 wr => ∃ (k : Nat) (at' : Int) (acc : List S42) (v : Value), k ≤ t.f1.length ∧ v45 = .int .i64 k ∧ v9 = .int .i64 at' ∧ acc.length ≤ k ∧ partL f u t.f1 0 [] = partL f u (t.f1.drop k) at' acc ∧
      (wr.heap[w1.heap.size]? = some (.cells #[.int .u32 t.f0, v, .int .i64 t.f2.f0, .int .i64 t.f2.f1, .int .i64 t.f2.f2, .int .i64 t.f2.f3] 32 (0, 0)) ∧ wr.heap[w.heap.size + 1]? = some (.cells #[.int .u32 0, .slice none 0 0, .int .i64 0, .int .i64 0, .int .i64 0, .int .i64 0] 32 (0, 0)) ∧ OwnT wr w.heap.size v acc ∧ Below w.heap.size w wr))
    (fun _ v45 _ => t.f1.length - (intOf v45).toNat)
  case atStart =>
    refine ⟨0, 0, [], _, Nat.zero_le _, rfl, rfl, Nat.le_refl _, rfl, ?_, ?_, own_nil _ _ _ _, ?_⟩
    · exact blk_new w1 _
    · exact blk_alloc G6.out _
    · exact ((((Below.refl _ w).alloc (Nat.le_refl _) _).alloc (by simp) _).trans (HB1.out.mono (by simp; omega))).alloc (by have := HB1.out.size; simp at this; omega) _
  case round =>
    obtain ⟨k, at', acc, v, hk, rfl, rfl, hacc, hpl, ho, hz, hown, hb⟩ := hrel
    clear z0 z1 z2 z3 z4 z5 hs0
    by_cases hlt : k < t.f1.length
    · obtain ⟨ad, hA, hx0, hx1⟩ := at_T42 (Kd.F_now (F_belowN HF.out hb)) (k : Int) (by omega) (by exact_mod_cast hlt)
      rw [drop_rd t.f1 k hlt] at hpl
      obtain ⟨x, hx⟩ : ∃ x, rd_T42 t.f1 (k : Int) = x := ⟨_, rfl⟩
      rw [hx] at hpl hx0 hx1
      clear hx
      subst hA
      simp only [Int.toNat_natCast] at hx0 hx1
      simp only [partL] at hpl
      obtain ⟨Av, cv, rfl, hcv, _⟩ := hown.reads
      have z1 : wr.cell? ⟨w1.heap.size, 1, none⟩ = _ := blk_cell ho 1
      simp at z1
      have f1 := blk_frozen ho 1
      have hs1 := blk_lt ho
      obtain ⟨a, ha⟩ : ∃ a, imax f at' = a := ⟨_, rfl⟩
      obtain ⟨b', hb'⟩ : ∃ b', imin u (wrap64 (at' + x.f1)) = b' := ⟨_, rfl⟩
      rw [ha, hb'] at hpl
      have hB1 : ∀ (nq : Nat), Below wr.heap.size wr ((wr.alloc (.cells #[.int .i64 x.f0, .int .i64 x.f1] 42)).drewN nq) := fun nq => pw_below_drewN ((Below.refl _ wr).alloc (Nat.le_refl _) _) nq
      have hput : ∀ nq, Calls Try.prog 19 #[.slice Av acc.length cv, .agg #[.int .i64 x.f0, .int .i64 (wrap64 (b' - a))]] ((wr.alloc (.cells #[.int .i64 x.f0, .int .i64 x.f1] 42)).drewN nq) (PutPost w.heap.size ((wr.alloc (.cells #[.int .i64 x.f0, .int .i64 x.f1] 42)).drewN nq) (.slice Av acc.length cv) (putL acc x.f0 (wrap64 (b' - a)))) := fun nq =>
        put19 w.heap.size acc Av cv x.f0 (wrap64 (b' - a)) _ (hown.below (hB1 nq)) (Nat.le_trans hb.size (hB1 nq).size) (by omega)
      have hfacts : ∀ nq, (((wr.alloc (.cells #[.int .i64 x.f0, .int .i64 x.f1] 42)).drewN nq).heap[w1.heap.size]? = some (.cells #[.int .u32 t.f0, .slice Av acc.length cv, .int .i64 t.f2.f0, .int .i64 t.f2.f1, .int .i64 t.f2.f2, .int .i64 t.f2.f3] 32 (0, 0)) ∧ ((wr.alloc (.cells #[.int .i64 x.f0, .int .i64 x.f1] 42)).drewN nq).heap[w.heap.size + 1]? = some (.cells #[.int .u32 0, .slice none 0 0, .int .i64 0, .int .i64 0, .int .i64 0, .int .i64 0] 32 (0, 0)) ∧ OwnT ((wr.alloc (.cells #[.int .i64 x.f0, .int .i64 x.f1] 42)).drewN nq) w.heap.size (.slice Av acc.length cv) acc ∧ Below w.heap.size w ((wr.alloc (.cells #[.int .i64 x.f0, .int .i64 x.f1] 42)).drewN nq)) := fun nq =>
        ⟨blk_below ho (hB1 nq), blk_below hz (hB1 nq), hown.below (hB1 nq), hb.trans ((hB1 nq).mono hb.size)⟩
      have HPUT := Lib.hid hput
      have HFA := Lib.hid hfacts
      have HPL := Lib.hid hpl
      have HACC := Lib.hid hacc
      have HH := Lib.hid (And.intro ho (And.intro hz (And.intro hown hb)))
      clear hpl hacc ho hz hown hb
      clear hB1 hput hfacts
      have hlen1 := putL_length acc x.f0 (wrap64 (b' - a))
      go_wp2_with fail
      go_quiet (fail)
      by_cases hab : a < b'
      · have hab' : decide (a < b') = true := decide_eq_true hab
        go_wp2_with fail
        go_at_call 19
        refine (HPUT.out nq).mono ?_
        rintro e w2 ⟨v', rfl, p1, p2, p3⟩
        obtain ⟨A2, c2, rfl, _, _⟩ := p1.reads
        have g0 := blk_grown (HFA.out nq).1 p2 (own_ne (HFA.out nq).2.2.1 (HFA.out nq).1 (by decide))
        have q0 : w2.cell? ⟨w1.heap.size, 1, none⟩ = _ := blk_cell g0 1
        simp at q0
        have q1 := blk_frozen g0 1
        have hs2 := blk_lt g0
        have G0 := Lib.hid g0
        have P := Lib.hid (And.intro p1 (And.intro p2 p3))
        clear g0 p1 p2 p3
        go_wp2_with fail
        go_roundw
        case rel =>
          obtain ⟨p1, p2, p3⟩ := P.out
          have h2 := HFA.out nq
          have q2 := blk_set G0.out 1 (.slice A2 (putL acc x.f0 (wrap64 (b' - a))).length c2)
          have hne1 : some w1.heap.size ≠ (Value.slice A2 (putL acc x.f0 (wrap64 (b' - a))).length c2).ownBlock := own_ne p1 G0.out (by decide)
          have hz2 := blk_grown h2.2.1 p2 (own_ne h2.2.2.1 h2.2.1 (by decide))
          have hw1 : w.heap.size + 1 < w1.heap.size := by have := HB1.out.size; simp at this; omega
          refine ⟨k + 1, _, putL acc x.f0 (wrap64 (b' - a)), _, by omega, by go_num, rfl, by have := HACC.out; omega, by rw [HPL.out, if_pos hab], by simpa using q2, blk_far hz2 (by simp; omega) _, own_setCell p1 (by simpa using hne1) _, ?_⟩
          exact (h2.2.2.2.grown p2 h2.2.2.2.size (fun k hk => own_base h2.2.2.1 k hk)).setCell (p := ⟨w1.heap.size, 1, none⟩) (by simp; omega) _
        case measure => simp [intOf]; omega
      · have hab' : decide (a < b') = false := decide_eq_false hab
        go_wp2_with fail
        go_roundw
        case rel => exact ⟨k + 1, _, acc, _, by omega, by go_num, rfl, by have := HACC.out; omega, by rw [HPL.out, if_neg hab], HFA.out nq⟩
        case measure => simp [intOf]; omega
    · obtain rfl : k = t.f1.length := by omega
      obtain ⟨Av, cv, rfl, hcv, _⟩ := hown.reads
      have z0 : wr.cell? ⟨w1.heap.size, 0, none⟩ = _ := blk_cell ho 0
      have z1 : wr.cell? ⟨w1.heap.size, 1, none⟩ = _ := blk_cell ho 1
      have z2 : wr.cell? ⟨w1.heap.size, 2, none⟩ = _ := blk_cell ho 2
      have z3 : wr.cell? ⟨w1.heap.size, 3, none⟩ = _ := blk_cell ho 3
      have z4 : wr.cell? ⟨w1.heap.size, 4, none⟩ = _ := blk_cell ho 4
      have z5 : wr.cell? ⟨w1.heap.size, 5, none⟩ = _ := blk_cell ho 5
      have y0 : wr.cell? ⟨w.heap.size + 1, 0, none⟩ = _ := blk_cell hz 0
      have y1 : wr.cell? ⟨w.heap.size + 1, 1, none⟩ = _ := blk_cell hz 1
      have y2 : wr.cell? ⟨w.heap.size + 1, 2, none⟩ = _ := blk_cell hz 2
      have y3 : wr.cell? ⟨w.heap.size + 1, 3, none⟩ = _ := blk_cell hz 3
      have y4 : wr.cell? ⟨w.heap.size + 1, 4, none⟩ = _ := blk_cell hz 4
      have y5 : wr.cell? ⟨w.heap.size + 1, 5, none⟩ = _ := blk_cell hz 5
      simp at z0 z1 z2 z3 z4 z5 y0 y1 y2 y3 y4 y5
      have hs1 := blk_lt ho
      have hs2 := blk_lt hz
      have fz := (blk_known hz).2
      have HH := Lib.hid (And.intro ho (And.intro hz (And.intro hown hb)))
      have HPL := Lib.hid hpl
      clear ho hz hown hb hpl
      go_wp2_with fail
      obtain ⟨ho, hz, hown, hb⟩ := HH.out
      have h := blk_set (blk_set (blk_set (blk_set (blk_set (blk_set hz 0 (.int .u32 t.f0)) 1 (.slice Av acc.length cv)) 2 (.int .i64 t.f2.f0)) 3 (.int .i64 t.f2.f1)) 4 (.int .i64 t.f2.f2)) 5 (.int .i64 t.f2.f3)
      refine ⟨rfl, _, results26 _ (w.heap.size + 1) (.int .u32 t.f0) (.slice Av acc.length cv) (.int .i64 t.f2.f0) (.int .i64 t.f2.f1) (.int .i64 t.f2.f2) (.int .i64 t.f2.f3) _ (by simpa using h) rfl, ?_⟩
      have hpl := HPL.out
      simp only [List.drop_length, partL] at hpl
      have hr : partR t f u = ⟨t.f0, acc, t.f2⟩ := by unfold partR; rw [hpl, if_pos (by exact HM.out.symm)]
      rw [hr]
      refine ⟨_, rfl, ?_, ?_⟩
      · have hne1 : some (w.heap.size + 1) ≠ (Value.slice Av acc.length cv).ownBlock := own_ne hown hz (by decide)
        repeat (refine own_setCell ?_ (by simpa using hne1) _)
        exact hown
      · repeat (refine Below.setCell ?_ (by simp) _)
        exact hb
theorem part26 (t : S32) (A : Option Addr) (c : Nat) (f u : Int) (w : World) (hF : Kd.F k42 w (fun k => k < w.heap.size) A t.f1.length t.f1) (hc : t.f1.length ≤ c) (hok : okB t = true) (hlen : t.f1.length ≤ 1000)
    (h0 : 0 ≤ f) (h1 : f ≤ u) (h2 : u ≤ sumW 0 t.f1) :
    Calls Try.prog 26 #[.agg #[.int .u32 t.f0, .slice A t.f1.length c, .int .i64 t.f2.f0, .int .i64 t.f2.f1, .int .i64 t.f2.f2, .int .i64 t.f2.f3], .int .i64 f, .int .i64 u] w (PartPost w (partR t f u)) := by
  by_cases hum : u = sumW 0 t.f1
  · exact part26_end t A c f u w hF hc hok hlen h0 h1 h2 hum
  · exact part26_mid t A c f u w hF hc hok hlen h0 h1 h2 hum
end Go.Proofs.Ytlpfjlmeohaagaa
