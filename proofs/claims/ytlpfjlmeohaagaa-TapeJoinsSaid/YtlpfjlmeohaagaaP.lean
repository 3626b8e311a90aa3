/- The walks of TapeJoins, part P: TapeJoins itself. -/
import Derived.Test.YtlpfjlmeohaagaaO
namespace Go.Proofs.Ytlpfjlmeohaagaa
open Go.RowKit Go.Shelf Go.Proofs.Ytlpfjlmeohaagaa.PTapeJoins Go.Proofs.YtlpfjlmeohaagaaW.PrintWords
set_option linter.unusedVariables false
set_option linter.unusedSimpArgs false

theorem joinEnds_post {w : World} {ps : List S32} {e : Ending} {w' : World} (h : JoinEnds w ps e w') : JoinPost w (joinR ps).1 (joinR ps).2 e w' := h
theorem refJoins_post {w : World} {ps : List S32} {e : Ending} {w' : World} (h : RefJoins w ps e w') : RefPost w (joinR ps).1 (joinR ps).2 e w' := h

set_option maxRecDepth 100000 in
set_option maxHeartbeats 2000000 in
theorem law3 (A : Option Addr) (c : Nat) (ps : List S32) (w : World) (hC : Kd.C k32 w A ps.length ps) : Calls Try.prog 3 #[.slice A ps.length c] w (fun e w' => e = .returned (.bool true) ∧ Below w.heap.size w w') := by
  have HC := Lib.hid hC
  by_cases hlen : ps.length ≤ 5
  · have hd : decide (5 < ps.length) = false := decide_eq_false (by omega)
    clear hC
    go_enter Try.func3, Try.ntmps3
    go_wp2_with fail
    go_loopw [3] (fun v3 wr => ∃ k : Nat, k ≤ ps.length ∧ v3 = .int .i64 k ∧ (∀ i : Nat, i < k → (rd_T32 ps i).f1.length ≤ 40) ∧ Below w.heap.size w wr)
      (fun v3 _ => ps.length - (intOf v3).toNat)
    case atStart => exact ⟨0, Nat.zero_le _, rfl, fun i hi => absurd hi (Nat.not_lt_zero i), Below.refl _ _⟩
    case round =>
      obtain ⟨k, hk, rfl, hall, hb⟩ := hrel
      by_cases hlt : k < ps.length
      · obtain ⟨ad, A1, c1, hA, x0, x1, x2, x3, x4, x5, hc1, hF, _⟩ := piece HC.out hb (k : Int) (by omega) (by omega)
        subst hA
        obtain ⟨p, hp⟩ : ∃ p, rd_T32 ps (k : Int) = p := ⟨_, rfl⟩
        rw [hp] at x0 x1 x2 x3 x4 x5
        simp only [Int.toNat_natCast] at x0 x1 x2 x3 x4 x5
        have HP := Lib.hid hp
        have HALL := Lib.hid hall
        have HB := Lib.hid hb
        clear hp hc1 hF hall hb
        by_cases hfew : p.f1.length ≤ 40
        · have hf : decide ((p.f1.length : Int) ≤ 40) = true := decide_eq_true (by omega)
          go_wp2_with (first | (go_at_call 5; refine (few5 p A1 c1 _).mono ?_; rw [hf]; rintro e w1 ⟨rfl, hb1⟩))
          go_roundw
          case rel => exact ⟨k + 1, by omega, by go_num, fun i hi => by rcases Nat.lt_succ_iff_lt_or_eq.1 hi with h | rfl; exact HALL.out i h; rw [HP.out]; exact hfew, HB.out.trans (hb1.mono HB.out.size)⟩
          case measure => simp [intOf]; omega
        · have hf : decide ((p.f1.length : Int) ≤ 40) = false := decide_eq_false (by omega)
          go_wp2_with (first | (go_at_call 5; refine (few5 p A1 c1 _).mono ?_; rw [hf]; rintro e w1 ⟨rfl, hb1⟩) | (go_at_call 4; refine (known4 _).mono ?_; rintro e w2 ⟨rfl, hb2⟩))
          go_ret
          exact ⟨rfl, (HB.out.trans (hb1.mono HB.out.size)).trans (hb2.mono (Nat.le_trans HB.out.size hb1.size))⟩
      · obtain rfl : k = ps.length := by omega
        have HB := Lib.hid hb
        have HJ := Lib.hid (join6 A c ps wr (Kd.C_below HC.out hb) hlen hall)
        have HALL := Lib.hid hall
        clear hb hall
        go_wp2_with fail
        go_at_call 6
        refine HJ.out.mono ?_
        rintro e w1 h1
        obtain ⟨v1, rfl, hO1, hb1⟩ := joinEnds_post h1
        obtain ⟨A1, c1, rfl, hc1, hC1⟩ := hO1.reads
        have hB1 := HB.out.trans (hb1.mono HB.out.size)
        have HB1 := Lib.hid hB1
        have HC1 : Hid (∀ W, Below w1.heap.size w1 W → Kd.C k42 W A1 (joinR ps).1.f1.length (joinR ps).1.f1) := Lib.hid (fun W hW => Kd.C_below hC1 hW)
        have HR := Lib.hid (fun W (hW : Below w.heap.size w W) => ref7 A c ps W (Kd.C_below HC.out hW) hlen HALL.out)
        clear hO1 hb1 hC1 hB1 HJ h1
        go_wp2_with fail
        obtain ⟨r, hr⟩ : ∃ r, joinR ps = r := ⟨_, rfl⟩
        have ho2 := blk_new w1 (.cells #[.int .u32 (joinR ps).1.f0, .slice A1 (joinR ps).1.f1.length c1, .int .i64 (joinR ps).1.f2.f0, .int .i64 (joinR ps).1.f2.f1, .int .i64 (joinR ps).1.f2.f2, .int .i64 (joinR ps).1.f2.f3] 32)
        have h12 : Below w1.heap.size w1 (w1.alloc (.cells #[.int .u32 (joinR ps).1.f0, .slice A1 (joinR ps).1.f1.length c1, .int .i64 (joinR ps).1.f2.f0, .int .i64 (joinR ps).1.f2.f1, .int .i64 (joinR ps).1.f2.f2, .int .i64 (joinR ps).1.f2.f3] 32)) := (Below.refl _ w1).alloc (Nat.le_refl _) _
        go_at_call 7
        refine (HR.out _ (HB1.out.trans (h12.mono HB1.out.size))).mono ?_
        rintro e w3 h3
        obtain ⟨A3, c3, rfl, hc3, hC3, hb3⟩ := refJoins_post h3
        have ho3 := blk_below ho2 hb3
        have h13 := h12.trans (hb3.mono h12.size)
        have ho4 := blk_new w3 (.cells #[.int .u32 (joinR ps).1.f0, .slice A3 (joinR ps).1.f1.length c3, .int .i64 (joinR ps).1.f2.f0, .int .i64 (joinR ps).1.f2.f1, .int .i64 (joinR ps).1.f2.f2, .int .i64 (joinR ps).1.f2.f3] 32)
        have h34 : Below w3.heap.size w3 (w3.alloc (.cells #[.int .u32 (joinR ps).1.f0, .slice A3 (joinR ps).1.f1.length c3, .int .i64 (joinR ps).1.f2.f0, .int .i64 (joinR ps).1.f2.f1, .int .i64 (joinR ps).1.f2.f2, .int .i64 (joinR ps).1.f2.f3] 32)) := (Below.refl _ w3).alloc (Nat.le_refl _) _
        go_upto_region 10 with fail
        have hCa := HC1.out _ (h13.trans (h34.mono h13.size))
        have hCb := Kd.C_below hC3 h34
        have ho5 := blk_below ho3 h34
        have hBW := HB1.out.trans ((h13.trans (h34.mono h13.size)).mono HB1.out.size)
        rw [hr] at hCa hCb ho4 ho5 hBW
        obtain ⟨W, hW⟩ : ∃ W, w3.alloc (.cells #[.int .u32 r.1.f0, .slice A3 r.1.f1.length c3, .int .i64 r.1.f2.f0, .int .i64 r.1.f2.f1, .int .i64 r.1.f2.f2, .int .i64 r.1.f2.f3] 32) = W := ⟨_, rfl⟩
        rw [hW] at hCa hCb ho4 ho5 hBW ⊢
        obtain ⟨z0, z1, z2, z3, z4, z5⟩ := box6 ho5
        obtain ⟨y0, y1, y2, y3, y4, y5⟩ := box6 ho4
        have HS := Lib.hid (same8 r.1 A1 A3 c1 c3 W hCa hCb)
        have HBW := Lib.hid hBW
        have he : (r.2 == r.2) = true := by simp
        clear hW hCa hCb ho4 ho5 hBW ho2 ho3 h12 h13 h34 hb3 hC3 h3 hr HR HC1 HB1 HB HALL HC
        go_wp2_with (first | (go_at_call 8; refine HS.out.mono ?_; rintro e w6 ⟨rfl, hb6⟩) | (go_at_call 9; refine (num_any _ _).mono ?_; rintro e wz ⟨rfl, rfl⟩) | (go_at_call 4; refine (known4 _).mono ?_; rintro e w7 ⟨rfl, hb7⟩))
        go_ret
        exact ⟨rfl, (HBW.out.trans (hb6.mono HBW.out.size)).trans (hb7.mono (Nat.le_trans HBW.out.size hb6.size))⟩
  · have hd : decide (5 < ps.length) = true := decide_eq_true (by omega)
    have hd' : decide (5 < (ps.length : Int)) = true := decide_eq_true (by omega)
    clear hC
    go_enter Try.func3, Try.ntmps3
    go_wp2_with (first | (go_at_call 4; refine (known4 _).mono ?_; rintro e w1 ⟨rfl, hb1⟩))
    go_ret
    exact ⟨rfl, hb1⟩
end Go.Proofs.Ytlpfjlmeohaagaa
